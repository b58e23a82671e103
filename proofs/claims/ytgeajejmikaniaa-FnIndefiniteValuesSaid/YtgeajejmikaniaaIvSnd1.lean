/-
  The functions of the program compute what the plain functions say.
  Conditions: none.
-/
import Derived.Test.YtgeajejmikaniaaShEx
import Derived.Test.YtgeajejmikaniaaIvRaw
import Derived.Test.YtgeajejmikaniaaRows
namespace Go.Proofs.Ytgeajejmikaniaa
open Go.RowKit
set_option linter.unusedVariables false
set_option linter.unusedSimpArgs false
set_option maxRecDepth 100000
set_option maxHeartbeats 400000
def c5 (x : Int) : List Tr := [.v (.int .u8 x)]
def c3 (x : Int) : List Tr := [Ti x]
def c45 (x : (Int × Int × Int)) : List Tr := [Ti x.1, Ti x.2.1, Ti x.2.2]
def c34 (x : (Int × Int)) : List Tr := [Ti x.1, Ti x.2]
def zv3 : Value := .int .i64 0
theorem zf3 : (Try.prog.info? 3).bind (·.zero) = some zv3 := by kernel_rfl
def zv34 : Value := .agg #[.int .i64 0, .int .i64 0]
theorem zf34 : (Try.prog.info? 34).bind (·.zero) = some zv34 := by kernel_rfl
def zv45 : Value := .agg #[.int .i64 0, .int .i64 0, .int .i64 0]
theorem zf45 : (Try.prog.info? 45).bind (·.zero) = some zv45 := by kernel_rfl
def zv110 : Value := .agg #[.int .i64 0, .int .i64 0, .int .i64 0, .int .i64 0]
theorem zf110 : (Try.prog.info? 110).bind (·.zero) = some zv110 := by kernel_rfl
theorem iz3 : (Try.prog.info? 3).map (fun i => (i.zero, i.size)) = some (some zv3, 1) := by kernel_rfl
theorem iz34 : (Try.prog.info? 34).map (fun i => (i.zero, i.size)) = some (some zv34, 2) := by kernel_rfl
theorem iz45 : (Try.prog.info? 45).map (fun i => (i.zero, i.size)) = some (some zv45, 3) := by kernel_rfl
theorem izb3 : (Try.prog.info? 3).map (fun i => (i.zero, i.size, i.bytes)) = some (some zv3, 1, 8) := by kernel_rfl
theorem izb34 : (Try.prog.info? 34).map (fun i => (i.zero, i.size, i.bytes)) = some (some zv34, 2, 16) := by kernel_rfl
theorem izb45 : (Try.prog.info? 45).map (fun i => (i.zero, i.size, i.bytes)) = some (some zv45, 3, 24) := by kernel_rfl
theorem sc3 : scalar Try.prog 3 := ⟨_, Try.underlying3, rfl⟩
theorem sc5 : scalar Try.prog 5 := ⟨_, Try.underlying5, rfl⟩
theorem sc22 : scalar Try.prog 22 := ⟨_, Try.underlying22, rfl⟩
theorem sc96 : scalar Try.prog 96 := ⟨_, Try.underlying96, rfl⟩
theorem sz3 : (Try.prog.info? 3).map (·.size) = some 1 := by kernel_rfl
theorem sz5 : (Try.prog.info? 5).map (·.size) = some 1 := by kernel_rfl
theorem sz22 : (Try.prog.info? 22).map (·.size) = some 1 := by kernel_rfl
theorem sz34 : (Try.prog.info? 34).map (·.size) = some 2 := by kernel_rfl
theorem sz45 : (Try.prog.info? 45).map (·.size) = some 3 := by kernel_rfl
theorem sz96 : (Try.prog.info? 96).map (·.size) = some 1 := by kernel_rfl
theorem sz110 : (Try.prog.info? 110).map (·.size) = some 4 := by kernel_rfl
theorem wd34 : wide Try.prog 34 2 := ⟨⟨_, Try.underlying34, rfl⟩, by kernel_rfl⟩
theorem wd45 : wide Try.prog 45 3 := ⟨⟨_, Try.underlying45, rfl⟩, by kernel_rfl⟩
theorem wd110 : wide Try.prog 110 4 := ⟨⟨_, Try.underlying110, rfl⟩, by kernel_rfl⟩
def pl34 : Nat → Option (Nat × Nat) := fun i => (#[(0, 1), (1, 1)] : Array (Nat × Nat))[i]?
theorem bt34 : ∀ ps, Try.prog.built 34 ps = Instr.fill pl34 #[.int .i64 0, .int .i64 0] ps := fun ps => by kernel_rfl
def pl45 : Nat → Option (Nat × Nat) := fun i => (#[(0, 1), (1, 1), (2, 1)] : Array (Nat × Nat))[i]?
theorem bt45 : ∀ ps, Try.prog.built 45 ps = Instr.fill pl45 #[.int .i64 0, .int .i64 0, .int .i64 0] ps := fun ps => by kernel_rfl
def pl98 : Nat → Option (Nat × Nat) := fun i => (#[(0, 1), (1, 1), (2, 1)] : Array (Nat × Nat))[i]?
theorem bt98 : ∀ ps, Try.prog.built 98 ps = Instr.fill pl98 #[.slice none 0 0, .int .i64 0, .int .u64 0] ps := fun ps => by kernel_rfl
def pl110 : Nat → Option (Nat × Nat) := fun i => (#[(0, 1), (1, 1), (2, 1), (3, 1)] : Array (Nat × Nat))[i]?
theorem bt110 : ∀ ps, Try.prog.built 110 ps = Instr.fill pl110 #[.int .i64 0, .int .i64 0, .int .i64 0, .int .i64 0] ps := fun ps => by kernel_rfl
theorem eqg34 : EqAg2 Try.prog .eql 34 := by
  intro a0 a1 b0 b1 x y w
  have hg : (eqGuard .eql 34 x y (.agg #[.int .i64 a0, .int .i64 a1]) (.agg #[.int .i64 b0, .int .i64 b1])).run Try.prog w = .ok () w := by simp [eqGuard, (by kernel_rfl : Try.prog.eqGuardType Try.prog.depth 34 = false)]
  have hf : (Try.prog.fieldsOf 34).toList = (match Try.prog.underlying 34 with | some (.struct fs) => fs.toList | _ => []) := by kernel_rfl
  refine ⟨hg, ?_⟩
  rw [run_eql_struct, run_equalIn_agg (d := 9999) (ht := by kernel_rfl) (hp := by kernel_rfl), hf, Try.underlying34]
  by_cases h0 : a0 = b0 <;> by_cases h1 : a1 = b1 <;> simp [Op.eqFields, part, go_sem, h0, h1]
theorem neg34 : EqAg2 Try.prog .neq 34 := by
  intro a0 a1 b0 b1 x y w
  have hg : (eqGuard .neq 34 x y (.agg #[.int .i64 a0, .int .i64 a1]) (.agg #[.int .i64 b0, .int .i64 b1])).run Try.prog w = .ok () w := by simp [eqGuard, (by kernel_rfl : Try.prog.eqGuardType Try.prog.depth 34 = false)]
  have hf : (Try.prog.fieldsOf 34).toList = (match Try.prog.underlying 34 with | some (.struct fs) => fs.toList | _ => []) := by kernel_rfl
  refine ⟨hg, ?_⟩
  rw [run_neq_struct, run_equalIn_agg (d := 9999) (ht := by kernel_rfl) (hp := by kernel_rfl), hf, Try.underlying34]
  by_cases h0 : a0 = b0 <;> by_cases h1 : a1 = b1 <;> simp [Op.eqFields, part, go_sem, h0, h1]
theorem eqg45 : EqAg3 Try.prog .eql 45 := by
  intro a0 a1 a2 b0 b1 b2 x y w
  have hg : (eqGuard .eql 45 x y (.agg #[.int .i64 a0, .int .i64 a1, .int .i64 a2]) (.agg #[.int .i64 b0, .int .i64 b1, .int .i64 b2])).run Try.prog w = .ok () w := by simp [eqGuard, (by kernel_rfl : Try.prog.eqGuardType Try.prog.depth 45 = false)]
  have hf : (Try.prog.fieldsOf 45).toList = (match Try.prog.underlying 45 with | some (.struct fs) => fs.toList | _ => []) := by kernel_rfl
  refine ⟨hg, ?_⟩
  rw [run_eql_struct, run_equalIn_agg (d := 9999) (ht := by kernel_rfl) (hp := by kernel_rfl), hf, Try.underlying45]
  by_cases h0 : a0 = b0 <;> by_cases h1 : a1 = b1 <;> by_cases h2 : a2 = b2 <;> simp [Op.eqFields, part, go_sem, h0, h1, h2]
theorem neg45 : EqAg3 Try.prog .neq 45 := by
  intro a0 a1 a2 b0 b1 b2 x y w
  have hg : (eqGuard .neq 45 x y (.agg #[.int .i64 a0, .int .i64 a1, .int .i64 a2]) (.agg #[.int .i64 b0, .int .i64 b1, .int .i64 b2])).run Try.prog w = .ok () w := by simp [eqGuard, (by kernel_rfl : Try.prog.eqGuardType Try.prog.depth 45 = false)]
  have hf : (Try.prog.fieldsOf 45).toList = (match Try.prog.underlying 45 with | some (.struct fs) => fs.toList | _ => []) := by kernel_rfl
  refine ⟨hg, ?_⟩
  rw [run_neq_struct, run_equalIn_agg (d := 9999) (ht := by kernel_rfl) (hp := by kernel_rfl), hf, Try.underlying45]
  by_cases h0 : a0 = b0 <;> by_cases h1 : a1 = b1 <;> by_cases h2 : a2 = b2 <;> simp [Op.eqFields, part, go_sem, h0, h1, h2]
theorem cf_laws_big : ∀ args w, (callFunc 8 args).run Try.prog w = .ok (.enter 8 args) w := run_callFunc Try.func8 (by kernel_rfl) (by kernel_rfl)
theorem s_laws_big {code1 : List Int} {more2 : List Int} {r : Bool} (h : r_laws_big code1 more2 = some r) : CallS Try.prog 8 [.c (.sl (code1.map c5)), .c (.sl (more2.map c5))] (Bo r) [] := by
  refine CallS_of_text (rs := [.t 4]) (vs := [.tmp 4]) Try.func8 rfl rfl (.cons rfl FitsL.nil) (by decide) 16 rfl ?_
  unfold r_laws_big at h
  show V _ _ ⟨.c (.sl (code1.map c5)) :: .c (.sl (more2.map c5)) :: bt 14 [], []⟩ _
  refine V_e (mb 16 3) [] (s1 := ⟨.c (.sl (code1.map c5)) :: .c (.sl (more2.map c5)) :: bt 14 [], []⟩) ?_
  obtain ⟨t4, ht4, h⟩ := of_bind h
  have ht4 := some_inj ht4
  refine V_sreg (mb 16 16) [] (s1 := ⟨bt 4 (Bo t4 :: bt 11 []), []⟩) ?_ ?_
  ·refine XR 1 ?_
   refine L0 rfl rfl (Y0_lenM (c := c5) (xs := code1) Try.underlying22 rfl (by kernel_rfl)) ?_
   refine XR 2 ?_
   refine XL_split (ltI 1048576 ((code1.length : Int))) (fun hc3 => ?_) (fun hc3 => ?_)
   ·refine XL_skipF _ rfl rfl (by kernel_rfl) hc3 rfl ?_
    refine XL_skipF _ rfl rfl (by kernel_rfl) hc3 rfl ?_
    refine XL_skipF _ rfl rfl (by kernel_rfl) hc3 rfl ?_
    refine XL_skipF _ rfl rfl (by kernel_rfl) hc3 rfl ?_
    refine XL_skipF _ rfl rfl (by kernel_rfl) hc3 rfl ?_
    refine XL_skipF _ rfl rfl (by kernel_rfl) hc3 rfl ?_
    refine XL_cons rfl (X_of_Y0 rfl (Y0_pick1 (b := ltI 1048576 ((code1.length : Int))) (p := true) (q := ltI (w64 (1048576 - ((code1.length : Int)))) ((more2.length : Int))) rfl (by kernel_rfl) hc3 (by kernel_rfl))) ?_
    refine XR 1 ?_
    refine XL_nil ?_
    subst ht4
    kernel_rfl
   ·refine XL_takeC _ rfl rfl (by kernel_rfl) hc3 (X_of_Y0 rfl (E_move (.c (.sl (more2.map c5))) rfl (by kernel_rfl))) ?_
    refine XL_takeC _ rfl rfl (by kernel_rfl) hc3 (X_of_Y0 rfl (Y0_lenM (c := c5) (xs := more2) Try.underlying22 rfl (by kernel_rfl))) ?_
    refine XL_takeC _ rfl rfl (by kernel_rfl) hc3 (X_of_Y0 rfl (E_move (.c (.sl (code1.map c5))) rfl (by kernel_rfl))) ?_
    refine XL_takeC _ rfl rfl (by kernel_rfl) hc3 (X_of_Y0 rfl (Y0_lenM (c := c5) (xs := code1) Try.underlying22 rfl (by kernel_rfl))) ?_
    refine XL_takeC _ rfl rfl (by kernel_rfl) hc3 (X_of_Y0 rfl (Y0_sub64 (a := 1048576) (b := (code1.length : Int)) rfl (by kernel_rfl) (by kernel_rfl))) ?_
    refine XL_takeC _ rfl rfl (by kernel_rfl) hc3 (X_of_Y0 rfl (Y0_gtw (k := .i64) (a := (more2.length : Int)) (b := w64 (1048576 - ((code1.length : Int)))) rfl (by kernel_rfl) (by kernel_rfl))) ?_
    refine XL_cons rfl (X_of_Y0 rfl (Y0_pick0 (b := ltI 1048576 ((code1.length : Int))) (p := true) (q := ltI (w64 (1048576 - ((code1.length : Int)))) ((more2.length : Int))) rfl (by kernel_rfl) hc3 (by kernel_rfl))) ?_
    refine XR 1 ?_
    refine XL_nil ?_
    subst ht4
    kernel_rfl
  refine V_ret ?_
  obtain rfl := some_inj h
  show Post _ _ _ _ _
  exact ⟨.inr rfl, rfl, rfl, rfl⟩
theorem cf_spec_l1Cur_next : ∀ args w, (callFunc 175 args).run Try.prog w = .ok (.enter 175 args) w := run_callFunc Try.func175 (by kernel_rfl) (by kernel_rfl)
theorem s_spec_l1Cur_next {c1 : ((List Int) × Int × Int)} {r : (Int × (((List Int) × Int × Int)))} (h : r_spec_l1Cur_next c1 = some r) : CallR Try.prog 175 [.pt 80000 0] [(80000, .box [.sl (c1.1.map c5), Ti c1.2.1, .v (.int .u64 c1.2.2)])] (I r.1) [] [(80000, .box [.sl (r.2.1.map c5), Ti r.2.2.1, .v (.int .u64 r.2.2.2)])] := by
  refine CallR_of_text (rs := [.t 2]) (vs := [.tmp 2]) Try.func175 rfl rfl (.cons rfl FitsL.nil) (by decide) 62 rfl rfl fun σ => ?_
  unfold r_spec_l1Cur_next at h
  show V _ _ ⟨.pt 80000 0 :: bt 61 [], [(80000, .pbox (σ 80000) [.sl (c1.1.map c5), Ti c1.2.1, .v (.int .u64 c1.2.2)])]⟩ _
  refine V_e (mb 62 1) [80000] (s1 := ⟨.pt 80000 0 :: bt 61 [], [(80000, .pbox (σ 80000) [.sl (c1.1.map c5), Ti c1.2.1, .v (.int .u64 c1.2.2)])]⟩) ?_
  refine V_e (mb 62 9) [80000] (s1 := ⟨.pt 80000 0 :: .bot :: .bot :: I 0 :: bt 58 [], [(80000, .pbox (σ 80000) [.sl (c1.1.map c5), Ti c1.2.1, .v (.int .u64 c1.2.2)])]⟩) ?_
  obtain ⟨j2, hj2, h⟩ := of_bind h
  refine V_cutK (mb 62 9) [80000] (s1 := ⟨.pt 80000 0 :: .bot :: .bot :: I j2 :: bt 58 [], [(80000, .pbox (σ 80000) [.sl (c1.1.map c5), Ti c1.2.1, .v (.int .u64 c1.2.2)])]⟩) ?_ ?_
  ·clear h
   have h := hj2
   clear hj2
   refine V_sdreg [0, 1, 3, 7, 0, 16, 48, 112, 240, 511] 10 (cdm 10 [174592, 174593, 174597, 174613, 170, 426, 1450, 5546, 21930, 87381]) (mb 62 8201) [80000] (s1 := ⟨.pt 80000 0 :: .bot :: .bot :: I 0 :: bt 9 (Bo (ltI c1.2.1 ((c1.1.length : Int))) :: bt 48 []), [(80000, .pbox (σ 80000) [.sl (c1.1.map c5), Ti c1.2.1, .v (.int .u64 c1.2.2)])]⟩) (by kernel_rfl) (by kernel_rfl) ?_ ?_
   ·refine DR 1 ?_
    refine DE_0 1 (.pt 80000 0) (by kernel_rfl) rfl rfl rfl (gsat_none rfl) (by kernel_rfl) (E_nil (.pt 80000 0) rfl (by kernel_rfl) (by intro hh; cases hh)) 5 rfl ?_
    refine DR 3 ?_
    refine DE_0 5 (.pt 80000 0) (by kernel_rfl) rfl rfl rfl (gsat_none rfl) (by kernel_rfl) (E_nil (.pt 80000 0) rfl (by kernel_rfl) (by intro hh; cases hh)) 9 rfl ?_
    refine DR 2 ?_
    refine DE_0 8 (I ((c1.1.length : Int))) (by kernel_rfl) rfl rfl rfl (gsat_none rfl) (by kernel_rfl) (Y0_lenM (c := c5) (xs := c1.1) Try.underlying22 rfl (by kernel_rfl)) 12 rfl ?_
    refine DA 1 ?_
    exact XE
   refine V_cond rfl (fun hc3 => ?_) (fun hc3 => ?_)
   ·have h := of_true h hc3
    obtain ⟨e4, he4, h⟩ := of_bind h
    obtain ⟨b5, hb5, h⟩ := of_sI h
    refine V_dreg [0, 1, 3, 7, 0, 16, 48, 112, 255, 511, 1023, 2047] 12 (cdm 12 [43520, 43521, 43525, 43541, 170, 426, 1450, 5546, 21845, 87381, 349525, 1398101]) (mb 62 9) [80000] (s1 := ⟨.pt 80000 0 :: .bot :: .bot :: I b5 :: bt 58 [], [(80000, .pbox (σ 80000) [.sl (c1.1.map c5), Ti c1.2.1, .v (.int .u64 c1.2.2)])]⟩) (by kernel_rfl) (by kernel_rfl) ?_ ?_
    ·refine DR 1 ?_
     refine DE_0 1 (.pt 80000 0) (by kernel_rfl) rfl rfl rfl (gsat_none rfl) (by kernel_rfl) (E_nil (.pt 80000 0) rfl (by kernel_rfl) (by intro hh; cases hh)) 15 rfl ?_
     refine DR 3 ?_
     refine DE_0 5 (.pt 80000 0) (by kernel_rfl) rfl rfl rfl (gsat_none rfl) (by kernel_rfl) (E_nil (.pt 80000 0) rfl (by kernel_rfl) (by intro hh; cases hh)) 19 rfl ?_
     refine DR 2 ?_
     refine DE_0 8 (.pe [.v (.int .u8 e4)]) (by kernel_rfl) rfl rfl rfl (gsat_none rfl) (by kernel_rfl) (Y0_idxM (c := c5) (xs := c1.1) (v := e4) (n := c1.2.1) Try.underlying22 sz5 rfl (by kernel_rfl) (by kernel_rfl) he4) 22 rfl ?_
     refine DR 1 ?_
     refine DE_0 10 (I (IntKind.i64.wrap e4)) (by kernel_rfl) rfl rfl rfl (gsat_none rfl) (by kernel_rfl) (Y0_conv (k2 := .u8) (a := e4) Try.underlying5 Try.underlying3 rfl (by kernel_rfl)) 24 rfl ?_
     refine DA 1 ?_
     refine XL_nil ?_
     subst hb5
     kernel_rfl
    obtain rfl := some_inj h
    show St.keep _ _ _ = _
    rfl
   ·have h := of_false h hc3
    refine V_skip ?_
    obtain rfl := some_inj h
    show St.keep _ _ _ = _
    rfl
  obtain ⟨f6, hf6, h⟩ := of_sI h
  refine V_sreg (mb 62 9) [80000] (s1 := ⟨.pt 80000 0 :: .bot :: .bot :: I j2 :: bt 58 [], [(80000, .pbox (σ 80000) [.sl (c1.1.map c5), Ti f6, .v (.int .u64 c1.2.2)])]⟩) ?_ ?_
  ·refine XR 1 ?_
   refine L0 rfl rfl (E_nil (.pt 80000 0) rfl (by kernel_rfl) (by intro hh; cases hh)) ?_
   refine XR 3 ?_
   refine L0 rfl rfl (E_nil (.pt 80000 0) rfl (by kernel_rfl) (by intro hh; cases hh)) ?_
   refine XR 2 ?_
   refine XL_nil ?_
   subst hf6
   kernel_rfl
  obtain ⟨f7, hf7, h⟩ := of_sI h
  refine V_sreg (mb 62 9) [80000] (s1 := ⟨.pt 80000 0 :: .bot :: .bot :: I j2 :: bt 58 [], [(80000, .pbox (σ 80000) [.sl (c1.1.map c5), Ti f6, .v (.int .u64 f7)])]⟩) ?_ ?_
  ·refine XR 2 ?_
   refine L0 rfl rfl (E_nil (.pt 80000 0) rfl (by kernel_rfl) (by intro hh; cases hh)) ?_
   refine XR 2 ?_
   refine L0 rfl rfl (Y0_mul (k := .u64) (a := c1.2.2) (b := 6364136223846793005) rfl (by kernel_rfl) (by kernel_rfl)) ?_
   refine XR 1 ?_
   refine L0 rfl rfl (Y0_conv (k2 := .i64) (a := j2) Try.underlying3 Try.underlying96 rfl (by kernel_rfl)) ?_
   refine L0 rfl rfl (Y0_add (k := .u64) (a := IntKind.u64.wrap (c1.2.2 * 6364136223846793005)) (b := IntKind.u64.wrap j2) rfl (by kernel_rfl) (by kernel_rfl)) ?_
   refine L0 rfl rfl (Y0_add (k := .u64) (a := IntKind.u64.wrap ((IntKind.u64.wrap (c1.2.2 * 6364136223846793005)) + (IntKind.u64.wrap j2))) (b := 1442695040888963407) rfl (by kernel_rfl) (by kernel_rfl)) ?_
   refine L0 rfl rfl (E_nil (.pt 80000 0) rfl (by kernel_rfl) (by intro hh; cases hh)) ?_
   refine XR 2 ?_
   refine XL_nil ?_
   subst hf7
   kernel_rfl
  refine V_seq ?_
  refine V_sdreg [0, 1, 3, 7, 0, 16, 48, 112, 240, 511] 10 (cdm 10 [174592, 174593, 174597, 174613, 170, 426, 1450, 5546, 21930, 87381]) (mb 62 9007199254741001) [80000] (s1 := ⟨.pt 80000 0 :: .bot :: .bot :: I j2 :: bt 49 (Bo (leI f6 ((c1.1.length : Int))) :: bt 8 []), [(80000, .pbox (σ 80000) [.sl (c1.1.map c5), Ti f6, .v (.int .u64 f7)])]⟩) (by kernel_rfl) (by kernel_rfl) ?_ ?_
  ·refine DR 1 ?_
   refine DE_0 1 (.pt 80000 0) (by kernel_rfl) rfl rfl rfl (gsat_none rfl) (by kernel_rfl) (E_nil (.pt 80000 0) rfl (by kernel_rfl) (by intro hh; cases hh)) 45 rfl ?_
   refine DR 3 ?_
   refine DE_0 5 (.pt 80000 0) (by kernel_rfl) rfl rfl rfl (gsat_none rfl) (by kernel_rfl) (E_nil (.pt 80000 0) rfl (by kernel_rfl) (by intro hh; cases hh)) 49 rfl ?_
   refine DR 2 ?_
   refine DE_0 8 (I ((c1.1.length : Int))) (by kernel_rfl) rfl rfl rfl (gsat_none rfl) (by kernel_rfl) (Y0_lenM (c := c5) (xs := c1.1) Try.underlying22 rfl (by kernel_rfl)) 52 rfl ?_
   refine DA 1 ?_
   exact XE
  refine V_cond rfl (fun hc8 => ?_) (fun hc8 => ?_)
  ·have h := of_true h hc8
   refine V_e (mb 62 4) [80000] (s1 := ⟨.bot :: .bot :: I j2 :: bt 59 [], [(80000, .pbox (σ 80000) [.sl (c1.1.map c5), Ti f6, .v (.int .u64 f7)])]⟩) ?_
   refine V_ret ?_
   obtain rfl := some_inj h
   show PostR _ _ _ _ _ _
   exact ⟨⟨.inr rfl, rfl, rfl, rfl⟩, ⟨rfl, trivial⟩⟩
  ·have h := of_false h hc8
   refine V_skip ?_
   show V _ _ _ _
   obtain ⟨t9, ht9, h⟩ := of_sI h
   refine V_sreg (mb 62 4) [80000] (s1 := ⟨.bot :: .bot :: I t9 :: bt 59 [], [(80000, .pbox (σ 80000) [.sl (c1.1.map c5), Ti f6, .v (.int .u64 f7)])]⟩) ?_ ?_
   ·refine XR 1 ?_
    refine L0 rfl rfl (E_nil (.pt 80000 0) rfl (by kernel_rfl) (by intro hh; cases hh)) ?_
    refine XR 2 ?_
    refine L0 rfl rfl (Y0_shr (k := .u64) (k2 := .u64) (a := f7) (b := 40) rfl (by kernel_rfl) (by kernel_rfl) (by decide)) ?_
    refine L0 rfl rfl (Y0_and (k := .u64) (a := shrI .u64 f7 40) (b := 255) rfl (by kernel_rfl) (by kernel_rfl)) ?_
    refine L0 rfl rfl (Y0_conv (k2 := .u64) (a := andI .u64 (shrI .u64 f7 40) 255) Try.underlying96 Try.underlying3 rfl (by kernel_rfl)) ?_
    refine XR 1 ?_
    refine XL_nil ?_
    subst ht9
    kernel_rfl
   refine V_ret ?_
   obtain rfl := some_inj h
   show PostR _ _ _ _ _ _
   exact ⟨⟨.inr rfl, rfl, rfl, rfl⟩, ⟨rfl, trivial⟩⟩
theorem cf_spec_l1Cur_pick : ∀ args w, (callFunc 116 args).run Try.prog w = .ok (.enter 116 args) w := run_callFunc Try.func116 (by kernel_rfl) (by kernel_rfl)
theorem s_spec_l1Cur_pick {c1 : ((List Int) × Int × Int)} {vn2 : Int} {r : (Int × (((List Int) × Int × Int)))} (h : r_spec_l1Cur_pick c1 vn2 = some r) : CallR Try.prog 116 [.pt 80000 0, I vn2] [(80000, .box [.sl (c1.1.map c5), Ti c1.2.1, .v (.int .u64 c1.2.2)])] (I r.1) [] [(80000, .box [.sl (r.2.1.map c5), Ti r.2.2.1, .v (.int .u64 r.2.2.2)])] := by
  refine CallR_of_text (rs := [.t 4]) (vs := [.tmp 4]) Try.func116 rfl rfl (.cons rfl FitsL.nil) (by decide) 20 rfl rfl fun σ => ?_
  unfold r_spec_l1Cur_pick at h
  show V _ _ ⟨.pt 80000 0 :: I vn2 :: bt 18 [], [(80000, .pbox (σ 80000) [.sl (c1.1.map c5), Ti c1.2.1, .v (.int .u64 c1.2.2)])]⟩ _
  refine V_e (mb 20 3) [80000] (s1 := ⟨.pt 80000 0 :: I vn2 :: bt 18 [], [(80000, .pbox (σ 80000) [.sl (c1.1.map c5), Ti c1.2.1, .v (.int .u64 c1.2.2)])]⟩) ?_
  refine V_seq ?_
  refine V_e (mb 20 131) [80000] (s1 := ⟨.pt 80000 0 :: I vn2 :: bt 5 (Bo (leI vn2 1) :: bt 12 []), [(80000, .pbox (σ 80000) [.sl (c1.1.map c5), Ti c1.2.1, .v (.int .u64 c1.2.2)])]⟩) ?_
  refine V_cond rfl (fun hc3 => ?_) (fun hc3 => ?_)
  ·have h := of_true h hc3
   refine V_e (mb 20 16) [80000] (s1 := ⟨bt 4 (I 0 :: bt 15 []), [(80000, .pbox (σ 80000) [.sl (c1.1.map c5), Ti c1.2.1, .v (.int .u64 c1.2.2)])]⟩) ?_
   refine V_ret ?_
   obtain rfl := some_inj h
   show PostR _ _ _ _ _ _
   exact ⟨⟨.inr rfl, rfl, rfl, rfl⟩, ⟨rfl, trivial⟩⟩
  ·have h := of_false h hc3
   refine V_skip ?_
   show V _ _ _ _
   obtain ⟨y4, hy4, h⟩ := of_bind h
   refine V_sreg (mb 20 35) [80000] (s1 := ⟨.pt 80000 0 :: I vn2 :: bt 3 (I y4.1 :: bt 14 []), [(80000, .pbox (σ 80000) [.sl (y4.2.1.map c5), Ti y4.2.2.1, .v (.int .u64 y4.2.2.2)])]⟩) ?_ ?_
   ·refine XR 1 ?_
    refine XL_cons rfl (X_callR (E' := [(80000, .pbox (σ 80000) [.sl (y4.2.1.map c5), Ti y4.2.2.1, .v (.int .u64 y4.2.2.2)])]) [(80000, 80000)] 9 (s_spec_l1Cur_next hy4) cf_spec_l1Cur_next rfl rfl (by kernel_rfl) rfl (mE_cons (by kernel_rfl) mE_nil) rfl (by kernel_rfl) rfl rfl (by kernel_rfl)) ?_
    exact XE
   refine V_seq ?_
   refine V_e (mb 20 2083) [80000] (s1 := ⟨.pt 80000 0 :: I vn2 :: bt 3 (I y4.1 :: bt 5 (Bo (ltI 200 vn2) :: bt 8 [])), [(80000, .pbox (σ 80000) [.sl (y4.2.1.map c5), Ti y4.2.2.1, .v (.int .u64 y4.2.2.2)])]⟩) ?_
   refine V_cond rfl (fun hc5 => ?_) (fun hc5 => ?_)
   ·have h := of_true h hc5
    obtain ⟨y6, hy6, h⟩ := of_bind h
    obtain ⟨x7, hx7, h⟩ := of_sI h
    refine V_reg (mb 20 34) [80000] (s1 := ⟨.bot :: I vn2 :: bt 3 (I x7 :: bt 14 []), [(80000, .pbox (σ 80000) [.sl (y6.2.1.map c5), Ti y6.2.2.1, .v (.int .u64 y6.2.2.2)])]⟩) ?_ ?_
    ·refine XR 3 ?_
     refine XL_cons rfl (X_callR (E' := [(80000, .pbox (σ 80000) [.sl (y6.2.1.map c5), Ti y6.2.2.1, .v (.int .u64 y6.2.2.2)])]) [(80000, 80000)] 15 (s_spec_l1Cur_next hy6) cf_spec_l1Cur_next rfl rfl (by kernel_rfl) rfl (mE_cons (by kernel_rfl) mE_nil) rfl (by kernel_rfl) rfl rfl (by kernel_rfl)) ?_
     refine XR 2 ?_
     refine XL_nil ?_
     subst hx7
     kernel_rfl
    show V _ _ _ _
    obtain ⟨z8, hz8, h⟩ := of_bind h
    obtain ⟨t9, ht9, h⟩ := of_sI h
    refine V_sreg (mb 20 16) [80000] (s1 := ⟨bt 4 (I t9 :: bt 15 []), [(80000, .pbox (σ 80000) [.sl (y6.2.1.map c5), Ti y6.2.2.1, .v (.int .u64 y6.2.2.2)])]⟩) ?_ ?_
    ·refine XR 2 ?_
     refine L0 rfl rfl (Y0_rem (k := .i64) (a := x7) (b := vn2) rfl (by kernel_rfl) (by kernel_rfl) (nz_some hz8)) ?_
     refine XR 1 ?_
     refine XL_nil ?_
     subst ht9
     kernel_rfl
    refine V_ret ?_
    obtain rfl := some_inj h
    show PostR _ _ _ _ _ _
    exact ⟨⟨.inr rfl, rfl, rfl, rfl⟩, ⟨rfl, trivial⟩⟩
   ·have h := of_false h hc5
    refine V_skip ?_
    show V _ _ _ _
    obtain ⟨z10, hz10, h⟩ := of_bind h
    obtain ⟨t11, ht11, h⟩ := of_sI h
    refine V_sreg (mb 20 16) [80000] (s1 := ⟨bt 4 (I t11 :: bt 15 []), [(80000, .pbox (σ 80000) [.sl (y4.2.1.map c5), Ti y4.2.2.1, .v (.int .u64 y4.2.2.2)])]⟩) ?_ ?_
    ·refine XR 2 ?_
     refine L0 rfl rfl (Y0_rem (k := .i64) (a := y4.1) (b := vn2) rfl (by kernel_rfl) (by kernel_rfl) (nz_some hz10)) ?_
     refine XR 1 ?_
     refine XL_nil ?_
     subst ht11
     kernel_rfl
    refine V_ret ?_
    obtain rfl := some_inj h
    show PostR _ _ _ _ _ _
    exact ⟨⟨.inr rfl, rfl, rfl, rfl⟩, ⟨rfl, trivial⟩⟩
theorem cf_spec_l1Cur_one : ∀ args w, (callFunc 118 args).run Try.prog w = .ok (.enter 118 args) w := run_callFunc Try.func118 (by kernel_rfl) (by kernel_rfl)
theorem s_spec_l1Cur_one {c1 : ((List Int) × Int × Int)} {vn2 : Int} {r : (Bool × (((List Int) × Int × Int)))} (h : r_spec_l1Cur_one c1 vn2 = some r) : CallR Try.prog 118 [.pt 80000 0, I vn2] [(80000, .box [.sl (c1.1.map c5), Ti c1.2.1, .v (.int .u64 c1.2.2)])] (Bo r.1) [] [(80000, .box [.sl (r.2.1.map c5), Ti r.2.2.1, .v (.int .u64 r.2.2.2)])] := by
  refine CallR_of_text (rs := [.t 4]) (vs := [.tmp 4]) Try.func118 rfl rfl (.cons rfl FitsL.nil) (by decide) 9 rfl rfl fun σ => ?_
  unfold r_spec_l1Cur_one at h
  show V _ _ ⟨.pt 80000 0 :: I vn2 :: bt 7 [], [(80000, .pbox (σ 80000) [.sl (c1.1.map c5), Ti c1.2.1, .v (.int .u64 c1.2.2)])]⟩ _
  refine V_e (mb 9 3) [80000] (s1 := ⟨.pt 80000 0 :: I vn2 :: bt 7 [], [(80000, .pbox (σ 80000) [.sl (c1.1.map c5), Ti c1.2.1, .v (.int .u64 c1.2.2)])]⟩) ?_
  obtain ⟨y3, hy3, h⟩ := of_bind h
  refine V_sreg (mb 9 16) [80000] (s1 := ⟨bt 4 (Bo (eqI y3.1 0) :: bt 4 []), [(80000, .pbox (σ 80000) [.sl (y3.2.1.map c5), Ti y3.2.2.1, .v (.int .u64 y3.2.2.2)])]⟩) ?_ ?_
  ·refine XR 2 ?_
   refine XL_cons rfl (X_callR (E' := [(80000, .pbox (σ 80000) [.sl (y3.2.1.map c5), Ti y3.2.2.1, .v (.int .u64 y3.2.2.2)])]) [(80000, 80000)] 7 (s_spec_l1Cur_pick hy3) cf_spec_l1Cur_pick rfl rfl (by kernel_rfl) rfl (mE_cons (by kernel_rfl) mE_nil) rfl (by kernel_rfl) rfl rfl (by kernel_rfl)) ?_
   exact XE
  refine V_ret ?_
  obtain rfl := some_inj h
  show PostR _ _ _ _ _ _
  exact ⟨⟨.inr rfl, rfl, rfl, rfl⟩, ⟨rfl, trivial⟩⟩
theorem cf_spec_l1Cur_among : ∀ args w, (callFunc 115 args).run Try.prog w = .ok (.enter 115 args) w := run_callFunc Try.func115 (by kernel_rfl) (by kernel_rfl)
theorem s_spec_l1Cur_among {c1 : ((List Int) × Int × Int)} {list2 : List Int} {r : (Int × (((List Int) × Int × Int)))} (h : r_spec_l1Cur_among c1 list2 = some r) : CallR Try.prog 115 [.pt 80000 0, .c (.sl (list2.map c3))] [(80000, .box [.sl (c1.1.map c5), Ti c1.2.1, .v (.int .u64 c1.2.2)])] (I r.1) [] [(80000, .box [.sl (r.2.1.map c5), Ti r.2.2.1, .v (.int .u64 r.2.2.2)])] := by
  refine CallR_of_text (rs := [.t 4]) (vs := [.tmp 4]) Try.func115 rfl rfl (.cons rfl FitsL.nil) (by decide) 12 rfl rfl fun σ => ?_
  unfold r_spec_l1Cur_among at h
  show V _ _ ⟨.pt 80000 0 :: .c (.sl (list2.map c3)) :: bt 10 [], [(80000, .pbox (σ 80000) [.sl (c1.1.map c5), Ti c1.2.1, .v (.int .u64 c1.2.2)])]⟩ _
  refine V_e (mb 12 3) [80000] (s1 := ⟨.pt 80000 0 :: .c (.sl (list2.map c3)) :: bt 10 [], [(80000, .pbox (σ 80000) [.sl (c1.1.map c5), Ti c1.2.1, .v (.int .u64 c1.2.2)])]⟩) ?_
  obtain ⟨y3, hy3, h⟩ := of_bind h
  obtain ⟨e4, he4, h⟩ := of_bind h
  refine V_sreg (mb 12 16) [80000] (s1 := ⟨bt 4 (I e4 :: bt 7 []), [(80000, .pbox (σ 80000) [.sl (y3.2.1.map c5), Ti y3.2.2.1, .v (.int .u64 y3.2.2.2)])]⟩) ?_ ?_
  ·refine XR 3 ?_
   refine L0 rfl rfl (Y0_lenM (c := c3) (xs := list2) Try.underlying41 rfl (by kernel_rfl)) ?_
   refine XL_cons rfl (X_callR (E' := [(80000, .pbox (σ 80000) [.sl (y3.2.1.map c5), Ti y3.2.2.1, .v (.int .u64 y3.2.2.2)])]) [(80000, 80000)] 9 (s_spec_l1Cur_pick hy3) cf_spec_l1Cur_pick rfl rfl (by kernel_rfl) rfl (mE_cons (by kernel_rfl) mE_nil) rfl (by kernel_rfl) rfl rfl (by kernel_rfl)) ?_
   refine L0 rfl rfl (Y0_idxM (c := c3) (xs := list2) (v := e4) (n := y3.1) Try.underlying41 sz3 rfl (by kernel_rfl) (by kernel_rfl) he4) ?_
   exact XE
  refine V_ret ?_
  obtain rfl := some_inj h
  show PostR _ _ _ _ _ _
  exact ⟨⟨.inr rfl, rfl, rfl, rfl⟩, ⟨rfl, trivial⟩⟩
theorem cf_spec_l1Cur_number : ∀ args w, (callFunc 136 args).run Try.prog w = .ok (.enter 136 args) w := run_callFunc Try.func136 (by kernel_rfl) (by kernel_rfl)
theorem s_spec_l1Cur_number {c1 : ((List Int) × Int × Int)} {r : (Int × (((List Int) × Int × Int)))} (h : r_spec_l1Cur_number c1 = some r) : CallR Try.prog 136 [.pt 80000 0] [(80000, .box [.sl (c1.1.map c5), Ti c1.2.1, .v (.int .u64 c1.2.2)])] (I r.1) [] [(80000, .box [.sl (r.2.1.map c5), Ti r.2.2.1, .v (.int .u64 r.2.2.2)])] := by
  refine CallR_of_text (rs := [.t 2]) (vs := [.tmp 2]) Try.func136 rfl rfl (.cons rfl FitsL.nil) (by decide) 32 rfl rfl fun σ => ?_
  unfold r_spec_l1Cur_number at h
  show V _ _ ⟨.pt 80000 0 :: bt 31 [], [(80000, .pbox (σ 80000) [.sl (c1.1.map c5), Ti c1.2.1, .v (.int .u64 c1.2.2)])]⟩ _
  refine V_e (mb 32 1) [80000] (s1 := ⟨.pt 80000 0 :: bt 31 [], [(80000, .pbox (σ 80000) [.sl (c1.1.map c5), Ti c1.2.1, .v (.int .u64 c1.2.2)])]⟩) ?_
  refine V_seq ?_
  obtain ⟨y2, hy2, h⟩ := of_bind h
  refine V_sreg (mb 32 17) [80000] (s1 := ⟨.pt 80000 0 :: bt 3 (I y2.1 :: bt 27 []), [(80000, .pbox (σ 80000) [.sl (y2.2.1.map c5), Ti y2.2.2.1, .v (.int .u64 y2.2.2.2)])]⟩) ?_ ?_
  ·refine XR 1 ?_
   refine XL_cons rfl (X_callR (E' := [(80000, .pbox (σ 80000) [.sl (y2.2.1.map c5), Ti y2.2.2.1, .v (.int .u64 y2.2.2.2)])]) [(80000, 80000)] 4 (s_spec_l1Cur_pick hy2) cf_spec_l1Cur_pick rfl rfl (by kernel_rfl) rfl (mE_cons (by kernel_rfl) mE_nil) rfl (by kernel_rfl) rfl rfl (by kernel_rfl)) ?_
   exact XE
  refine V_block ?_
  refine V_e (mb 32 49) [80000] (s1 := ⟨.pt 80000 0 :: bt 3 (I y2.1 :: Bo (eqI y2.1 0) :: bt 26 []), [(80000, .pbox (σ 80000) [.sl (y2.2.1.map c5), Ti y2.2.2.1, .v (.int .u64 y2.2.2.2)])]⟩) ?_
  refine V_cond rfl (fun hc3 => ?_) (fun hc3 => ?_)
  ·have h := of_true h hc3
   obtain ⟨y4, hy4, h⟩ := of_bind h
   refine V_sreg (mb 32 4) [80000] (s1 := ⟨.bot :: .bot :: I y4.1 :: bt 29 [], [(80000, .pbox (σ 80000) [.sl (y4.2.1.map c5), Ti y4.2.2.1, .v (.int .u64 y4.2.2.2)])]⟩) ?_ ?_
   ·refine XR 1 ?_
    refine L1 rfl rfl (Y1_bslice (z := zv3) (els := [0, 1, -1, 1000000, -1000000, 1000001, -1000001, -9223372036854775808, 9223372036854775807, 999983, 999999, 1000].map c3) Try.underlying41 iz3 rfl (by decide) rfl (by kernel_rfl) rfl (by simp [c3]) (by decide) (by decide)) ?_
    refine XL_freeze 64 (T := 3) (sz := 1) (els := ([0, 1, -1, 1000000, -1000000, 1000001, -1000001, -9223372036854775808, 9223372036854775807, 999983, 999999, 1000]).map c3) (s1 := ⟨.pt 80000 0 :: bt 3 (I y2.1 :: Bo (eqI y2.1 0) :: .bot :: .pt 80000 0 :: .c (.sl (([0, 1, -1, 1000000, -1000000, 1000001, -1000001, -9223372036854775808, 9223372036854775807, 999983, 999999, 1000]).map c3)) :: bt 23 []), [(80000, .pbox (σ 80000) [.sl (y2.2.1.map c5), Ti y2.2.2.1, .v (.int .u64 y2.2.2.2)])]⟩) (by kernel_rfl) (by kernel_rfl) ?_
    refine XL_cons rfl (X_callR (E' := [(80000, .pbox (σ 80000) [.sl (y4.2.1.map c5), Ti y4.2.2.1, .v (.int .u64 y4.2.2.2)])]) [(80000, 80000)] 9 (s_spec_l1Cur_among hy4) cf_spec_l1Cur_among rfl rfl (by kernel_rfl) rfl (mE_cons (by kernel_rfl) mE_nil) rfl (by kernel_rfl) rfl rfl (by kernel_rfl)) ?_
    exact XE
   refine V_ret ?_
   obtain rfl := some_inj h
   show PostR _ _ _ _ _ _
   exact ⟨⟨.inr rfl, rfl, rfl, rfl⟩, ⟨rfl, trivial⟩⟩
  ·have h := of_false h hc3
   obtain ⟨j5, hj5, h⟩ := of_bind h
   refine V_cutK (mb 32 1041) [80000] (s1 := ⟨.pt 80000 0 :: bt 3 (I y2.1 :: bt 5 (Bo j5 :: bt 21 [])), [(80000, .pbox (σ 80000) [.sl (y2.2.1.map c5), Ti y2.2.2.1, .v (.int .u64 y2.2.2.2)])]⟩) ?_ ?_
   ·clear h
    have h := hj5
    clear hj5
    refine V_e (mb 32 1041) [80000] (s1 := ⟨.pt 80000 0 :: bt 3 (I y2.1 :: bt 5 (Bo (eqI y2.1 1) :: bt 21 [])), [(80000, .pbox (σ 80000) [.sl (y2.2.1.map c5), Ti y2.2.2.1, .v (.int .u64 y2.2.2.2)])]⟩) ?_
    refine V_cond rfl (fun hc6 => ?_) (fun hc6 => ?_)
    ·have h := of_true h hc6
     refine V_skip ?_
     obtain rfl := some_inj h
     show St.keep _ _ _ = _
     rfl
    ·have h := of_false h hc6
     refine V_reg (mb 32 1041) [80000] (s1 := ⟨.pt 80000 0 :: bt 3 (I y2.1 :: bt 5 (Bo (eqI y2.1 2) :: bt 21 [])), [(80000, .pbox (σ 80000) [.sl (y2.2.1.map c5), Ti y2.2.2.1, .v (.int .u64 y2.2.2.2)])]⟩) ?_ ?_
     ·exact XE
     obtain rfl := some_inj h
     show St.keep _ _ _ = _
     rfl
   refine V_cond rfl (fun hc7 => ?_) (fun hc7 => ?_)
   ·have h := of_true h hc7
    obtain ⟨y8, hy8, h⟩ := of_bind h
    obtain ⟨y9, hy9, h⟩ := of_bind h
    obtain ⟨y10, hy10, h⟩ := of_bind h
    obtain ⟨t11, ht11, h⟩ := of_sI h
    refine V_sreg (mb 32 4) [80000] (s1 := ⟨.bot :: .bot :: I t11 :: bt 29 [], [(80000, .pbox (σ 80000) [.sl (y10.2.1.map c5), Ti y10.2.2.1, .v (.int .u64 y10.2.2.2)])]⟩) ?_ ?_
    ·refine XR 1 ?_
     refine XL_cons rfl (X_callR (E' := [(80000, .pbox (σ 80000) [.sl (y8.2.1.map c5), Ti y8.2.2.1, .v (.int .u64 y8.2.2.2)])]) [(80000, 80000)] 14 (s_spec_l1Cur_pick hy8) cf_spec_l1Cur_pick rfl rfl (by kernel_rfl) rfl (mE_cons (by kernel_rfl) mE_nil) rfl (by kernel_rfl) rfl rfl (by kernel_rfl)) ?_
     refine XR 1 ?_
     refine XL_cons rfl (X_callR (E' := [(80000, .pbox (σ 80000) [.sl (y9.2.1.map c5), Ti y9.2.2.1, .v (.int .u64 y9.2.2.2)])]) [(80000, 80000)] 16 (s_spec_l1Cur_pick hy9) cf_spec_l1Cur_pick rfl rfl (by kernel_rfl) rfl (mE_cons (by kernel_rfl) mE_nil) rfl (by kernel_rfl) rfl rfl (by kernel_rfl)) ?_
     refine XR 3 ?_
     refine XL_cons rfl (X_callR (E' := [(80000, .pbox (σ 80000) [.sl (y10.2.1.map c5), Ti y10.2.2.1, .v (.int .u64 y10.2.2.2)])]) [(80000, 80000)] 20 (s_spec_l1Cur_pick hy10) cf_spec_l1Cur_pick rfl rfl (by kernel_rfl) rfl (mE_cons (by kernel_rfl) mE_nil) rfl (by kernel_rfl) rfl rfl (by kernel_rfl)) ?_
     refine XR 4 ?_
     refine XL_nil ?_
     subst ht11
     kernel_rfl
    refine V_ret ?_
    obtain rfl := some_inj h
    show PostR _ _ _ _ _ _
    exact ⟨⟨.inr rfl, rfl, rfl, rfl⟩, ⟨rfl, trivial⟩⟩
   ·have h := of_false h hc7
    obtain ⟨j12, hj12, h⟩ := of_bind h
    refine V_cutK (mb 32 16777217) [80000] (s1 := ⟨.pt 80000 0 :: bt 23 (Bo j12 :: bt 7 []), [(80000, .pbox (σ 80000) [.sl (y2.2.1.map c5), Ti y2.2.2.1, .v (.int .u64 y2.2.2.2)])]⟩) ?_ ?_
    ·clear h
     have h := hj12
     clear hj12
     refine V_e (mb 32 16777233) [80000] (s1 := ⟨.pt 80000 0 :: bt 3 (I y2.1 :: bt 19 (Bo (eqI y2.1 3) :: bt 7 [])), [(80000, .pbox (σ 80000) [.sl (y2.2.1.map c5), Ti y2.2.2.1, .v (.int .u64 y2.2.2.2)])]⟩) ?_
     refine V_cond rfl (fun hc13 => ?_) (fun hc13 => ?_)
     ·have h := of_true h hc13
      refine V_skip ?_
      obtain rfl := some_inj h
      show St.keep _ _ _ = _
      rfl
     ·have h := of_false h hc13
      refine V_reg (mb 32 16777217) [80000] (s1 := ⟨.pt 80000 0 :: bt 23 (Bo (eqI y2.1 4) :: bt 7 []), [(80000, .pbox (σ 80000) [.sl (y2.2.1.map c5), Ti y2.2.2.1, .v (.int .u64 y2.2.2.2)])]⟩) ?_ ?_
      ·exact XE
      obtain rfl := some_inj h
      show St.keep _ _ _ = _
      rfl
    refine V_cond rfl (fun hc14 => ?_) (fun hc14 => ?_)
    ·have h := of_true h hc14
     obtain ⟨y15, hy15, h⟩ := of_bind h
     refine V_sreg (mb 32 4) [80000] (s1 := ⟨.bot :: .bot :: I y15.1 :: bt 29 [], [(80000, .pbox (σ 80000) [.sl (y15.2.1.map c5), Ti y15.2.2.1, .v (.int .u64 y15.2.2.2)])]⟩) ?_ ?_
     ·refine XR 1 ?_
      refine XL_cons rfl (X_callR (E' := [(80000, .pbox (σ 80000) [.sl (y15.2.1.map c5), Ti y15.2.2.1, .v (.int .u64 y15.2.2.2)])]) [(80000, 80000)] 28 (s_spec_l1Cur_pick hy15) cf_spec_l1Cur_pick rfl rfl (by kernel_rfl) rfl (mE_cons (by kernel_rfl) mE_nil) rfl (by kernel_rfl) rfl rfl (by kernel_rfl)) ?_
      exact XE
     refine V_ret ?_
     obtain rfl := some_inj h
     show PostR _ _ _ _ _ _
     exact ⟨⟨.inr rfl, rfl, rfl, rfl⟩, ⟨rfl, trivial⟩⟩
    ·have h := of_false h hc14
     refine V_skip ?_
     show V _ _ _ _
     obtain ⟨y16, hy16, h⟩ := of_bind h
     obtain ⟨t17, ht17, h⟩ := of_sI h
     refine V_sreg (mb 32 4) [80000] (s1 := ⟨.bot :: .bot :: I t17 :: bt 29 [], [(80000, .pbox (σ 80000) [.sl (y16.2.1.map c5), Ti y16.2.2.1, .v (.int .u64 y16.2.2.2)])]⟩) ?_ ?_
     ·refine XR 1 ?_
      refine XL_cons rfl (X_callR (E' := [(80000, .pbox (σ 80000) [.sl (y16.2.1.map c5), Ti y16.2.2.1, .v (.int .u64 y16.2.2.2)])]) [(80000, 80000)] 30 (s_spec_l1Cur_pick hy16) cf_spec_l1Cur_pick rfl rfl (by kernel_rfl) rfl (mE_cons (by kernel_rfl) mE_nil) rfl (by kernel_rfl) rfl rfl (by kernel_rfl)) ?_
      refine XR 2 ?_
      refine XL_nil ?_
      subst ht17
      kernel_rfl
     refine V_ret ?_
     obtain rfl := some_inj h
     show PostR _ _ _ _ _ _
     exact ⟨⟨.inr rfl, rfl, rfl, rfl⟩, ⟨rfl, trivial⟩⟩
theorem cf_spec_l1Cur_form : ∀ args w, (callFunc 172 args).run Try.prog w = .ok (.enter 172 args) w := run_callFunc Try.func172 (by kernel_rfl) (by kernel_rfl)
theorem s_spec_l1Cur_form {c1 : ((List Int) × Int × Int)} {r : (((Int × Int × Int)) × (((List Int) × Int × Int)))} (h : r_spec_l1Cur_form c1 = some r) : CallR Try.prog 172 [.pt 80000 0] [(80000, .box [.sl (c1.1.map c5), Ti c1.2.1, .v (.int .u64 c1.2.2)])] (.ag [Ti r.1.1, Ti r.1.2.1, Ti r.1.2.2]) [] [(80000, .box [.sl (r.2.1.map c5), Ti r.2.2.1, .v (.int .u64 r.2.2.2)])] := by
  refine CallR_of_text (rs := [.w 2 3]) (vs := [.cell 2 45]) Try.func172 rfl rfl (.cons ⟨rfl, wd45⟩ FitsL.nil) (by decide) 85 rfl rfl fun σ => ?_
  unfold r_spec_l1Cur_form at h
  show V _ _ ⟨.pt 80000 0 :: bt 84 [], [(80000, .pbox (σ 80000) [.sl (c1.1.map c5), Ti c1.2.1, .v (.int .u64 c1.2.2)])]⟩ _
  refine V_e (mb 85 5) [16, 80000] (s1 := ⟨.pt 80000 0 :: .bot :: .pt 16 0 :: bt 82 [], [(16, .box [Ti 0, Ti 0, Ti 0]), (80000, .pbox (σ 80000) [.sl (c1.1.map c5), Ti c1.2.1, .v (.int .u64 c1.2.2)])]⟩) ?_
  refine V_seq ?_
  obtain ⟨y2, hy2, h⟩ := of_bind h
  refine V_sreg (mb 85 261) [16, 80000] (s1 := ⟨.pt 80000 0 :: .bot :: .pt 16 0 :: bt 5 (I y2.1 :: bt 76 []), [(16, .box [Ti 0, Ti 0, Ti 0]), (80000, .pbox (σ 80000) [.sl (y2.2.1.map c5), Ti y2.2.2.1, .v (.int .u64 y2.2.2.2)])]⟩) ?_ ?_
  ·refine XR 1 ?_
   refine XL_cons rfl (X_callR (E' := [(16, .box [Ti 0, Ti 0, Ti 0]), (80000, .pbox (σ 80000) [.sl (y2.2.1.map c5), Ti y2.2.2.1, .v (.int .u64 y2.2.2.2)])]) [(80000, 80000)] 8 (s_spec_l1Cur_pick hy2) cf_spec_l1Cur_pick rfl rfl (by kernel_rfl) rfl (mE_cons (by kernel_rfl) mE_nil) rfl (by kernel_rfl) rfl rfl (by kernel_rfl)) ?_
   exact XE
  refine V_block ?_
  refine V_e (mb 85 773) [16, 80000] (s1 := ⟨.pt 80000 0 :: .bot :: .pt 16 0 :: bt 5 (I y2.1 :: Bo (eqI y2.1 0) :: bt 75 []), [(16, .box [Ti 0, Ti 0, Ti 0]), (80000, .pbox (σ 80000) [.sl (y2.2.1.map c5), Ti y2.2.2.1, .v (.int .u64 y2.2.2.2)])]⟩) ?_
  refine V_cond rfl (fun hc3 => ?_) (fun hc3 => ?_)
  ·have h := of_true h hc3
   obtain ⟨y4, hy4, h⟩ := of_bind h
   obtain ⟨y5, hy5, h⟩ := of_bind h
   obtain ⟨y6, hy6, h⟩ := of_bind h
   refine V_sreg (mb 85 4) [16, 80000] (s1 := ⟨.bot :: .bot :: .pt 16 0 :: bt 82 [], [(16, .box [Ti y4.1, Ti y5.1, Ti y6.1]), (80000, .pbox (σ 80000) [.sl (y6.2.1.map c5), Ti y6.2.2.1, .v (.int .u64 y6.2.2.2)])]⟩) ?_ ?_
   ·refine XR 1 ?_
    refine XL_cons rfl (X_callR (E' := [(16, .box [Ti 0, Ti 0, Ti 0]), (80000, .pbox (σ 80000) [.sl (y4.2.1.map c5), Ti y4.2.2.1, .v (.int .u64 y4.2.2.2)])]) [(80000, 80000)] 12 (s_spec_l1Cur_number hy4) cf_spec_l1Cur_number rfl rfl (by kernel_rfl) rfl (mE_cons (by kernel_rfl) mE_nil) rfl (by kernel_rfl) rfl rfl (by kernel_rfl)) ?_
    refine XR 1 ?_
    refine XL_cons rfl (X_callR (E' := [(16, .box [Ti 0, Ti 0, Ti 0]), (80000, .pbox (σ 80000) [.sl (y5.2.1.map c5), Ti y5.2.2.1, .v (.int .u64 y5.2.2.2)])]) [(80000, 80000)] 14 (s_spec_l1Cur_number hy5) cf_spec_l1Cur_number rfl rfl (by kernel_rfl) rfl (mE_cons (by kernel_rfl) mE_nil) rfl (by kernel_rfl) rfl rfl (by kernel_rfl)) ?_
    refine XR 1 ?_
    refine XL_cons rfl (X_callR (E' := [(16, .box [Ti 0, Ti 0, Ti 0]), (80000, .pbox (σ 80000) [.sl (y6.2.1.map c5), Ti y6.2.2.1, .v (.int .u64 y6.2.2.2)])]) [(80000, 80000)] 16 (s_spec_l1Cur_number hy6) cf_spec_l1Cur_number rfl rfl (by kernel_rfl) rfl (mE_cons (by kernel_rfl) mE_nil) rfl (by kernel_rfl) rfl rfl (by kernel_rfl)) ?_
    refine L0 rfl rfl (Y0_build (cs := [Ti y4.1, Ti y5.1, Ti y6.1]) pl45 bt45 rfl rfl (by kernel_rfl)) ?_
    exact XE
   refine V_ret ?_
   obtain rfl := some_inj h
   show PostR _ _ _ _ _ _
   exact ⟨⟨.inr rfl, rfl, rfl, rfl⟩, ⟨rfl, trivial⟩⟩
  ·have h := of_false h hc3
   refine V_e (mb 85 262405) [16, 80000] (s1 := ⟨.pt 80000 0 :: .bot :: .pt 16 0 :: bt 5 (I y2.1 :: bt 9 (Bo (eqI y2.1 1) :: bt 66 [])), [(16, .box [Ti 0, Ti 0, Ti 0]), (80000, .pbox (σ 80000) [.sl (y2.2.1.map c5), Ti y2.2.2.1, .v (.int .u64 y2.2.2.2)])]⟩) ?_
   refine V_cond rfl (fun hc7 => ?_) (fun hc7 => ?_)
   ·have h := of_true h hc7
    obtain ⟨y8, hy8, h⟩ := of_bind h
    refine V_sreg (mb 85 13) [16, 80000] (s1 := ⟨.pt 80000 0 :: .bot :: .pt 16 0 :: I y8.1 :: bt 81 [], [(16, .box [Ti 0, Ti 0, Ti 0]), (80000, .pbox (σ 80000) [.sl (y8.2.1.map c5), Ti y8.2.2.1, .v (.int .u64 y8.2.2.2)])]⟩) ?_ ?_
    ·refine XR 1 ?_
     refine L1 rfl rfl (Y1_bslice (z := zv3) (els := [2, 3, -1, 0, 1000].map c3) Try.underlying41 iz3 rfl (by decide) rfl (by kernel_rfl) rfl (by simp [c3]) (by decide) (by decide)) ?_
     refine XL_freeze 168 (T := 3) (sz := 1) (els := ([2, 3, -1, 0, 1000]).map c3) (s1 := ⟨.pt 80000 0 :: .bot :: .pt 16 0 :: bt 5 (I y2.1 :: bt 9 (Bo (eqI y2.1 1) :: .bot :: .pt 80000 0 :: .c (.sl (([2, 3, -1, 0, 1000]).map c3)) :: bt 63 [])), [(16, .box [Ti 0, Ti 0, Ti 0]), (80000, .pbox (σ 80000) [.sl (y2.2.1.map c5), Ti y2.2.2.1, .v (.int .u64 y2.2.2.2)])]⟩) (by kernel_rfl) (by kernel_rfl) ?_
     refine XL_cons rfl (X_callR (E' := [(16, .box [Ti 0, Ti 0, Ti 0]), (80000, .pbox (σ 80000) [.sl (y8.2.1.map c5), Ti y8.2.2.1, .v (.int .u64 y8.2.2.2)])]) [(80000, 80000)] 22 (s_spec_l1Cur_among hy8) cf_spec_l1Cur_among rfl rfl (by kernel_rfl) rfl (mE_cons (by kernel_rfl) mE_nil) rfl (by kernel_rfl) rfl rfl (by kernel_rfl)) ?_
     exact XE
    obtain ⟨y9, hy9, h⟩ := of_bind h
    obtain ⟨y10, hy10, h⟩ := of_bind h
    obtain ⟨y11, hy11, h⟩ := of_bind h
    obtain ⟨f12, hf12, h⟩ := of_sI h
    obtain ⟨f13, hf13, h⟩ := of_sI h
    obtain ⟨f14, hf14, h⟩ := of_sI h
    refine V_sreg (mb 85 4) [16, 80000] (s1 := ⟨.bot :: .bot :: .pt 16 0 :: bt 82 [], [(16, .box [Ti f12, Ti f13, Ti f14]), (80000, .pbox (σ 80000) [.sl (y11.2.1.map c5), Ti y11.2.2.1, .v (.int .u64 y11.2.2.2)])]⟩) ?_ ?_
    ·refine XR 2 ?_
     refine XL_cons rfl (X_callR (E' := [(16, .box [Ti 0, Ti 0, Ti 0]), (80000, .pbox (σ 80000) [.sl (y9.2.1.map c5), Ti y9.2.2.1, .v (.int .u64 y9.2.2.2)])]) [(80000, 80000)] 25 (s_spec_l1Cur_pick hy9) cf_spec_l1Cur_pick rfl rfl (by kernel_rfl) rfl (mE_cons (by kernel_rfl) mE_nil) rfl (by kernel_rfl) rfl rfl (by kernel_rfl)) ?_
     refine XR 3 ?_
     refine XL_cons rfl (X_callR (E' := [(16, .box [Ti 0, Ti 0, Ti 0]), (80000, .pbox (σ 80000) [.sl (y10.2.1.map c5), Ti y10.2.2.1, .v (.int .u64 y10.2.2.2)])]) [(80000, 80000)] 29 (s_spec_l1Cur_pick hy10) cf_spec_l1Cur_pick rfl rfl (by kernel_rfl) rfl (mE_cons (by kernel_rfl) mE_nil) rfl (by kernel_rfl) rfl rfl (by kernel_rfl)) ?_
     refine XR 4 ?_
     refine XL_cons rfl (X_callR (E' := [(16, .box [Ti 0, Ti 0, Ti 0]), (80000, .pbox (σ 80000) [.sl (y11.2.1.map c5), Ti y11.2.2.1, .v (.int .u64 y11.2.2.2)])]) [(80000, 80000)] 34 (s_spec_l1Cur_pick hy11) cf_spec_l1Cur_pick rfl rfl (by kernel_rfl) rfl (mE_cons (by kernel_rfl) mE_nil) rfl (by kernel_rfl) rfl rfl (by kernel_rfl)) ?_
     refine XR 1 ?_
     refine L0 rfl rfl (Y0_build (cs := [Ti (w64 (y8.1 * y9.1)), Ti (w64 (y8.1 * (w64 (y10.1 - 10)))), Ti (w64 (y8.1 * y11.1))]) pl45 bt45 rfl rfl (by kernel_rfl)) ?_
     refine XR 1 ?_
     refine XL_nil ?_
     subst hf12 hf13 hf14
     kernel_rfl
    refine V_ret ?_
    obtain rfl := some_inj h
    show PostR _ _ _ _ _ _
    exact ⟨⟨.inr rfl, rfl, rfl, rfl⟩, ⟨rfl, trivial⟩⟩
   ·have h := of_false h hc7
    refine V_e (mb 85 137438953733) [16, 80000] (s1 := ⟨.pt 80000 0 :: .bot :: .pt 16 0 :: bt 5 (I y2.1 :: bt 28 (Bo (eqI y2.1 2) :: bt 47 [])), [(16, .box [Ti 0, Ti 0, Ti 0]), (80000, .pbox (σ 80000) [.sl (y2.2.1.map c5), Ti y2.2.2.1, .v (.int .u64 y2.2.2.2)])]⟩) ?_
    refine V_cond rfl (fun hc15 => ?_) (fun hc15 => ?_)
    ·have h := of_true h hc15
     obtain ⟨y16, hy16, h⟩ := of_bind h
     obtain ⟨y17, hy17, h⟩ := of_bind h
     obtain ⟨y18, hy18, h⟩ := of_bind h
     obtain ⟨f19, hf19, h⟩ := of_sI h
     refine V_sreg (mb 85 4) [16, 80000] (s1 := ⟨.bot :: .bot :: .pt 16 0 :: bt 82 [], [(16, .box [Ti y16.1, Ti f19, Ti y18.1]), (80000, .pbox (σ 80000) [.sl (y18.2.1.map c5), Ti y18.2.2.1, .v (.int .u64 y18.2.2.2)])]⟩) ?_ ?_
     ·refine XR 1 ?_
      refine XL_cons rfl (X_callR (E' := [(16, .box [Ti 0, Ti 0, Ti 0]), (80000, .pbox (σ 80000) [.sl (y16.2.1.map c5), Ti y16.2.2.1, .v (.int .u64 y16.2.2.2)])]) [(80000, 80000)] 40 (s_spec_l1Cur_pick hy16) cf_spec_l1Cur_pick rfl rfl (by kernel_rfl) rfl (mE_cons (by kernel_rfl) mE_nil) rfl (by kernel_rfl) rfl rfl (by kernel_rfl)) ?_
      refine XR 1 ?_
      refine XL_cons rfl (X_callR (E' := [(16, .box [Ti 0, Ti 0, Ti 0]), (80000, .pbox (σ 80000) [.sl (y17.2.1.map c5), Ti y17.2.2.1, .v (.int .u64 y17.2.2.2)])]) [(80000, 80000)] 42 (s_spec_l1Cur_pick hy17) cf_spec_l1Cur_pick rfl rfl (by kernel_rfl) rfl (mE_cons (by kernel_rfl) mE_nil) rfl (by kernel_rfl) rfl rfl (by kernel_rfl)) ?_
      refine XR 2 ?_
      refine XL_cons rfl (X_callR (E' := [(16, .box [Ti 0, Ti 0, Ti 0]), (80000, .pbox (σ 80000) [.sl (y18.2.1.map c5), Ti y18.2.2.1, .v (.int .u64 y18.2.2.2)])]) [(80000, 80000)] 45 (s_spec_l1Cur_pick hy18) cf_spec_l1Cur_pick rfl rfl (by kernel_rfl) rfl (mE_cons (by kernel_rfl) mE_nil) rfl (by kernel_rfl) rfl rfl (by kernel_rfl)) ?_
      refine L0 rfl rfl (Y0_build (cs := [Ti y16.1, Ti (w64 (y17.1 - 1500)), Ti y18.1]) pl45 bt45 rfl rfl (by kernel_rfl)) ?_
      refine XR 1 ?_
      refine XL_nil ?_
      subst hf19
      kernel_rfl
     refine V_ret ?_
     obtain rfl := some_inj h
     show PostR _ _ _ _ _ _
     exact ⟨⟨.inr rfl, rfl, rfl, rfl⟩, ⟨rfl, trivial⟩⟩
    ·have h := of_false h hc15
     refine V_e (mb 85 140737488355333) [16, 80000] (s1 := ⟨.pt 80000 0 :: .bot :: .pt 16 0 :: bt 44 (Bo (eqI y2.1 3) :: bt 37 []), [(16, .box [Ti 0, Ti 0, Ti 0]), (80000, .pbox (σ 80000) [.sl (y2.2.1.map c5), Ti y2.2.2.1, .v (.int .u64 y2.2.2.2)])]⟩) ?_
     refine V_cond rfl (fun hc20 => ?_) (fun hc20 => ?_)
     ·have h := of_true h hc20
      obtain ⟨y21, hy21, h⟩ := of_bind h
      obtain ⟨y22, hy22, h⟩ := of_bind h
      obtain ⟨y23, hy23, h⟩ := of_bind h
      obtain ⟨f24, hf24, h⟩ := of_sI h
      obtain ⟨f25, hf25, h⟩ := of_sI h
      obtain ⟨f26, hf26, h⟩ := of_sI h
      refine V_sreg (mb 85 4) [16, 80000] (s1 := ⟨.bot :: .bot :: .pt 16 0 :: bt 82 [], [(16, .box [Ti f24, Ti f25, Ti f26]), (80000, .pbox (σ 80000) [.sl (y23.2.1.map c5), Ti y23.2.2.1, .v (.int .u64 y23.2.2.2)])]⟩) ?_ ?_
      ·refine XR 1 ?_
       refine XL_cons rfl (X_callR (E' := [(16, .box [Ti 0, Ti 0, Ti 0]), (80000, .pbox (σ 80000) [.sl (y21.2.1.map c5), Ti y21.2.2.1, .v (.int .u64 y21.2.2.2)])]) [(80000, 80000)] 50 (s_spec_l1Cur_pick hy21) cf_spec_l1Cur_pick rfl rfl (by kernel_rfl) rfl (mE_cons (by kernel_rfl) mE_nil) rfl (by kernel_rfl) rfl rfl (by kernel_rfl)) ?_
       refine XR 2 ?_
       refine XL_cons rfl (X_callR (E' := [(16, .box [Ti 0, Ti 0, Ti 0]), (80000, .pbox (σ 80000) [.sl (y22.2.1.map c5), Ti y22.2.2.1, .v (.int .u64 y22.2.2.2)])]) [(80000, 80000)] 53 (s_spec_l1Cur_pick hy22) cf_spec_l1Cur_pick rfl rfl (by kernel_rfl) rfl (mE_cons (by kernel_rfl) mE_nil) rfl (by kernel_rfl) rfl rfl (by kernel_rfl)) ?_
       refine XR 2 ?_
       refine XL_cons rfl (X_callR (E' := [(16, .box [Ti 0, Ti 0, Ti 0]), (80000, .pbox (σ 80000) [.sl (y23.2.1.map c5), Ti y23.2.2.1, .v (.int .u64 y23.2.2.2)])]) [(80000, 80000)] 56 (s_spec_l1Cur_pick hy23) cf_spec_l1Cur_pick rfl rfl (by kernel_rfl) rfl (mE_cons (by kernel_rfl) mE_nil) rfl (by kernel_rfl) rfl rfl (by kernel_rfl)) ?_
       refine XR 1 ?_
       refine L0 rfl rfl (Y0_build (cs := [Ti (w64 (y21.1 - 10)), Ti (w64 (y22.1 - 10)), Ti (w64 (y23.1 - 10))]) pl45 bt45 rfl rfl (by kernel_rfl)) ?_
       refine XR 1 ?_
       refine XL_nil ?_
       subst hf24 hf25 hf26
       kernel_rfl
      refine V_ret ?_
      obtain rfl := some_inj h
      show PostR _ _ _ _ _ _
      exact ⟨⟨.inr rfl, rfl, rfl, rfl⟩, ⟨rfl, trivial⟩⟩
     ·have h := of_false h hc20
      refine V_skip ?_
      show V _ _ _ _
      obtain ⟨y27, hy27, h⟩ := of_bind h
      obtain ⟨y28, hy28, h⟩ := of_bind h
      obtain ⟨a29, ha29, h⟩ := of_sI h
      refine V_sreg (mb 85 53) [16, 80000] (s1 := ⟨.pt 80000 0 :: .bot :: .pt 16 0 :: .bot :: I a29 :: I y28.1 :: bt 79 [], [(16, .box [Ti 0, Ti 0, Ti 0]), (80000, .pbox (σ 80000) [.sl (y28.2.1.map c5), Ti y28.2.2.1, .v (.int .u64 y28.2.2.2)])]⟩) ?_ ?_
      ·refine XR 1 ?_
       refine XL_cons rfl (X_callR (E' := [(16, .box [Ti 0, Ti 0, Ti 0]), (80000, .pbox (σ 80000) [.sl (y27.2.1.map c5), Ti y27.2.2.1, .v (.int .u64 y27.2.2.2)])]) [(80000, 80000)] 60 (s_spec_l1Cur_pick hy27) cf_spec_l1Cur_pick rfl rfl (by kernel_rfl) rfl (mE_cons (by kernel_rfl) mE_nil) rfl (by kernel_rfl) rfl rfl (by kernel_rfl)) ?_
       refine XR 2 ?_
       refine XL_cons rfl (X_callR (E' := [(16, .box [Ti 0, Ti 0, Ti 0]), (80000, .pbox (σ 80000) [.sl (y28.2.1.map c5), Ti y28.2.2.1, .v (.int .u64 y28.2.2.2)])]) [(80000, 80000)] 63 (s_spec_l1Cur_pick hy28) cf_spec_l1Cur_pick rfl rfl (by kernel_rfl) rfl (mE_cons (by kernel_rfl) mE_nil) rfl (by kernel_rfl) rfl rfl (by kernel_rfl)) ?_
       refine XR 2 ?_
       refine XL_nil ?_
       subst ha29
       kernel_rfl
      obtain ⟨y30, hy30, h⟩ := of_bind h
      obtain ⟨b31, hb31, h⟩ := of_sI h
      refine V_sreg (mb 85 116) [16, 80000] (s1 := ⟨.bot :: .bot :: .pt 16 0 :: .bot :: I a29 :: I y28.1 :: I b31 :: bt 78 [], [(16, .box [Ti 0, Ti 0, Ti 0]), (80000, .pbox (σ 80000) [.sl (y30.2.1.map c5), Ti y30.2.2.1, .v (.int .u64 y30.2.2.2)])]⟩) ?_ ?_
      ·refine XR 3 ?_
       refine XL_cons rfl (X_callR (E' := [(16, .box [Ti 0, Ti 0, Ti 0]), (80000, .pbox (σ 80000) [.sl (y30.2.1.map c5), Ti y30.2.2.1, .v (.int .u64 y30.2.2.2)])]) [(80000, 80000)] 67 (s_spec_l1Cur_pick hy30) cf_spec_l1Cur_pick rfl rfl (by kernel_rfl) rfl (mE_cons (by kernel_rfl) mE_nil) rfl (by kernel_rfl) rfl rfl (by kernel_rfl)) ?_
       refine XR 4 ?_
       refine XL_nil ?_
       subst hb31
       kernel_rfl
      obtain ⟨z32, hz32, h⟩ := of_bind h
      obtain ⟨f33, hf33, h⟩ := of_sI h
      refine V_sreg (mb 85 4) [16, 80000] (s1 := ⟨.bot :: .bot :: .pt 16 0 :: bt 82 [], [(16, .box [Ti a29, Ti b31, Ti f33]), (80000, .pbox (σ 80000) [.sl (y30.2.1.map c5), Ti y30.2.2.1, .v (.int .u64 y30.2.2.2)])]⟩) ?_ ?_
      ·refine XR 10 ?_
       refine L0 rfl rfl (Y0_quo64 (a := w64 ((w64 (b31 * b31)) + (w64 (4 * a29)))) (b := w64 (4 * a29)) rfl (by kernel_rfl) (by kernel_rfl) (nz_some hz32)) ?_
       refine XR 2 ?_
       refine L0 rfl rfl (Y0_build (cs := [Ti a29, Ti b31, Ti (w64 ((w64 (Int.tdiv (w64 ((w64 (b31 * b31)) + (w64 (4 * a29)))) (w64 (4 * a29)))) + y28.1))]) pl45 bt45 rfl rfl (by kernel_rfl)) ?_
       refine XR 1 ?_
       refine XL_nil ?_
       subst hf33
       kernel_rfl
      refine V_ret ?_
      obtain rfl := some_inj h
      show PostR _ _ _ _ _ _
      exact ⟨⟨.inr rfl, rfl, rfl, rfl⟩, ⟨rfl, trivial⟩⟩
theorem cf_spec_l1Cur_positive : ∀ args w, (callFunc 216 args).run Try.prog w = .ok (.enter 216 args) w := run_callFunc Try.func216 (by kernel_rfl) (by kernel_rfl)
theorem s_spec_l1Cur_positive {c1 : ((List Int) × Int × Int)} {r : (Int × (((List Int) × Int × Int)))} (h : r_spec_l1Cur_positive c1 = some r) : CallR Try.prog 216 [.pt 80000 0] [(80000, .box [.sl (c1.1.map c5), Ti c1.2.1, .v (.int .u64 c1.2.2)])] (I r.1) [] [(80000, .box [.sl (r.2.1.map c5), Ti r.2.2.1, .v (.int .u64 r.2.2.2)])] := by
  refine CallR_of_text (rs := [.t 2]) (vs := [.tmp 2]) Try.func216 rfl rfl (.cons rfl FitsL.nil) (by decide) 26 rfl rfl fun σ => ?_
  unfold r_spec_l1Cur_positive at h
  show V _ _ ⟨.pt 80000 0 :: bt 25 [], [(80000, .pbox (σ 80000) [.sl (c1.1.map c5), Ti c1.2.1, .v (.int .u64 c1.2.2)])]⟩ _
  refine V_e (mb 26 1) [80000] (s1 := ⟨.pt 80000 0 :: bt 25 [], [(80000, .pbox (σ 80000) [.sl (c1.1.map c5), Ti c1.2.1, .v (.int .u64 c1.2.2)])]⟩) ?_
  refine V_seq ?_
  obtain ⟨y2, hy2, h⟩ := of_bind h
  refine V_sreg (mb 26 33) [80000] (s1 := ⟨.pt 80000 0 :: bt 4 (I y2.1 :: bt 20 []), [(80000, .pbox (σ 80000) [.sl (y2.2.1.map c5), Ti y2.2.2.1, .v (.int .u64 y2.2.2.2)])]⟩) ?_ ?_
  ·refine XR 1 ?_
   refine XL_cons rfl (X_callR (E' := [(80000, .pbox (σ 80000) [.sl (y2.2.1.map c5), Ti y2.2.2.1, .v (.int .u64 y2.2.2.2)])]) [(80000, 80000)] 5 (s_spec_l1Cur_pick hy2) cf_spec_l1Cur_pick rfl rfl (by kernel_rfl) rfl (mE_cons (by kernel_rfl) mE_nil) rfl (by kernel_rfl) rfl rfl (by kernel_rfl)) ?_
   exact XE
  refine V_block ?_
  refine V_e (mb 26 97) [80000] (s1 := ⟨.pt 80000 0 :: bt 4 (I y2.1 :: Bo (eqI y2.1 0) :: bt 19 []), [(80000, .pbox (σ 80000) [.sl (y2.2.1.map c5), Ti y2.2.2.1, .v (.int .u64 y2.2.2.2)])]⟩) ?_
  refine V_cond rfl (fun hc3 => ?_) (fun hc3 => ?_)
  ·have h := of_true h hc3
   obtain ⟨y4, hy4, h⟩ := of_bind h
   refine V_sreg (mb 26 4) [80000] (s1 := ⟨.bot :: .bot :: I y4.1 :: bt 23 [], [(80000, .pbox (σ 80000) [.sl (y4.2.1.map c5), Ti y4.2.2.1, .v (.int .u64 y4.2.2.2)])]⟩) ?_ ?_
   ·refine XR 1 ?_
    refine L1 rfl rfl (Y1_bslice (z := zv3) (els := [4, 9, 1000, 1001, 0, -3, 5, 997, 1004, 996, 2, 1099511627776].map c3) Try.underlying41 iz3 rfl (by decide) rfl (by kernel_rfl) rfl (by simp [c3]) (by decide) (by decide)) ?_
    refine XL_freeze 72 (T := 3) (sz := 1) (els := ([4, 9, 1000, 1001, 0, -3, 5, 997, 1004, 996, 2, 1099511627776]).map c3) (s1 := ⟨.pt 80000 0 :: bt 4 (I y2.1 :: Bo (eqI y2.1 0) :: .bot :: .pt 80000 0 :: .c (.sl (([4, 9, 1000, 1001, 0, -3, 5, 997, 1004, 996, 2, 1099511627776]).map c3)) :: bt 16 []), [(80000, .pbox (σ 80000) [.sl (y2.2.1.map c5), Ti y2.2.2.1, .v (.int .u64 y2.2.2.2)])]⟩) (by kernel_rfl) (by kernel_rfl) ?_
    refine XL_cons rfl (X_callR (E' := [(80000, .pbox (σ 80000) [.sl (y4.2.1.map c5), Ti y4.2.2.1, .v (.int .u64 y4.2.2.2)])]) [(80000, 80000)] 10 (s_spec_l1Cur_among hy4) cf_spec_l1Cur_among rfl rfl (by kernel_rfl) rfl (mE_cons (by kernel_rfl) mE_nil) rfl (by kernel_rfl) rfl rfl (by kernel_rfl)) ?_
    exact XE
   refine V_ret ?_
   obtain rfl := some_inj h
   show PostR _ _ _ _ _ _
   exact ⟨⟨.inr rfl, rfl, rfl, rfl⟩, ⟨rfl, trivial⟩⟩
  ·have h := of_false h hc3
   obtain ⟨j5, hj5, h⟩ := of_bind h
   refine V_cutK (mb 26 2049) [80000] (s1 := ⟨.pt 80000 0 :: bt 10 (Bo j5 :: bt 14 []), [(80000, .pbox (σ 80000) [.sl (y2.2.1.map c5), Ti y2.2.2.1, .v (.int .u64 y2.2.2.2)])]⟩) ?_ ?_
   ·clear h
    have h := hj5
    clear hj5
    refine V_e (mb 26 2081) [80000] (s1 := ⟨.pt 80000 0 :: bt 4 (I y2.1 :: bt 5 (Bo (eqI y2.1 1) :: bt 14 [])), [(80000, .pbox (σ 80000) [.sl (y2.2.1.map c5), Ti y2.2.2.1, .v (.int .u64 y2.2.2.2)])]⟩) ?_
    refine V_cond rfl (fun hc6 => ?_) (fun hc6 => ?_)
    ·have h := of_true h hc6
     refine V_skip ?_
     obtain rfl := some_inj h
     show St.keep _ _ _ = _
     rfl
    ·have h := of_false h hc6
     refine V_reg (mb 26 2049) [80000] (s1 := ⟨.pt 80000 0 :: bt 10 (Bo (eqI y2.1 2) :: bt 14 []), [(80000, .pbox (σ 80000) [.sl (y2.2.1.map c5), Ti y2.2.2.1, .v (.int .u64 y2.2.2.2)])]⟩) ?_ ?_
     ·exact XE
     obtain rfl := some_inj h
     show St.keep _ _ _ = _
     rfl
   refine V_cond rfl (fun hc7 => ?_) (fun hc7 => ?_)
   ·have h := of_true h hc7
    obtain ⟨y8, hy8, h⟩ := of_bind h
    refine V_sreg (mb 26 4) [80000] (s1 := ⟨.bot :: .bot :: I y8.1 :: bt 23 [], [(80000, .pbox (σ 80000) [.sl (y8.2.1.map c5), Ti y8.2.2.1, .v (.int .u64 y8.2.2.2)])]⟩) ?_ ?_
    ·refine XR 1 ?_
     refine L1 rfl rfl (Y1_bslice (z := zv3) (els := [5, 8, 12, 13, 60, 136, 221, 229, 257, 316, 401, 520, 780, 840, 924].map c3) Try.underlying41 iz3 rfl (by decide) rfl (by kernel_rfl) rfl (by simp [c3]) (by decide) (by decide)) ?_
     refine XL_freeze 120 (T := 3) (sz := 1) (els := ([5, 8, 12, 13, 60, 136, 221, 229, 257, 316, 401, 520, 780, 840, 924]).map c3) (s1 := ⟨.pt 80000 0 :: bt 10 (Bo j5 :: .bot :: .bot :: .pt 80000 0 :: .c (.sl (([5, 8, 12, 13, 60, 136, 221, 229, 257, 316, 401, 520, 780, 840, 924]).map c3)) :: bt 10 []), [(80000, .pbox (σ 80000) [.sl (y2.2.1.map c5), Ti y2.2.2.1, .v (.int .u64 y2.2.2.2)])]⟩) (by kernel_rfl) (by kernel_rfl) ?_
     refine XL_cons rfl (X_callR (E' := [(80000, .pbox (σ 80000) [.sl (y8.2.1.map c5), Ti y8.2.2.1, .v (.int .u64 y8.2.2.2)])]) [(80000, 80000)] 16 (s_spec_l1Cur_among hy8) cf_spec_l1Cur_among rfl rfl (by kernel_rfl) rfl (mE_cons (by kernel_rfl) mE_nil) rfl (by kernel_rfl) rfl rfl (by kernel_rfl)) ?_
     exact XE
    refine V_ret ?_
    obtain rfl := some_inj h
    show PostR _ _ _ _ _ _
    exact ⟨⟨.inr rfl, rfl, rfl, rfl⟩, ⟨rfl, trivial⟩⟩
   ·have h := of_false h hc7
    refine V_skip ?_
    show V _ _ _ _
    obtain ⟨y9, hy9, h⟩ := of_bind h
    obtain ⟨d10, hd10, h⟩ := of_sI h
    refine V_sreg (mb 26 9) [80000] (s1 := ⟨.pt 80000 0 :: .bot :: .bot :: I d10 :: bt 22 [], [(80000, .pbox (σ 80000) [.sl (y9.2.1.map c5), Ti y9.2.2.1, .v (.int .u64 y9.2.2.2)])]⟩) ?_ ?_
    ·refine XR 1 ?_
     refine XL_cons rfl (X_callR (E' := [(80000, .pbox (σ 80000) [.sl (y9.2.1.map c5), Ti y9.2.2.1, .v (.int .u64 y9.2.2.2)])]) [(80000, 80000)] 18 (s_spec_l1Cur_pick hy9) cf_spec_l1Cur_pick rfl rfl (by kernel_rfl) rfl (mE_cons (by kernel_rfl) mE_nil) rfl (by kernel_rfl) rfl rfl (by kernel_rfl)) ?_
     refine XR 3 ?_
     refine XL_nil ?_
     subst hd10
     kernel_rfl
    refine V_seq ?_
    obtain ⟨y11, hy11, h⟩ := of_bind h
    refine V_sreg (mb 26 4194312) [80000] (s1 := ⟨bt 3 (I d10 :: bt 18 (Bo y11.1 :: bt 3 [])), [(80000, .pbox (σ 80000) [.sl (y11.2.1.map c5), Ti y11.2.2.1, .v (.int .u64 y11.2.2.2)])]⟩) ?_ ?_
    ·refine XR 1 ?_
     refine XL_cons rfl (X_callR (E' := [(80000, .pbox (σ 80000) [.sl (y11.2.1.map c5), Ti y11.2.2.1, .v (.int .u64 y11.2.2.2)])]) [(80000, 80000)] 22 (s_spec_l1Cur_one hy11) cf_spec_l1Cur_one rfl rfl (by kernel_rfl) rfl (mE_cons (by kernel_rfl) mE_nil) rfl (by kernel_rfl) rfl rfl (by kernel_rfl)) ?_
     exact XE
    refine V_cond rfl (fun hc12 => ?_) (fun hc12 => ?_)
    ·have h := of_true h hc12
     obtain ⟨d13, hd13, h⟩ := of_sI h
     refine V_reg (mb 26 8) [80000] (s1 := ⟨bt 3 (I d13 :: bt 22 []), [(80000, .pbox (σ 80000) [.sl (y11.2.1.map c5), Ti y11.2.2.1, .v (.int .u64 y11.2.2.2)])]⟩) ?_ ?_
     ·refine XR 3 ?_
      refine XL_nil ?_
      subst hd13
      kernel_rfl
     show V _ _ _ _
     refine V_e (mb 26 4) [80000] (s1 := ⟨.bot :: .bot :: I d13 :: bt 23 [], [(80000, .pbox (σ 80000) [.sl (y11.2.1.map c5), Ti y11.2.2.1, .v (.int .u64 y11.2.2.2)])]⟩) ?_
     refine V_ret ?_
     obtain rfl := some_inj h
     show PostR _ _ _ _ _ _
     exact ⟨⟨.inr rfl, rfl, rfl, rfl⟩, ⟨rfl, trivial⟩⟩
    ·have h := of_false h hc12
     refine V_skip ?_
     show V _ _ _ _
     refine V_e (mb 26 4) [80000] (s1 := ⟨.bot :: .bot :: I d10 :: bt 23 [], [(80000, .pbox (σ 80000) [.sl (y11.2.1.map c5), Ti y11.2.2.1, .v (.int .u64 y11.2.2.2)])]⟩) ?_
     refine V_ret ?_
     obtain rfl := some_inj h
     show PostR _ _ _ _ _ _
     exact ⟨⟨.inr rfl, rfl, rfl, rfl⟩, ⟨rfl, trivial⟩⟩
theorem cf_spec_l1In : ∀ args w, (callFunc 125 args).run Try.prog w = .ok (.enter 125 args) w := run_callFunc Try.func125 (by kernel_rfl) (by kernel_rfl)
theorem s_spec_l1In {vn1 : Int} {lo2 : Int} {hi3 : Int} {r : Bool} (h : r_spec_l1In vn1 lo2 hi3 = some r) : CallS Try.prog 125 [I vn1, I lo2, I hi3] (Bo r) [] := by
  refine CallS_of_text (rs := [.t 6]) (vs := [.tmp 6]) Try.func125 rfl rfl (.cons rfl FitsL.nil) (by decide) 15 rfl ?_
  unfold r_spec_l1In at h
  show V _ _ ⟨I vn1 :: I lo2 :: I hi3 :: bt 12 [], []⟩ _
  refine V_e (mb 15 7) [] (s1 := ⟨I vn1 :: I lo2 :: I hi3 :: bt 12 [], []⟩) ?_
  refine V_sreg (mb 15 64) [] (s1 := ⟨bt 6 (Bo (bif (leI lo2 vn1) then (leI vn1 hi3) else false) :: bt 8 []), []⟩) ?_ ?_
  ·refine XR 4 ?_
   refine XL_split (leI lo2 vn1) (fun hc4 => ?_) (fun hc4 => ?_)
   ·refine XL_takeC _ rfl rfl (by kernel_rfl) hc4 (X_of_Y0 rfl (E_move (I vn1) rfl (by kernel_rfl))) ?_
    refine XL_takeC _ rfl rfl (by kernel_rfl) hc4 (X_of_Y0 rfl (E_move (I hi3) rfl (by kernel_rfl))) ?_
    refine XL_takeC _ rfl rfl (by kernel_rfl) hc4 (X_of_Y0 rfl (Y0_lew (k := .i64) (a := vn1) (b := hi3) rfl (by kernel_rfl) (by kernel_rfl))) ?_
    refine XL_cons rfl (X_of_Y0 rfl (Y0_pick1 (b := leI lo2 vn1) (p := leI vn1 hi3) (q := false) rfl (by kernel_rfl) hc4 (by kernel_rfl))) ?_
    exact XE
   ·refine XL_skipT _ rfl rfl (by kernel_rfl) hc4 rfl ?_
    refine XL_skipT _ rfl rfl (by kernel_rfl) hc4 rfl ?_
    refine XL_skipT _ rfl rfl (by kernel_rfl) hc4 rfl ?_
    refine XL_cons rfl (X_of_Y0 rfl (Y0_pick0 (b := leI lo2 vn1) (p := leI vn1 hi3) (q := false) rfl (by kernel_rfl) hc4 (by kernel_rfl))) ?_
    exact XE
  refine V_ret ?_
  obtain rfl := some_inj h
  show Post _ _ _ _ _
  exact ⟨.inr rfl, rfl, rfl, rfl⟩
theorem cf_spec_nuMod : ∀ args w, (callFunc 63 args).run Try.prog w = .ok (.enter 63 args) w := run_callFunc Try.func63 (by kernel_rfl) (by kernel_rfl)
theorem s_spec_nuMod {a1 : Int} {vm2 : Int} {r : Int} (h : r_spec_nuMod a1 vm2 = some r) : CallS Try.prog 63 [I a1, I vm2] (I r) [] := by
  refine CallS_of_text (rs := [.t 4]) (vs := [.tmp 4]) Try.func63 rfl rfl (.cons rfl FitsL.nil) (by decide) 15 rfl ?_
  unfold r_spec_nuMod at h
  show V _ _ ⟨I a1 :: I vm2 :: bt 13 [], []⟩ _
  refine V_e (mb 15 3) [] (s1 := ⟨I a1 :: I vm2 :: bt 13 [], []⟩) ?_
  obtain ⟨z3, hz3, h⟩ := of_bind h
  obtain ⟨vr4, hvr4, h⟩ := of_sI h
  refine V_sreg (mb 15 34) [] (s1 := ⟨.bot :: I vm2 :: bt 3 (I vr4 :: bt 9 []), []⟩) ?_ ?_
  ·refine XR 2 ?_
   refine L0 rfl rfl (Y0_rem (k := .i64) (a := a1) (b := vm2) rfl (by kernel_rfl) (by kernel_rfl) (nz_some hz3)) ?_
   refine XR 1 ?_
   refine XL_nil ?_
   subst hvr4
   kernel_rfl
  refine V_seq ?_
  refine V_e (mb 15 1058) [] (s1 := ⟨.bot :: I vm2 :: bt 3 (I vr4 :: bt 4 (Bo (ltI vr4 0) :: bt 4 [])), []⟩) ?_
  refine V_cond rfl (fun hc5 => ?_) (fun hc5 => ?_)
  ·have h := of_true h hc5
   obtain ⟨vr6, hvr6, h⟩ := of_sI h
   refine V_reg (mb 15 32) [] (s1 := ⟨bt 5 (I vr6 :: bt 9 []), []⟩) ?_ ?_
   ·refine XR 4 ?_
    refine XL_nil ?_
    subst hvr6
    kernel_rfl
   show V _ _ _ _
   refine V_e (mb 15 16) [] (s1 := ⟨bt 4 (I vr6 :: bt 10 []), []⟩) ?_
   refine V_ret ?_
   obtain rfl := some_inj h
   show Post _ _ _ _ _
   exact ⟨.inr rfl, rfl, rfl, rfl⟩
  ·have h := of_false h hc5
   refine V_skip ?_
   show V _ _ _ _
   refine V_e (mb 15 16) [] (s1 := ⟨bt 4 (I vr4 :: bt 10 []), []⟩) ?_
   refine V_ret ?_
   obtain rfl := some_inj h
   show Post _ _ _ _ _
   exact ⟨.inr rfl, rfl, rfl, rfl⟩
theorem cf_spec_nuRoot : ∀ args w, (callFunc 196 args).run Try.prog w = .ok (.enter 196 args) w := run_callFunc Try.func196 (by kernel_rfl) (by kernel_rfl)
theorem s_spec_nuRoot {vn1 : Int} {r : Int} (h : r_spec_nuRoot vn1 = some r) : CallS Try.prog 196 [I vn1] (I r) [] := by
  refine CallS_of_text (rs := [.t 2]) (vs := [.tmp 2]) Try.func196 rfl rfl (.cons rfl FitsL.nil) (by decide) 23 rfl ?_
  unfold r_spec_nuRoot at h
  show V _ _ ⟨I vn1 :: bt 22 [], []⟩ _
  refine V_e (mb 23 1) [] (s1 := ⟨I vn1 :: bt 22 [], []⟩) ?_
  refine V_e (mb 23 25) [] (s1 := ⟨I vn1 :: .bot :: .bot :: I 0 :: I 1000000000 :: bt 18 [], []⟩) ?_
  refine V_seq ?_
  obtain ⟨o5, hLo5, h⟩ := of_bind h
  refine V_toK (mb 23 8) [] (s1 := ⟨bt 3 (I o5 :: bt 19 []), []⟩) ?_ ?_
  ·clear h
   refine V_block (V_loop (fun n s => ∃ (lo2 : Int) (hi3 : Int), s.keep (mb 23 25) [] = (⟨I vn1 :: .bot :: .bot :: I lo2 :: I hi3 :: bt 18 [], []⟩ : St) ∧ r_spec_nuRoot_L4 vn1 n lo2 hi3 = some o5) FU ⟨_, _,  by rfl, hLo5⟩ ?_)
   clear hLo5
   rintro n s ⟨lo2, hi3, hs, h⟩
   refine V_keep _ _ hs ?_
   clear hs
   cases n with
   | zero => cases h
   | succ n =>
    rw [r_spec_nuRoot_L4] at h
    refine V_seq ?_
    refine V_e (mb 23 281) [] (s1 := ⟨I vn1 :: .bot :: .bot :: I lo2 :: I hi3 :: bt 3 (Bo (ltI lo2 hi3) :: bt 14 []), []⟩) ?_
    refine V_cond rfl (fun hc6 => ?_) (fun hc6 => ?_)
    ·have h := of_true h hc6
     refine V_skip ?_
     show V _ _ _ _
     refine V_block ?_
     obtain ⟨mid7, hmid7, h⟩ := of_sI h
     refine V_sreg (mb 23 57) [] (s1 := ⟨I vn1 :: .bot :: .bot :: I lo2 :: I hi3 :: I mid7 :: bt 17 [], []⟩) ?_ ?_
     ·refine XR 4 ?_
      refine L0 rfl rfl (Y0_quo64 (a := w64 ((w64 (lo2 + hi3)) + 1)) (b := 2) rfl (by kernel_rfl) (by kernel_rfl) (by decide)) ?_
      refine XR 1 ?_
      refine XL_nil ?_
      subst hmid7
      kernel_rfl
     refine V_e (mb 23 262201) [] (s1 := ⟨I vn1 :: .bot :: .bot :: I lo2 :: I hi3 :: I mid7 :: bt 12 (Bo (leI (w64 (mid7 * mid7)) vn1) :: bt 4 []), []⟩) ?_
     refine V_cond rfl (fun hc8 => ?_) (fun hc8 => ?_)
     ·have h := of_true h hc8
      refine V_reg (mb 23 25) [] (s1 := ⟨I vn1 :: .bot :: .bot :: I mid7 :: I hi3 :: bt 18 [], []⟩) ?_ ?_
      ·exact XE
      exact ⟨n, Nat.lt_succ_self n, _, _,  by rfl, h⟩
     ·have h := of_false h hc8
      obtain ⟨hi9, hhi9, h⟩ := of_sI h
      refine V_reg (mb 23 25) [] (s1 := ⟨I vn1 :: .bot :: .bot :: I lo2 :: I hi9 :: bt 18 [], []⟩) ?_ ?_
      ·refine XR 3 ?_
       refine XL_nil ?_
       subst hhi9
       kernel_rfl
      exact ⟨n, Nat.lt_succ_self n, _, _,  by rfl, h⟩
    ·have h := of_false h hc6
     refine V_exit ?_
     obtain rfl := some_inj h
     show St.keep _ _ _ = _
     rfl
  show V _ _ _ _
  refine V_e (mb 23 4) [] (s1 := ⟨.bot :: .bot :: I o5 :: bt 20 [], []⟩) ?_
  refine V_ret ?_
  obtain rfl := some_inj h
  show Post _ _ _ _ _
  exact ⟨.inr rfl, rfl, rfl, rfl⟩
theorem cf_spec_nuSquare : ∀ args w, (callFunc 140 args).run Try.prog w = .ok (.enter 140 args) w := run_callFunc Try.func140 (by kernel_rfl) (by kernel_rfl)
theorem s_spec_nuSquare {vn1 : Int} {r : Bool} (h : r_spec_nuSquare vn1 = some r) : CallS Try.prog 140 [I vn1] (Bo r) [] := by
  refine CallS_of_text (rs := [.t 2]) (vs := [.tmp 2]) Try.func140 rfl rfl (.cons rfl FitsL.nil) (by decide) 13 rfl ?_
  unfold r_spec_nuSquare at h
  show V _ _ ⟨I vn1 :: bt 12 [], []⟩ _
  refine V_e (mb 13 1) [] (s1 := ⟨I vn1 :: bt 12 [], []⟩) ?_
  refine V_seq ?_
  refine V_e (mb 13 33) [] (s1 := ⟨I vn1 :: bt 4 (Bo (ltI vn1 0) :: bt 7 []), []⟩) ?_
  refine V_cond rfl (fun hc2 => ?_) (fun hc2 => ?_)
  ·have h := of_true h hc2
   refine V_e (mb 13 4) [] (s1 := ⟨.bot :: .bot :: Bo false :: bt 10 [], []⟩) ?_
   refine V_ret ?_
   obtain rfl := some_inj h
   show Post _ _ _ _ _
   exact ⟨.inr rfl, rfl, rfl, rfl⟩
  ·have h := of_false h hc2
   refine V_skip ?_
   show V _ _ _ _
   obtain ⟨y3, hy3, h⟩ := of_bind h
   refine V_sreg (mb 13 9) [] (s1 := ⟨I vn1 :: .bot :: .bot :: I y3 :: bt 9 [], []⟩) ?_ ?_
   ·refine XR 1 ?_
    refine XC (s_spec_nuRoot hy3) cf_spec_nuRoot rfl rfl rfl ?_
    exact XE
   refine V_e (mb 13 4) [] (s1 := ⟨.bot :: .bot :: Bo (eqI (w64 (y3 * y3)) vn1) :: bt 10 [], []⟩) ?_
   refine V_ret ?_
   obtain rfl := some_inj h
   show Post _ _ _ _ _
   exact ⟨.inr rfl, rfl, rfl, rfl⟩
theorem cf_spec_cyDisc : ∀ args w, (callFunc 176 args).run Try.prog w = .ok (.enter 176 args) w := run_callFunc Try.func176 (by kernel_rfl) (by kernel_rfl)
theorem s_spec_cyDisc {d1 : Int} {r : Bool} (h : r_spec_cyDisc d1 = some r) : CallS Try.prog 176 [I d1] (Bo r) [] := by
  refine CallS_of_text (rs := [.t 2]) (vs := [.tmp 2]) Try.func176 rfl rfl (.cons rfl FitsL.nil) (by decide) 15 rfl ?_
  unfold r_spec_cyDisc at h
  show V _ _ ⟨I d1 :: bt 14 [], []⟩ _
  refine V_e (mb 15 1) [] (s1 := ⟨I d1 :: bt 14 [], []⟩) ?_
  obtain ⟨y2, hy2, h⟩ := of_bind h
  obtain ⟨b5, hb5, h⟩ := of_bind h
  obtain ⟨b8, hb8, h⟩ := of_bind h
  refine V_sreg (mb 15 4) [] (s1 := ⟨.bot :: .bot :: Bo b8 :: bt 12 [], []⟩) ?_ ?_
  ·refine XR 1 ?_
   refine XC (s_spec_l1In hy2) cf_spec_l1In rfl rfl rfl ?_
   refine XR 1 ?_
   refine XL_split y2 (fun hc3 => ?_) (fun hc3 => ?_)
   ·have hb5 := of_true hb5 hc3
    obtain ⟨y4, hy4, hb5⟩ := of_bind hb5
    have hb5 := some_inj hb5
    refine XL_takeC _ rfl rfl (by kernel_rfl) hc3 (X_of_Y0 rfl (E_move (I d1) rfl (by kernel_rfl))) ?_
    refine XL_takeC _ rfl rfl (by kernel_rfl) hc3 (X_of_Y1 rfl (Y1_call (s_spec_nuMod hy4) cf_spec_nuMod rfl (by kernel_rfl))) ?_
    refine XL_takeC _ rfl rfl (by kernel_rfl) hc3 (X_of_Y0 rfl (Y0_ltw (k := .i64) (a := y4) (b := 2) rfl (by kernel_rfl) (by kernel_rfl))) ?_
    refine XL_cons rfl (X_of_Y0 rfl (Y0_pickTe (b := y2) (p := ltI y4 2) rfl (by kernel_rfl) hc3 (by kernel_rfl) hb5)) ?_
    refine XR 1 ?_
    refine XL_split b5 (fun hc6 => ?_) (fun hc6 => ?_)
    ·have hb8 := of_true hb8 hc6
     obtain ⟨y7, hy7, hb8⟩ := of_bind hb8
     have hb8 := some_inj hb8
     refine XL_takeC _ rfl rfl (by kernel_rfl) hc6 (X_of_Y0 rfl (E_move (I d1) rfl (by kernel_rfl))) ?_
     refine XL_takeC _ rfl rfl (by kernel_rfl) hc6 (X_of_Y1 rfl (Y1_call (s_spec_nuSquare hy7) cf_spec_nuSquare rfl (by kernel_rfl))) ?_
     refine XL_takeC _ rfl rfl (by kernel_rfl) hc6 (X_of_Y0 rfl (Y0_not (b := y7) rfl (by kernel_rfl))) ?_
     refine XL_cons rfl (X_of_Y0 rfl (Y0_pickTe (b := b5) (p := !y7) rfl (by kernel_rfl) hc6 (by kernel_rfl) hb8)) ?_
     exact XE
    ·have hb8 := some_inj (of_false hb8 hc6)
     refine XL_skipT _ rfl rfl (by kernel_rfl) hc6 rfl ?_
     refine XL_skipT _ rfl rfl (by kernel_rfl) hc6 rfl ?_
     refine XL_skipT _ rfl rfl (by kernel_rfl) hc6 rfl ?_
     refine XL_cons rfl (X_of_Y0 rfl (Y0_pickFe (b := b5) (p := false) rfl (by kernel_rfl) hc6 (by kernel_rfl) hb8)) ?_
     exact XE
   ·have hb5 := some_inj (of_false hb5 hc3)
    refine XL_skipT _ rfl rfl (by kernel_rfl) hc3 rfl ?_
    refine XL_skipT _ rfl rfl (by kernel_rfl) hc3 rfl ?_
    refine XL_skipT _ rfl rfl (by kernel_rfl) hc3 rfl ?_
    refine XL_cons rfl (X_of_Y0 rfl (Y0_pickFe (b := y2) (p := false) rfl (by kernel_rfl) hc3 (by kernel_rfl) hb5)) ?_
    refine XR 1 ?_
    refine XL_split b5 (fun hc6 => ?_) (fun hc6 => ?_)
    ·have hb8 := of_true hb8 hc6
     obtain ⟨y7, hy7, hb8⟩ := of_bind hb8
     have hb8 := some_inj hb8
     refine XL_takeC _ rfl rfl (by kernel_rfl) hc6 (X_of_Y0 rfl (E_move (I d1) rfl (by kernel_rfl))) ?_
     refine XL_takeC _ rfl rfl (by kernel_rfl) hc6 (X_of_Y1 rfl (Y1_call (s_spec_nuSquare hy7) cf_spec_nuSquare rfl (by kernel_rfl))) ?_
     refine XL_takeC _ rfl rfl (by kernel_rfl) hc6 (X_of_Y0 rfl (Y0_not (b := y7) rfl (by kernel_rfl))) ?_
     refine XL_cons rfl (X_of_Y0 rfl (Y0_pickTe (b := b5) (p := !y7) rfl (by kernel_rfl) hc6 (by kernel_rfl) hb8)) ?_
     exact XE
    ·have hb8 := some_inj (of_false hb8 hc6)
     refine XL_skipT _ rfl rfl (by kernel_rfl) hc6 rfl ?_
     refine XL_skipT _ rfl rfl (by kernel_rfl) hc6 rfl ?_
     refine XL_skipT _ rfl rfl (by kernel_rfl) hc6 rfl ?_
     refine XL_cons rfl (X_of_Y0 rfl (Y0_pickFe (b := b5) (p := false) rfl (by kernel_rfl) hc6 (by kernel_rfl) hb8)) ?_
     exact XE
  refine V_ret ?_
  obtain rfl := some_inj h
  show Post _ _ _ _ _
  exact ⟨.inr rfl, rfl, rfl, rfl⟩
theorem cf_spec_l1Cur_goodPositive : ∀ args w, (callFunc 174 args).run Try.prog w = .ok (.enter 174 args) w := run_callFunc Try.func174 (by kernel_rfl) (by kernel_rfl)
theorem s_spec_l1Cur_goodPositive {c1 : ((List Int) × Int × Int)} {r : (Int × (((List Int) × Int × Int)))} (h : r_spec_l1Cur_goodPositive c1 = some r) : CallR Try.prog 174 [.pt 80000 0] [(80000, .box [.sl (c1.1.map c5), Ti c1.2.1, .v (.int .u64 c1.2.2)])] (I r.1) [] [(80000, .box [.sl (r.2.1.map c5), Ti r.2.2.1, .v (.int .u64 r.2.2.2)])] := by
  refine CallR_of_text (rs := [.t 2]) (vs := [.tmp 2]) Try.func174 rfl rfl (.cons rfl FitsL.nil) (by decide) 10 rfl rfl fun σ => ?_
  unfold r_spec_l1Cur_goodPositive at h
  show V _ _ ⟨.pt 80000 0 :: bt 9 [], [(80000, .pbox (σ 80000) [.sl (c1.1.map c5), Ti c1.2.1, .v (.int .u64 c1.2.2)])]⟩ _
  refine V_e (mb 10 1) [80000] (s1 := ⟨.pt 80000 0 :: bt 9 [], [(80000, .pbox (σ 80000) [.sl (c1.1.map c5), Ti c1.2.1, .v (.int .u64 c1.2.2)])]⟩) ?_
  obtain ⟨y2, hy2, h⟩ := of_bind h
  refine V_sreg (mb 10 8) [80000] (s1 := ⟨bt 3 (I y2.1 :: bt 6 []), [(80000, .pbox (σ 80000) [.sl (y2.2.1.map c5), Ti y2.2.2.1, .v (.int .u64 y2.2.2.2)])]⟩) ?_ ?_
  ·refine XR 1 ?_
   refine XL_cons rfl (X_callR (E' := [(80000, .pbox (σ 80000) [.sl (y2.2.1.map c5), Ti y2.2.2.1, .v (.int .u64 y2.2.2.2)])]) [(80000, 80000)] 5 (s_spec_l1Cur_positive hy2) cf_spec_l1Cur_positive rfl rfl (by kernel_rfl) rfl (mE_cons (by kernel_rfl) mE_nil) rfl (by kernel_rfl) rfl rfl (by kernel_rfl)) ?_
   exact XE
  refine V_seq ?_
  obtain ⟨y3, hy3, h⟩ := of_bind h
  refine V_sreg (mb 10 264) [80000] (s1 := ⟨bt 3 (I y2.1 :: bt 4 (Bo (!y3) :: .bot :: [])), [(80000, .pbox (σ 80000) [.sl (y2.2.1.map c5), Ti y2.2.2.1, .v (.int .u64 y2.2.2.2)])]⟩) ?_ ?_
  ·refine XR 1 ?_
   refine XC (s_spec_cyDisc hy3) cf_spec_cyDisc rfl rfl rfl ?_
   exact XE
  refine V_cond rfl (fun hc4 => ?_) (fun hc4 => ?_)
  ·have h := of_true h hc4
   refine V_e (mb 10 4) [80000] (s1 := ⟨.bot :: .bot :: I 136 :: bt 7 [], [(80000, .pbox (σ 80000) [.sl (y2.2.1.map c5), Ti y2.2.2.1, .v (.int .u64 y2.2.2.2)])]⟩) ?_
   refine V_ret ?_
   obtain rfl := some_inj h
   show PostR _ _ _ _ _ _
   exact ⟨⟨.inr rfl, rfl, rfl, rfl⟩, ⟨rfl, trivial⟩⟩
  ·have h := of_false h hc4
   refine V_skip ?_
   show V _ _ _ _
   refine V_e (mb 10 4) [80000] (s1 := ⟨.bot :: .bot :: I y2.1 :: bt 7 [], [(80000, .pbox (σ 80000) [.sl (y2.2.1.map c5), Ti y2.2.2.1, .v (.int .u64 y2.2.2.2)])]⟩) ?_
   refine V_ret ?_
   obtain rfl := some_inj h
   show PostR _ _ _ _ _ _
   exact ⟨⟨.inr rfl, rfl, rfl, rfl⟩, ⟨rfl, trivial⟩⟩
theorem cf_spec_foDisc : ∀ args w, (callFunc 126 args).run Try.prog w = .ok (.enter 126 args) w := run_callFunc Try.func126 (by kernel_rfl) (by kernel_rfl)
theorem s_spec_foDisc {f1 : (Int × Int × Int)} {r : Int} (h : r_spec_foDisc f1 = some r) : CallS Try.prog 126 [.ag [Ti f1.1, Ti f1.2.1, Ti f1.2.2]] (I r) [] := by
  refine CallS_of_text (rs := [.t 2]) (vs := [.tmp 2]) Try.func126 rfl rfl (.cons rfl FitsL.nil) (by decide) 15 rfl ?_
  unfold r_spec_foDisc at h
  show V _ _ ⟨.ag [Ti f1.1, Ti f1.2.1, Ti f1.2.2] :: bt 14 [], []⟩ _
  refine V_e (mb 15 2) [8] (s1 := ⟨.bot :: .pt 8 0 :: bt 13 [], [(8, .box [Ti f1.1, Ti f1.2.1, Ti f1.2.2])]⟩) ?_
  obtain ⟨t2, ht2, h⟩ := of_sI h
  refine V_sreg (mb 15 4) [] (s1 := ⟨.bot :: .bot :: I t2 :: bt 12 [], []⟩) ?_ ?_
  ·refine XR 13 ?_
   refine XL_nil ?_
   subst ht2
   kernel_rfl
  refine V_ret ?_
  obtain rfl := some_inj h
  show Post _ _ _ _ _
  exact ⟨.inr rfl, rfl, rfl, rfl⟩
theorem cf_spec_l1Most : ∀ args w, (callFunc 185 args).run Try.prog w = .ok (.enter 185 args) w := run_callFunc Try.func185 (by kernel_rfl) (by kernel_rfl)
theorem s_spec_l1Most {a1 : Int} {b2 : Int} {r : Int} (h : r_spec_l1Most a1 b2 = some r) : CallS Try.prog 185 [I a1, I b2] (I r) [] := by
  refine CallS_of_text (rs := [.t 4]) (vs := [.tmp 4]) Try.func185 rfl rfl (.cons rfl FitsL.nil) (by decide) 10 rfl ?_
  unfold r_spec_l1Most at h
  show V _ _ ⟨I a1 :: I b2 :: bt 8 [], []⟩ _
  refine V_e (mb 10 3) [] (s1 := ⟨I a1 :: I b2 :: bt 8 [], []⟩) ?_
  refine V_seq ?_
  refine V_e (mb 10 131) [] (s1 := ⟨I a1 :: I b2 :: bt 5 (Bo (ltI b2 a1) :: .bot :: .bot :: []), []⟩) ?_
  refine V_cond rfl (fun hc3 => ?_) (fun hc3 => ?_)
  ·have h := of_true h hc3
   refine V_e (mb 10 16) [] (s1 := ⟨bt 4 (I a1 :: bt 5 []), []⟩) ?_
   refine V_ret ?_
   obtain rfl := some_inj h
   show Post _ _ _ _ _
   exact ⟨.inr rfl, rfl, rfl, rfl⟩
  ·have h := of_false h hc3
   refine V_skip ?_
   show V _ _ _ _
   refine V_e (mb 10 16) [] (s1 := ⟨bt 4 (I b2 :: bt 5 []), []⟩) ?_
   refine V_ret ?_
   obtain rfl := some_inj h
   show Post _ _ _ _ _
   exact ⟨.inr rfl, rfl, rfl, rfl⟩
theorem cf_spec_l1Abs : ∀ args w, (callFunc 128 args).run Try.prog w = .ok (.enter 128 args) w := run_callFunc Try.func128 (by kernel_rfl) (by kernel_rfl)
theorem s_spec_l1Abs {vn1 : Int} {r : Int} (h : r_spec_l1Abs vn1 = some r) : CallS Try.prog 128 [I vn1] (I r) [] := by
  refine CallS_of_text (rs := [.t 2]) (vs := [.tmp 2]) Try.func128 rfl rfl (.cons rfl FitsL.nil) (by decide) 7 rfl ?_
  unfold r_spec_l1Abs at h
  show V _ _ ⟨I vn1 :: bt 6 [], []⟩ _
  refine V_e (mb 7 1) [] (s1 := ⟨I vn1 :: bt 6 [], []⟩) ?_
  obtain ⟨y2, hy2, h⟩ := of_bind h
  refine V_sreg (mb 7 4) [] (s1 := ⟨.bot :: .bot :: I y2 :: bt 4 [], []⟩) ?_ ?_
  ·refine XR 3 ?_
   refine XC (s_spec_l1Most hy2) cf_spec_l1Most rfl rfl rfl ?_
   exact XE
  refine V_ret ?_
  obtain rfl := some_inj h
  show Post _ _ _ _ _
  exact ⟨.inr rfl, rfl, rfl, rfl⟩
theorem cf_spec_cyIs : ∀ args w, (callFunc 219 args).run Try.prog w = .ok (.enter 219 args) w := run_callFunc Try.func219 (by kernel_rfl) (by kernel_rfl)
theorem s_spec_cyIs {f1 : (Int × Int × Int)} {r : Bool} (h : r_spec_cyIs f1 = some r) : CallS Try.prog 219 [.ag [Ti f1.1, Ti f1.2.1, Ti f1.2.2]] (Bo r) [] := by
  refine CallS_of_text (rs := [.t 2]) (vs := [.tmp 2]) Try.func219 rfl rfl (.cons rfl FitsL.nil) (by decide) 37 rfl ?_
  unfold r_spec_cyIs at h
  show V _ _ ⟨.ag [Ti f1.1, Ti f1.2.1, Ti f1.2.2] :: bt 36 [], []⟩ _
  refine V_e (mb 37 2) [8] (s1 := ⟨.bot :: .pt 8 0 :: bt 35 [], [(8, .box [Ti f1.1, Ti f1.2.1, Ti f1.2.2])]⟩) ?_
  obtain ⟨y2, hy2, h⟩ := of_bind h
  obtain ⟨y3, hy3, h⟩ := of_bind h
  refine V_sreg (mb 37 10) [8] (s1 := ⟨.bot :: .pt 8 0 :: .bot :: I y3 :: bt 33 [], [(8, .box [Ti f1.1, Ti f1.2.1, Ti f1.2.2])]⟩) ?_ ?_
  ·refine XR 1 ?_
   refine XC (s_spec_foDisc hy2) cf_spec_foDisc rfl rfl rfl ?_
   refine XC (s_spec_nuRoot hy3) cf_spec_nuRoot rfl rfl rfl ?_
   exact XE
  obtain ⟨y4, hy4, h⟩ := of_bind h
  obtain ⟨a5, ha5, h⟩ := of_sI h
  refine V_sreg (mb 37 26) [8] (s1 := ⟨.bot :: .pt 8 0 :: .bot :: I y3 :: I a5 :: bt 32 [], [(8, .box [Ti f1.1, Ti f1.2.1, Ti f1.2.2])]⟩) ?_ ?_
  ·refine XR 2 ?_
   refine XC (s_spec_l1Abs hy4) cf_spec_l1Abs rfl rfl rfl ?_
   refine XR 2 ?_
   refine XL_nil ?_
   subst ha5
   kernel_rfl
  obtain ⟨t9, ht9, h⟩ := of_bind h
  have ht9 := some_inj ht9
  refine V_sreg (mb 37 4) [] (s1 := ⟨.bot :: .bot :: Bo t9 :: bt 34 [], []⟩) ?_ ?_
  ·refine XR 4 ?_
   refine XL_split (ltI 0 f1.2.1) (fun hc6 => ?_) (fun hc6 => ?_)
   ·refine XL_takeC _ rfl rfl (by kernel_rfl) hc6 (X_of_Y0 rfl (E_field (.pt 8 1) Try.underlying45 rfl sz3 rfl (by kernel_rfl) (by intro hh; cases hh))) ?_
    refine XL_takeC _ rfl rfl (by kernel_rfl) hc6 (X_of_Y0 rfl (Y0_load1 (c := Ti f1.2.1) (cs := [Ti f1.2.2]) sc3 rfl (by kernel_rfl))) ?_
    refine XL_takeC _ rfl rfl (by kernel_rfl) hc6 (X_of_Y0 rfl (E_move (I y3) rfl (by kernel_rfl))) ?_
    refine XL_takeC _ rfl rfl (by kernel_rfl) hc6 (X_of_Y0 rfl (Y0_lew (k := .i64) (a := f1.2.1) (b := y3) rfl (by kernel_rfl) (by kernel_rfl))) ?_
    refine XL_cons rfl (X_of_Y0 rfl (Y0_pick1 (b := ltI 0 f1.2.1) (p := leI f1.2.1 y3) (q := false) rfl (by kernel_rfl) hc6 (by kernel_rfl))) ?_
    refine XR 1 ?_
    refine XL_split (bif (ltI 0 f1.2.1) then (leI f1.2.1 y3) else false) (fun hc7 => ?_) (fun hc7 => ?_)
    ·refine XL_takeC _ rfl rfl (by kernel_rfl) hc7 (X_of_Y0 rfl (E_move (I y3) rfl (by kernel_rfl))) ?_
     refine XL_takeC _ rfl rfl (by kernel_rfl) hc7 (X_of_Y0 rfl (E_field (.pt 8 1) Try.underlying45 rfl sz3 rfl (by kernel_rfl) (by intro hh; cases hh))) ?_
     refine XL_takeC _ rfl rfl (by kernel_rfl) hc7 (X_of_Y0 rfl (Y0_load1 (c := Ti f1.2.1) (cs := [Ti f1.2.2]) sc3 rfl (by kernel_rfl))) ?_
     refine XL_takeC _ rfl rfl (by kernel_rfl) hc7 (X_of_Y0 rfl (Y0_sub64 (a := y3) (b := f1.2.1) rfl (by kernel_rfl) (by kernel_rfl))) ?_
     refine XL_takeC _ rfl rfl (by kernel_rfl) hc7 (X_of_Y0 rfl (E_move (I a5) rfl (by kernel_rfl))) ?_
     refine XL_takeC _ rfl rfl (by kernel_rfl) hc7 (X_of_Y0 rfl (Y0_ltw (k := .i64) (a := w64 (y3 - f1.2.1)) (b := a5) rfl (by kernel_rfl) (by kernel_rfl))) ?_
     refine XL_cons rfl (X_of_Y0 rfl (Y0_pick1 (b := bif (ltI 0 f1.2.1) then (leI f1.2.1 y3) else false) (p := ltI (w64 (y3 - f1.2.1)) a5) (q := false) rfl (by kernel_rfl) hc7 (by kernel_rfl))) ?_
     refine XR 1 ?_
     refine XL_split (bif (bif (ltI 0 f1.2.1) then (leI f1.2.1 y3) else false) then (ltI (w64 (y3 - f1.2.1)) a5) else false) (fun hc8 => ?_) (fun hc8 => ?_)
     ·refine XL_takeC _ rfl rfl (by kernel_rfl) hc8 (X_of_Y0 rfl (E_move (I a5) rfl (by kernel_rfl))) ?_
      refine XL_takeC _ rfl rfl (by kernel_rfl) hc8 (X_of_Y0 rfl (E_move (I y3) rfl (by kernel_rfl))) ?_
      refine XL_takeC _ rfl rfl (by kernel_rfl) hc8 (X_of_Y0 rfl (E_field (.pt 8 1) Try.underlying45 rfl sz3 rfl (by kernel_rfl) (by intro hh; cases hh))) ?_
      refine XL_takeC _ rfl rfl (by kernel_rfl) hc8 (X_of_Y0 rfl (Y0_load1 (c := Ti f1.2.1) (cs := [Ti f1.2.2]) sc3 rfl (by kernel_rfl))) ?_
      refine XL_takeC _ rfl rfl (by kernel_rfl) hc8 (X_of_Y0 rfl (Y0_add64 (a := y3) (b := f1.2.1) rfl (by kernel_rfl) (by kernel_rfl))) ?_
      refine XL_takeC _ rfl rfl (by kernel_rfl) hc8 (X_of_Y0 rfl (Y0_lew (k := .i64) (a := a5) (b := w64 (y3 + f1.2.1)) rfl (by kernel_rfl) (by kernel_rfl))) ?_
      refine XL_cons rfl (X_of_Y0 rfl (Y0_pick1 (b := bif (bif (ltI 0 f1.2.1) then (leI f1.2.1 y3) else false) then (ltI (w64 (y3 - f1.2.1)) a5) else false) (p := leI a5 (w64 (y3 + f1.2.1))) (q := false) rfl (by kernel_rfl) hc8 (by kernel_rfl))) ?_
      refine XR 1 ?_
      refine XL_nil ?_
      subst ht9
      kernel_rfl
     ·refine XL_skipT _ rfl rfl (by kernel_rfl) hc8 rfl ?_
      refine XL_skipT _ rfl rfl (by kernel_rfl) hc8 rfl ?_
      refine XL_skipT _ rfl rfl (by kernel_rfl) hc8 rfl ?_
      refine XL_skipT _ rfl rfl (by kernel_rfl) hc8 rfl ?_
      refine XL_skipT _ rfl rfl (by kernel_rfl) hc8 rfl ?_
      refine XL_skipT _ rfl rfl (by kernel_rfl) hc8 rfl ?_
      refine XL_cons rfl (X_of_Y0 rfl (Y0_pick0 (b := bif (bif (ltI 0 f1.2.1) then (leI f1.2.1 y3) else false) then (ltI (w64 (y3 - f1.2.1)) a5) else false) (p := leI a5 (w64 (y3 + f1.2.1))) (q := false) rfl (by kernel_rfl) hc8 (by kernel_rfl))) ?_
      refine XR 1 ?_
      refine XL_nil ?_
      subst ht9
      kernel_rfl
    ·refine XL_skipT _ rfl rfl (by kernel_rfl) hc7 rfl ?_
     refine XL_skipT _ rfl rfl (by kernel_rfl) hc7 rfl ?_
     refine XL_skipT _ rfl rfl (by kernel_rfl) hc7 rfl ?_
     refine XL_skipT _ rfl rfl (by kernel_rfl) hc7 rfl ?_
     refine XL_skipT _ rfl rfl (by kernel_rfl) hc7 rfl ?_
     refine XL_skipT _ rfl rfl (by kernel_rfl) hc7 rfl ?_
     refine XL_cons rfl (X_of_Y0 rfl (Y0_pick0 (b := bif (ltI 0 f1.2.1) then (leI f1.2.1 y3) else false) (p := ltI (w64 (y3 - f1.2.1)) a5) (q := false) rfl (by kernel_rfl) hc7 (by kernel_rfl))) ?_
     refine XR 1 ?_
     refine XL_split (bif (bif (ltI 0 f1.2.1) then (leI f1.2.1 y3) else false) then (ltI (w64 (y3 - f1.2.1)) a5) else false) (fun hc8 => ?_) (fun hc8 => ?_)
     ·refine XL_takeC _ rfl rfl (by kernel_rfl) hc8 (X_of_Y0 rfl (E_move (I a5) rfl (by kernel_rfl))) ?_
      refine XL_takeC _ rfl rfl (by kernel_rfl) hc8 (X_of_Y0 rfl (E_move (I y3) rfl (by kernel_rfl))) ?_
      refine XL_takeC _ rfl rfl (by kernel_rfl) hc8 (X_of_Y0 rfl (E_field (.pt 8 1) Try.underlying45 rfl sz3 rfl (by kernel_rfl) (by intro hh; cases hh))) ?_
      refine XL_takeC _ rfl rfl (by kernel_rfl) hc8 (X_of_Y0 rfl (Y0_load1 (c := Ti f1.2.1) (cs := [Ti f1.2.2]) sc3 rfl (by kernel_rfl))) ?_
      refine XL_takeC _ rfl rfl (by kernel_rfl) hc8 (X_of_Y0 rfl (Y0_add64 (a := y3) (b := f1.2.1) rfl (by kernel_rfl) (by kernel_rfl))) ?_
      refine XL_takeC _ rfl rfl (by kernel_rfl) hc8 (X_of_Y0 rfl (Y0_lew (k := .i64) (a := a5) (b := w64 (y3 + f1.2.1)) rfl (by kernel_rfl) (by kernel_rfl))) ?_
      refine XL_cons rfl (X_of_Y0 rfl (Y0_pick1 (b := bif (bif (ltI 0 f1.2.1) then (leI f1.2.1 y3) else false) then (ltI (w64 (y3 - f1.2.1)) a5) else false) (p := leI a5 (w64 (y3 + f1.2.1))) (q := false) rfl (by kernel_rfl) hc8 (by kernel_rfl))) ?_
      refine XR 1 ?_
      refine XL_nil ?_
      subst ht9
      kernel_rfl
     ·refine XL_skipT _ rfl rfl (by kernel_rfl) hc8 rfl ?_
      refine XL_skipT _ rfl rfl (by kernel_rfl) hc8 rfl ?_
      refine XL_skipT _ rfl rfl (by kernel_rfl) hc8 rfl ?_
      refine XL_skipT _ rfl rfl (by kernel_rfl) hc8 rfl ?_
      refine XL_skipT _ rfl rfl (by kernel_rfl) hc8 rfl ?_
      refine XL_skipT _ rfl rfl (by kernel_rfl) hc8 rfl ?_
      refine XL_cons rfl (X_of_Y0 rfl (Y0_pick0 (b := bif (bif (ltI 0 f1.2.1) then (leI f1.2.1 y3) else false) then (ltI (w64 (y3 - f1.2.1)) a5) else false) (p := leI a5 (w64 (y3 + f1.2.1))) (q := false) rfl (by kernel_rfl) hc8 (by kernel_rfl))) ?_
      refine XR 1 ?_
      refine XL_nil ?_
      subst ht9
      kernel_rfl
   ·refine XL_skipT _ rfl rfl (by kernel_rfl) hc6 rfl ?_
    refine XL_skipT _ rfl rfl (by kernel_rfl) hc6 rfl ?_
    refine XL_skipT _ rfl rfl (by kernel_rfl) hc6 rfl ?_
    refine XL_skipT _ rfl rfl (by kernel_rfl) hc6 rfl ?_
    refine XL_cons rfl (X_of_Y0 rfl (Y0_pick0 (b := ltI 0 f1.2.1) (p := leI f1.2.1 y3) (q := false) rfl (by kernel_rfl) hc6 (by kernel_rfl))) ?_
    refine XR 1 ?_
    refine XL_split (bif (ltI 0 f1.2.1) then (leI f1.2.1 y3) else false) (fun hc7 => ?_) (fun hc7 => ?_)
    ·refine XL_takeC _ rfl rfl (by kernel_rfl) hc7 (X_of_Y0 rfl (E_move (I y3) rfl (by kernel_rfl))) ?_
     refine XL_takeC _ rfl rfl (by kernel_rfl) hc7 (X_of_Y0 rfl (E_field (.pt 8 1) Try.underlying45 rfl sz3 rfl (by kernel_rfl) (by intro hh; cases hh))) ?_
     refine XL_takeC _ rfl rfl (by kernel_rfl) hc7 (X_of_Y0 rfl (Y0_load1 (c := Ti f1.2.1) (cs := [Ti f1.2.2]) sc3 rfl (by kernel_rfl))) ?_
     refine XL_takeC _ rfl rfl (by kernel_rfl) hc7 (X_of_Y0 rfl (Y0_sub64 (a := y3) (b := f1.2.1) rfl (by kernel_rfl) (by kernel_rfl))) ?_
     refine XL_takeC _ rfl rfl (by kernel_rfl) hc7 (X_of_Y0 rfl (E_move (I a5) rfl (by kernel_rfl))) ?_
     refine XL_takeC _ rfl rfl (by kernel_rfl) hc7 (X_of_Y0 rfl (Y0_ltw (k := .i64) (a := w64 (y3 - f1.2.1)) (b := a5) rfl (by kernel_rfl) (by kernel_rfl))) ?_
     refine XL_cons rfl (X_of_Y0 rfl (Y0_pick1 (b := bif (ltI 0 f1.2.1) then (leI f1.2.1 y3) else false) (p := ltI (w64 (y3 - f1.2.1)) a5) (q := false) rfl (by kernel_rfl) hc7 (by kernel_rfl))) ?_
     refine XR 1 ?_
     refine XL_split (bif (bif (ltI 0 f1.2.1) then (leI f1.2.1 y3) else false) then (ltI (w64 (y3 - f1.2.1)) a5) else false) (fun hc8 => ?_) (fun hc8 => ?_)
     ·refine XL_takeC _ rfl rfl (by kernel_rfl) hc8 (X_of_Y0 rfl (E_move (I a5) rfl (by kernel_rfl))) ?_
      refine XL_takeC _ rfl rfl (by kernel_rfl) hc8 (X_of_Y0 rfl (E_move (I y3) rfl (by kernel_rfl))) ?_
      refine XL_takeC _ rfl rfl (by kernel_rfl) hc8 (X_of_Y0 rfl (E_field (.pt 8 1) Try.underlying45 rfl sz3 rfl (by kernel_rfl) (by intro hh; cases hh))) ?_
      refine XL_takeC _ rfl rfl (by kernel_rfl) hc8 (X_of_Y0 rfl (Y0_load1 (c := Ti f1.2.1) (cs := [Ti f1.2.2]) sc3 rfl (by kernel_rfl))) ?_
      refine XL_takeC _ rfl rfl (by kernel_rfl) hc8 (X_of_Y0 rfl (Y0_add64 (a := y3) (b := f1.2.1) rfl (by kernel_rfl) (by kernel_rfl))) ?_
      refine XL_takeC _ rfl rfl (by kernel_rfl) hc8 (X_of_Y0 rfl (Y0_lew (k := .i64) (a := a5) (b := w64 (y3 + f1.2.1)) rfl (by kernel_rfl) (by kernel_rfl))) ?_
      refine XL_cons rfl (X_of_Y0 rfl (Y0_pick1 (b := bif (bif (ltI 0 f1.2.1) then (leI f1.2.1 y3) else false) then (ltI (w64 (y3 - f1.2.1)) a5) else false) (p := leI a5 (w64 (y3 + f1.2.1))) (q := false) rfl (by kernel_rfl) hc8 (by kernel_rfl))) ?_
      refine XR 1 ?_
      refine XL_nil ?_
      subst ht9
      kernel_rfl
     ·refine XL_skipT _ rfl rfl (by kernel_rfl) hc8 rfl ?_
      refine XL_skipT _ rfl rfl (by kernel_rfl) hc8 rfl ?_
      refine XL_skipT _ rfl rfl (by kernel_rfl) hc8 rfl ?_
      refine XL_skipT _ rfl rfl (by kernel_rfl) hc8 rfl ?_
      refine XL_skipT _ rfl rfl (by kernel_rfl) hc8 rfl ?_
      refine XL_skipT _ rfl rfl (by kernel_rfl) hc8 rfl ?_
      refine XL_cons rfl (X_of_Y0 rfl (Y0_pick0 (b := bif (bif (ltI 0 f1.2.1) then (leI f1.2.1 y3) else false) then (ltI (w64 (y3 - f1.2.1)) a5) else false) (p := leI a5 (w64 (y3 + f1.2.1))) (q := false) rfl (by kernel_rfl) hc8 (by kernel_rfl))) ?_
      refine XR 1 ?_
      refine XL_nil ?_
      subst ht9
      kernel_rfl
    ·refine XL_skipT _ rfl rfl (by kernel_rfl) hc7 rfl ?_
     refine XL_skipT _ rfl rfl (by kernel_rfl) hc7 rfl ?_
     refine XL_skipT _ rfl rfl (by kernel_rfl) hc7 rfl ?_
     refine XL_skipT _ rfl rfl (by kernel_rfl) hc7 rfl ?_
     refine XL_skipT _ rfl rfl (by kernel_rfl) hc7 rfl ?_
     refine XL_skipT _ rfl rfl (by kernel_rfl) hc7 rfl ?_
     refine XL_cons rfl (X_of_Y0 rfl (Y0_pick0 (b := bif (ltI 0 f1.2.1) then (leI f1.2.1 y3) else false) (p := ltI (w64 (y3 - f1.2.1)) a5) (q := false) rfl (by kernel_rfl) hc7 (by kernel_rfl))) ?_
     refine XR 1 ?_
     refine XL_split (bif (bif (ltI 0 f1.2.1) then (leI f1.2.1 y3) else false) then (ltI (w64 (y3 - f1.2.1)) a5) else false) (fun hc8 => ?_) (fun hc8 => ?_)
     ·refine XL_takeC _ rfl rfl (by kernel_rfl) hc8 (X_of_Y0 rfl (E_move (I a5) rfl (by kernel_rfl))) ?_
      refine XL_takeC _ rfl rfl (by kernel_rfl) hc8 (X_of_Y0 rfl (E_move (I y3) rfl (by kernel_rfl))) ?_
      refine XL_takeC _ rfl rfl (by kernel_rfl) hc8 (X_of_Y0 rfl (E_field (.pt 8 1) Try.underlying45 rfl sz3 rfl (by kernel_rfl) (by intro hh; cases hh))) ?_
      refine XL_takeC _ rfl rfl (by kernel_rfl) hc8 (X_of_Y0 rfl (Y0_load1 (c := Ti f1.2.1) (cs := [Ti f1.2.2]) sc3 rfl (by kernel_rfl))) ?_
      refine XL_takeC _ rfl rfl (by kernel_rfl) hc8 (X_of_Y0 rfl (Y0_add64 (a := y3) (b := f1.2.1) rfl (by kernel_rfl) (by kernel_rfl))) ?_
      refine XL_takeC _ rfl rfl (by kernel_rfl) hc8 (X_of_Y0 rfl (Y0_lew (k := .i64) (a := a5) (b := w64 (y3 + f1.2.1)) rfl (by kernel_rfl) (by kernel_rfl))) ?_
      refine XL_cons rfl (X_of_Y0 rfl (Y0_pick1 (b := bif (bif (ltI 0 f1.2.1) then (leI f1.2.1 y3) else false) then (ltI (w64 (y3 - f1.2.1)) a5) else false) (p := leI a5 (w64 (y3 + f1.2.1))) (q := false) rfl (by kernel_rfl) hc8 (by kernel_rfl))) ?_
      refine XR 1 ?_
      refine XL_nil ?_
      subst ht9
      kernel_rfl
     ·refine XL_skipT _ rfl rfl (by kernel_rfl) hc8 rfl ?_
      refine XL_skipT _ rfl rfl (by kernel_rfl) hc8 rfl ?_
      refine XL_skipT _ rfl rfl (by kernel_rfl) hc8 rfl ?_
      refine XL_skipT _ rfl rfl (by kernel_rfl) hc8 rfl ?_
      refine XL_skipT _ rfl rfl (by kernel_rfl) hc8 rfl ?_
      refine XL_skipT _ rfl rfl (by kernel_rfl) hc8 rfl ?_
      refine XL_cons rfl (X_of_Y0 rfl (Y0_pick0 (b := bif (bif (ltI 0 f1.2.1) then (leI f1.2.1 y3) else false) then (ltI (w64 (y3 - f1.2.1)) a5) else false) (p := leI a5 (w64 (y3 + f1.2.1))) (q := false) rfl (by kernel_rfl) hc8 (by kernel_rfl))) ?_
      refine XR 1 ?_
      refine XL_nil ?_
      subst ht9
      kernel_rfl
  refine V_ret ?_
  obtain rfl := some_inj h
  show Post _ _ _ _ _
  exact ⟨.inr rfl, rfl, rfl, rfl⟩
theorem cf_spec_nuGcd : ∀ args w, (callFunc 61 args).run Try.prog w = .ok (.enter 61 args) w := run_callFunc Try.func61 (by kernel_rfl) (by kernel_rfl)
theorem s_spec_nuGcd {a1 : Int} {b2 : Int} {r : Int} (h : r_spec_nuGcd a1 b2 = some r) : CallS Try.prog 61 [I a1, I b2] (I r) [] := by
  refine CallS_of_text (rs := [.t 4]) (vs := [.tmp 4]) Try.func61 rfl rfl (.cons rfl FitsL.nil) (by decide) 16 rfl ?_
  unfold r_spec_nuGcd at h
  show V _ _ ⟨I a1 :: I b2 :: bt 14 [], []⟩ _
  refine V_e (mb 16 3) [] (s1 := ⟨I a1 :: I b2 :: bt 14 [], []⟩) ?_
  obtain ⟨y3, hy3, h⟩ := of_bind h
  obtain ⟨y4, hy4, h⟩ := of_bind h
  refine V_sreg (mb 16 3) [] (s1 := ⟨I y3 :: I y4 :: bt 14 [], []⟩) ?_ ?_
  ·refine XR 1 ?_
   refine XC (s_spec_l1Abs hy3) cf_spec_l1Abs rfl rfl rfl ?_
   refine XR 1 ?_
   refine XC (s_spec_l1Abs hy4) cf_spec_l1Abs rfl rfl rfl ?_
   exact XE
  refine V_seq ?_
  obtain ⟨o8, hLo8, h⟩ := of_bind h
  refine V_toK (mb 16 1) [] (s1 := ⟨I o8 :: bt 15 [], []⟩) ?_ ?_
  ·clear h
   refine V_block (V_loop (fun n s => ∃ (a5 : Int) (b6 : Int), s.keep (mb 16 3) [] = (⟨I a5 :: I b6 :: bt 14 [], []⟩ : St) ∧ r_spec_nuGcd_L7 n a5 b6 = some o8) FU ⟨_, _,  by rfl, hLo8⟩ ?_)
   clear hLo8
   rintro n s ⟨a5, b6, hs, h⟩
   refine V_keep _ _ hs ?_
   clear hs
   cases n with
   | zero => cases h
   | succ n =>
    rw [r_spec_nuGcd_L7] at h
    refine V_seq ?_
    refine V_e (mb 16 1027) [] (s1 := ⟨I a5 :: I b6 :: bt 8 (Bo (!eqI b6 0) :: bt 5 []), []⟩) ?_
    refine V_cond rfl (fun hc9 => ?_) (fun hc9 => ?_)
    ·have h := of_true h hc9
     refine V_skip ?_
     show V _ _ _ _
     refine V_block ?_
     obtain ⟨z10, hz10, h⟩ := of_bind h
     obtain ⟨b11, hb11, h⟩ := of_sI h
     refine V_dreg [0, 0, 0, 6, 3, 31] 6 (cdm 6 [168, 34, 522, 534, 165, 341]) (mb 16 3) [] (s1 := ⟨I b6 :: I b11 :: bt 14 [], []⟩) (by kernel_rfl) (by kernel_rfl) ?_ ?_
     ·refine DR 3 ?_
      refine DE_0 3 (I (Int.tmod a5 b6)) (by kernel_rfl) rfl rfl rfl (gsat_none rfl) (by kernel_rfl) (Y0_rem (k := .i64) (a := a5) (b := b6) rfl (by kernel_rfl) (by kernel_rfl) (nz_some hz10)) 14 rfl ?_
      refine DA 2 ?_
      refine XL_nil ?_
      subst hb11
      kernel_rfl
     exact ⟨n, Nat.lt_succ_self n, _, _,  by rfl, h⟩
    ·have h := of_false h hc9
     refine V_exit ?_
     obtain rfl := some_inj h
     show St.keep _ _ _ = _
     rfl
  show V _ _ _ _
  refine V_e (mb 16 16) [] (s1 := ⟨bt 4 (I o8 :: bt 11 []), []⟩) ?_
  refine V_ret ?_
  obtain rfl := some_inj h
  show Post _ _ _ _ _
  exact ⟨.inr rfl, rfl, rfl, rfl⟩
theorem cf_spec_foContent : ∀ args w, (callFunc 164 args).run Try.prog w = .ok (.enter 164 args) w := run_callFunc Try.func164 (by kernel_rfl) (by kernel_rfl)
theorem s_spec_foContent {f1 : (Int × Int × Int)} {r : Int} (h : r_spec_foContent f1 = some r) : CallS Try.prog 164 [.ag [Ti f1.1, Ti f1.2.1, Ti f1.2.2]] (I r) [] := by
  refine CallS_of_text (rs := [.t 2]) (vs := [.tmp 2]) Try.func164 rfl rfl (.cons rfl FitsL.nil) (by decide) 11 rfl ?_
  unfold r_spec_foContent at h
  show V _ _ ⟨.ag [Ti f1.1, Ti f1.2.1, Ti f1.2.2] :: bt 10 [], []⟩ _
  refine V_e (mb 11 2) [8] (s1 := ⟨.bot :: .pt 8 0 :: bt 9 [], [(8, .box [Ti f1.1, Ti f1.2.1, Ti f1.2.2])]⟩) ?_
  obtain ⟨y2, hy2, h⟩ := of_bind h
  obtain ⟨y3, hy3, h⟩ := of_bind h
  refine V_sdreg [0, 1, 0, 4, 15, 0, 32, 127, 255] 9 (cdm 9 [10400, 10401, 10250, 10266, 10325, 682, 1706, 5461, 21845]) (mb 11 4) [] (s1 := ⟨.bot :: .bot :: I y3 :: bt 8 [], []⟩) (by kernel_rfl) (by kernel_rfl) ?_ ?_
  ·refine DR 4 ?_
   refine DC 4 (s_spec_nuGcd hy2) cf_spec_nuGcd rfl rfl rfl rfl 7 rfl ?_
   refine DR 2 ?_
   refine DC 7 (s_spec_nuGcd hy3) cf_spec_nuGcd rfl rfl rfl rfl 10 rfl ?_
   refine DA 1 ?_
   exact XE
  refine V_ret ?_
  obtain rfl := some_inj h
  show Post _ _ _ _ _
  exact ⟨.inr rfl, rfl, rfl, rfl⟩
theorem cf_spec_cyAll : ∀ args w, (callFunc 215 args).run Try.prog w = .ok (.enter 215 args) w := run_callFunc Try.func215 (by kernel_rfl) (by kernel_rfl)
theorem s_spec_cyAll {d1 : Int} {r : List ((Int × Int × Int))} (h : r_spec_cyAll d1 = some r) : CallS Try.prog 215 [I d1] (.ow 0) [(0, .arr 45 3 (r.map c45))] := by
  refine CallS_of_text (rs := [.t 2]) (vs := [.tmp 2]) Try.func215 rfl rfl (.cons rfl FitsL.nil) (by decide) 58 rfl ?_
  unfold r_spec_cyAll at h
  show V _ _ ⟨I d1 :: bt 57 [], []⟩ _
  refine V_sreg (mb 58 1) [] (s1 := ⟨I d1 :: bt 57 [], []⟩) ?_ ?_
  ·refine L1 rfl rfl (Y1_nil (e := 45) 3 (by decide) (.inl rfl)) ?_
   exact XE
  obtain ⟨y2, hy2, h⟩ := of_bind h
  refine V_sreg (mb 58 9) [] (s1 := ⟨I d1 :: .bot :: .bot :: I y2 :: bt 54 [], []⟩) ?_ ?_
  ·refine XR 1 ?_
   refine XC (s_spec_nuRoot hy2) cf_spec_nuRoot rfl rfl rfl ?_
   exact XE
  refine V_sreg (mb 58 25) [32] (s1 := ⟨I d1 :: .bot :: .bot :: I y2 :: .ow 32 :: bt 53 [], [(32, .arr 45 3 ((([] : List ((Int × Int × Int)))).map c45))]⟩) ?_ ?_
  ·refine L1 rfl rfl (Y1_nil (e := 45) 3 (by decide) (.inl rfl)) ?_
   exact XE
  refine V_seq ?_
  obtain ⟨a3, ha3, h⟩ := of_sI h
  refine V_sreg (mb 58 57) [32] (s1 := ⟨I d1 :: .bot :: .bot :: I y2 :: .ow 32 :: I a3 :: bt 52 [], [(32, .arr 45 3 ((([] : List ((Int × Int × Int)))).map c45))]⟩) ?_ ?_
  ·refine XR 3 ?_
   refine XL_nil ?_
   subst ha3
   kernel_rfl
  obtain ⟨o7, hLo7, h⟩ := of_bind h
  refine V_toK (mb 58 16) [32] (s1 := ⟨bt 4 (.ow 32 :: bt 53 []), [(32, .arr 45 3 (o7.map c45))]⟩) ?_ ?_
  ·clear h
   refine V_block (V_loop (fun n s => ∃ (a4 : Int) (l5 : List ((Int × Int × Int))), s.keep (mb 58 57) [32] = (⟨I d1 :: .bot :: .bot :: I y2 :: .ow 32 :: I a4 :: bt 52 [], [(32, .arr 45 3 (l5.map c45))]⟩ : St) ∧ r_spec_cyAll_L6 d1 y2 n a4 l5 = some o7) FU ⟨_, _,  by rfl, hLo7⟩ ?_)
   clear hLo7
   rintro n s ⟨a4, l5, hs, h⟩
   refine V_keep _ _ hs ?_
   clear hs
   cases n with
   | zero => cases h
   | succ n =>
    rw [r_spec_cyAll_L6] at h
    refine V_seq ?_
    refine V_e (mb 58 16441) [32] (s1 := ⟨I d1 :: .bot :: .bot :: I y2 :: .ow 32 :: I a4 :: bt 8 (Bo (leI a4 y2) :: bt 43 []), [(32, .arr 45 3 (l5.map c45))]⟩) ?_
    refine V_cond rfl (fun hc8 => ?_) (fun hc8 => ?_)
    ·have h := of_true h hc8
     refine V_skip ?_
     show V _ _ _ _
     refine V_seq ?_
     refine V_block ?_
     refine V_e (mb 58 121) [32] (s1 := ⟨I d1 :: .bot :: .bot :: I y2 :: .ow 32 :: I a4 :: I 1 :: bt 51 [], [(32, .arr 45 3 (l5.map c45))]⟩) ?_
     obtain ⟨o12, hLo12, h⟩ := of_bind h
     refine V_toK (mb 58 57) [32] (s1 := ⟨I d1 :: .bot :: .bot :: I y2 :: .ow 32 :: I a4 :: bt 52 [], [(32, .arr 45 3 (o12.map c45))]⟩) ?_ ?_
     ·clear h
      refine V_block (V_loop (fun n s => ∃ (b9 : Int) (l10 : List ((Int × Int × Int))), s.keep (mb 58 121) [32] = (⟨I d1 :: .bot :: .bot :: I y2 :: .ow 32 :: I a4 :: I b9 :: bt 51 [], [(32, .arr 45 3 (l10.map c45))]⟩ : St) ∧ r_spec_cyAll_L11 a4 d1 y2 n b9 l10 = some o12) FU ⟨_, _,  by rfl, hLo12⟩ ?_)
      clear hLo12
      rintro n s ⟨b9, l10, hs, h⟩
      refine V_keep _ _ hs ?_
      clear hs
      cases n with
      | zero => cases h
      | succ n =>
       rw [r_spec_cyAll_L11] at h
       refine V_seq ?_
       refine V_e (mb 58 524409) [32] (s1 := ⟨I d1 :: .bot :: .bot :: I y2 :: .ow 32 :: I a4 :: I b9 :: bt 12 (Bo (leI b9 y2) :: bt 38 []), [(32, .arr 45 3 (l10.map c45))]⟩) ?_
       refine V_cond rfl (fun hc13 => ?_) (fun hc13 => ?_)
       ·have h := of_true h hc13
        refine V_skip ?_
        show V _ _ _ _
        refine V_seq ?_
        refine V_block ?_
        refine V_seq ?_
        obtain ⟨b16, hb16, h⟩ := of_bind h
        refine V_sreg (mb 58 17179869305) [32] (s1 := ⟨I d1 :: .bot :: .bot :: I y2 :: .ow 32 :: I a4 :: I b9 :: bt 27 (Bo b16 :: bt 23 []), [(32, .arr 45 3 (l10.map c45))]⟩) ?_ ?_
        ·refine XR 3 ?_
         refine XL_split (eqI a4 0) (fun hc14 => ?_) (fun hc14 => ?_)
         ·have hb16 := some_inj (of_true hb16 hc14)
          refine XL_skipF _ rfl rfl (by kernel_rfl) hc14 rfl ?_
          refine XL_skipF _ rfl rfl (by kernel_rfl) hc14 rfl ?_
          refine XL_skipF _ rfl rfl (by kernel_rfl) hc14 rfl ?_
          refine XL_skipF _ rfl rfl (by kernel_rfl) hc14 rfl ?_
          refine XL_skipF _ rfl rfl (by kernel_rfl) hc14 rfl ?_
          refine XL_skipF _ rfl rfl (by kernel_rfl) hc14 rfl ?_
          refine XL_skipF _ rfl rfl (by kernel_rfl) hc14 rfl ?_
          refine XL_skipF _ rfl rfl (by kernel_rfl) hc14 rfl ?_
          refine XL_skipF _ rfl rfl (by kernel_rfl) hc14 rfl ?_
          refine XL_cons rfl (X_of_Y0 rfl (Y0_pickTe (b := eqI a4 0) (p := true) rfl (by kernel_rfl) hc14 (by kernel_rfl) hb16)) ?_
          exact XE
         ·have hb16 := of_false hb16 hc14
          obtain ⟨z15, hz15, hb16⟩ := of_bind hb16
          have hb16 := some_inj hb16
          refine XL_takeC _ rfl rfl (by kernel_rfl) hc14 (X_of_Y0 rfl (E_move (I b9) rfl (by kernel_rfl))) ?_
          refine XL_takeC _ rfl rfl (by kernel_rfl) hc14 (X_of_Y0 rfl (E_move (I b9) rfl (by kernel_rfl))) ?_
          refine XL_takeC _ rfl rfl (by kernel_rfl) hc14 (X_of_Y0 rfl (Y0_mul64 (a := b9) (b := b9) rfl (by kernel_rfl) (by kernel_rfl))) ?_
          refine XL_takeC _ rfl rfl (by kernel_rfl) hc14 (X_of_Y0 rfl (E_move (I d1) rfl (by kernel_rfl))) ?_
          refine XL_takeC _ rfl rfl (by kernel_rfl) hc14 (X_of_Y0 rfl (Y0_sub64 (a := w64 (b9 * b9)) (b := d1) rfl (by kernel_rfl) (by kernel_rfl))) ?_
          refine XL_takeC _ rfl rfl (by kernel_rfl) hc14 (X_of_Y0 rfl (E_move (I a4) rfl (by kernel_rfl))) ?_
          refine XL_takeC _ rfl rfl (by kernel_rfl) hc14 (X_of_Y0 rfl (Y0_mul64 (a := 4) (b := a4) rfl (by kernel_rfl) (by kernel_rfl))) ?_
          refine XL_takeC _ rfl rfl (by kernel_rfl) hc14 (X_of_Y0 rfl (Y0_rem (k := .i64) (a := w64 ((w64 (b9 * b9)) - d1)) (b := w64 (4 * a4)) rfl (by kernel_rfl) (by kernel_rfl) (nz_some hz15))) ?_
          refine XL_takeC _ rfl rfl (by kernel_rfl) hc14 (X_of_Y0 rfl (Y0_new (k := .i64) (a := Int.tmod (w64 ((w64 (b9 * b9)) - d1)) (w64 (4 * a4))) (b := 0) rfl (by kernel_rfl) (by kernel_rfl))) ?_
          refine XL_cons rfl (X_of_Y0 rfl (Y0_pickFe (b := eqI a4 0) (p := !eqI (Int.tmod (w64 ((w64 (b9 * b9)) - d1)) (w64 (4 * a4))) 0) rfl (by kernel_rfl) hc14 (by kernel_rfl) hb16)) ?_
          exact XE
        refine V_cond rfl (fun hc17 => ?_) (fun hc17 => ?_)
        ·have h := of_true h hc17
         refine V_exit ?_
         show V _ _ _ _
         obtain ⟨b18, hb18, h⟩ := of_sI h
         refine V_reg (mb 58 121) [32] (s1 := ⟨I d1 :: .bot :: .bot :: I y2 :: .ow 32 :: I a4 :: I b18 :: bt 51 [], [(32, .arr 45 3 (l10.map c45))]⟩) ?_ ?_
         ·refine XR 3 ?_
          refine XL_nil ?_
          subst hb18
          kernel_rfl
         exact ⟨n, Nat.lt_succ_self n, _, _,  by rfl, h⟩
        ·have h := of_false h hc17
         refine V_skip ?_
         show V _ _ _ _
         obtain ⟨z19, hz19, h⟩ := of_bind h
         obtain ⟨f20, hf20, h⟩ := of_sI h
         refine V_sreg (mb 58 249) [56, 32] (s1 := ⟨I d1 :: .bot :: .bot :: I y2 :: .ow 32 :: I a4 :: I b9 :: .pt 56 0 :: bt 50 [], [(56, .box [Ti a4, Ti b9, Ti f20]), (32, .arr 45 3 (l10.map c45))]⟩) ?_ ?_
         ·refine XR 9 ?_
          refine L0 rfl rfl (Y0_quo64 (a := w64 ((w64 (b9 * b9)) - d1)) (b := w64 (4 * a4)) rfl (by kernel_rfl) (by kernel_rfl) (nz_some hz19)) ?_
          refine L0 rfl rfl (Y0_build (cs := [Ti a4, Ti b9, Ti (w64 (Int.tdiv (w64 ((w64 (b9 * b9)) - d1)) (w64 (4 * a4))))]) pl45 bt45 rfl rfl (by kernel_rfl)) ?_
          refine XR 2 ?_
          refine XL_nil ?_
          subst hf20
          kernel_rfl
         obtain ⟨y21, hy21, h⟩ := of_bind h
         obtain ⟨b24, hb24, h⟩ := of_bind h
         refine V_sreg (mb 58 4503599627370745) [56, 32] (s1 := ⟨I d1 :: .bot :: .bot :: I y2 :: .ow 32 :: I a4 :: I b9 :: .pt 56 0 :: bt 44 (Bo b24 :: bt 5 []), [(56, .box [Ti a4, Ti b9, Ti f20]), (32, .arr 45 3 (l10.map c45))]⟩) ?_ ?_
         ·refine XR 1 ?_
          refine XC (s_spec_cyIs hy21) cf_spec_cyIs rfl rfl rfl ?_
          refine XR 1 ?_
          refine XL_split y21 (fun hc22 => ?_) (fun hc22 => ?_)
          ·have hb24 := of_true hb24 hc22
           obtain ⟨y23, hy23, hb24⟩ := of_bind hb24
           have hb24 := some_inj hb24
           refine XL_takeC _ rfl rfl (by kernel_rfl) hc22 (X_of_Y0 rfl (E_loadn (cs := [Ti a4, Ti b9, Ti f20]) [Ti a4, Ti b9, Ti f20] wd45 rfl (by kernel_rfl) (Nat.le_of_ble_eq_true rfl) (by kernel_rfl))) ?_
           refine XL_takeC _ rfl rfl (by kernel_rfl) hc22 (X_of_Y1 rfl (Y1_call (s_spec_foContent hy23) cf_spec_foContent rfl (by kernel_rfl))) ?_
           refine XL_takeC _ rfl rfl (by kernel_rfl) hc22 (X_of_Y0 rfl (Y0_eqw (k := .i64) (a := y23) (b := 1) rfl (by kernel_rfl) (by kernel_rfl))) ?_
           refine XL_cons rfl (X_of_Y0 rfl (Y0_pickTe (b := y21) (p := eqI y23 1) rfl (by kernel_rfl) hc22 (by kernel_rfl) hb24)) ?_
           exact XE
          ·have hb24 := some_inj (of_false hb24 hc22)
           refine XL_skipT _ rfl rfl (by kernel_rfl) hc22 rfl ?_
           refine XL_skipT _ rfl rfl (by kernel_rfl) hc22 rfl ?_
           refine XL_skipT _ rfl rfl (by kernel_rfl) hc22 rfl ?_
           refine XL_cons rfl (X_of_Y0 rfl (Y0_pickFe (b := y21) (p := false) rfl (by kernel_rfl) hc22 (by kernel_rfl) hb24)) ?_
           exact XE
         refine V_cond rfl (fun hc25 => ?_) (fun hc25 => ?_)
         ·have h := of_true h hc25
          obtain ⟨u26, hu26, h⟩ := of_bind h
          refine V_reg (mb 58 121) [32] (s1 := ⟨I d1 :: .bot :: .bot :: I y2 :: .ow 32 :: I a4 :: I b9 :: bt 51 [], [(32, .arr 45 3 ((l10 ++ ([(a4, b9, f20)])).map c45))]⟩) ?_ ?_
          ·refine XR 2 ?_
           refine L1 rfl rfl (Y1_bslice (z := zv45) (els := [(a4, b9, f20)].map c45) Try.underlying62 iz45 rfl (by decide) rfl (by kernel_rfl) rfl (by simp [c45]) (by decide) (by decide)) ?_
           refine XL_cons rfl (X_appendM (c := c45) (xs := l10) (ys := [(a4, b9, f20)]) (id := 32) (z := zv45) rfl rfl Try.underlying62 izb45 rfl (by kernel_rfl) (by kernel_rfl) (by kernel_rfl) (fun _ => rfl) (by simp) (room_some hu26) (by decide)) ?_
           exact XE
          show V _ _ _ _
          obtain ⟨b27, hb27, h⟩ := of_sI h
          refine V_reg (mb 58 121) [32] (s1 := ⟨I d1 :: .bot :: .bot :: I y2 :: .ow 32 :: I a4 :: I b27 :: bt 51 [], [(32, .arr 45 3 ((l10 ++ ([(a4, b9, f20)])).map c45))]⟩) ?_ ?_
          ·refine XR 3 ?_
           refine XL_nil ?_
           subst hb27
           kernel_rfl
          exact ⟨n, Nat.lt_succ_self n, _, _,  by rfl, h⟩
         ·have h := of_false h hc25
          refine V_skip ?_
          show V _ _ _ _
          obtain ⟨b28, hb28, h⟩ := of_sI h
          refine V_reg (mb 58 121) [32] (s1 := ⟨I d1 :: .bot :: .bot :: I y2 :: .ow 32 :: I a4 :: I b28 :: bt 51 [], [(32, .arr 45 3 (l10.map c45))]⟩) ?_ ?_
          ·refine XR 3 ?_
           refine XL_nil ?_
           subst hb28
           kernel_rfl
          exact ⟨n, Nat.lt_succ_self n, _, _,  by rfl, h⟩
       ·have h := of_false h hc13
        refine V_exit ?_
        obtain rfl := some_inj h
        show St.keep _ _ _ = _
        rfl
     show V _ _ _ _
     obtain ⟨a29, ha29, h⟩ := of_sI h
     refine V_reg (mb 58 57) [32] (s1 := ⟨I d1 :: .bot :: .bot :: I y2 :: .ow 32 :: I a29 :: bt 52 [], [(32, .arr 45 3 (o12.map c45))]⟩) ?_ ?_
     ·refine XR 3 ?_
      refine XL_nil ?_
      subst ha29
      kernel_rfl
     exact ⟨n, Nat.lt_succ_self n, _, _,  by rfl, h⟩
    ·have h := of_false h hc8
     refine V_exit ?_
     obtain rfl := some_inj h
     show St.keep _ _ _ = _
     rfl
  show V _ _ _ _
  refine V_e (mb 58 4) [32] (s1 := ⟨.bot :: .bot :: .ow 32 :: bt 55 [], [(32, .arr 45 3 (o7.map c45))]⟩) ?_
  refine V_ret ?_
  obtain rfl := some_inj h
  show Post _ _ _ _ _
  exact ⟨.inr rfl, rfl, rfl, rfl⟩
theorem cf_spec_l1Cur_cyclic : ∀ args w, (callFunc 173 args).run Try.prog w = .ok (.enter 173 args) w := run_callFunc Try.func173 (by kernel_rfl) (by kernel_rfl)
theorem s_spec_l1Cur_cyclic {c1 : ((List Int) × Int × Int)} {d2 : Int} {r : (((Int × Int × Int)) × (((List Int) × Int × Int)))} (h : r_spec_l1Cur_cyclic c1 d2 = some r) : CallR Try.prog 173 [.pt 80000 0, I d2] [(80000, .box [.sl (c1.1.map c5), Ti c1.2.1, .v (.int .u64 c1.2.2)])] (.ag [Ti r.1.1, Ti r.1.2.1, Ti r.1.2.2]) [] [(80000, .box [.sl (r.2.1.map c5), Ti r.2.2.1, .v (.int .u64 r.2.2.2)])] := by
  refine CallR_of_text (rs := [.w 4 3]) (vs := [.cell 4 45]) Try.func173 rfl rfl (.cons ⟨rfl, wd45⟩ FitsL.nil) (by decide) 15 rfl rfl fun σ => ?_
  unfold r_spec_l1Cur_cyclic at h
  show V _ _ ⟨.pt 80000 0 :: I d2 :: bt 13 [], [(80000, .pbox (σ 80000) [.sl (c1.1.map c5), Ti c1.2.1, .v (.int .u64 c1.2.2)])]⟩ _
  refine V_e (mb 15 19) [32, 80000] (s1 := ⟨.pt 80000 0 :: I d2 :: .bot :: .bot :: .pt 32 0 :: bt 10 [], [(32, .box [Ti 0, Ti 0, Ti 0]), (80000, .pbox (σ 80000) [.sl (c1.1.map c5), Ti c1.2.1, .v (.int .u64 c1.2.2)])]⟩) ?_
  obtain ⟨y3, hy3, h⟩ := of_bind h
  refine V_sreg (mb 15 49) [56, 32, 80000] (s1 := ⟨.pt 80000 0 :: bt 3 (.pt 32 0 :: .ow 56 :: bt 9 []), [(56, .arr 45 3 (y3.map c45)), (32, .box [Ti 0, Ti 0, Ti 0]), (80000, .pbox (σ 80000) [.sl (c1.1.map c5), Ti c1.2.1, .v (.int .u64 c1.2.2)])]⟩) ?_ ?_
  ·refine XR 1 ?_
   refine XC (s_spec_cyAll hy3) cf_spec_cyAll rfl rfl rfl ?_
   exact XE
  obtain ⟨y4, hy4, h⟩ := of_bind h
  obtain ⟨e5, he5, h⟩ := of_bind h
  obtain ⟨e6, he6, h⟩ := of_bind h
  refine V_sreg (mb 15 16) [32, 80000] (s1 := ⟨bt 4 (.pt 32 0 :: bt 10 []), [(32, .box [Ti e6.1, Ti e6.2.1, Ti e6.2.2]), (80000, .pbox (σ 80000) [.sl (y4.2.1.map c5), Ti y4.2.2.1, .v (.int .u64 y4.2.2.2)])]⟩) ?_ ?_
  ·refine XR 3 ?_
   refine L0 rfl rfl (Y0_lenM (c := c45) (xs := y3) Try.underlying62 rfl (by kernel_rfl)) ?_
   refine XL_cons rfl (X_callR (E' := [(56, .arr 45 3 (y3.map c45)), (32, .box [Ti 0, Ti 0, Ti 0]), (80000, .pbox (σ 80000) [.sl (y4.2.1.map c5), Ti y4.2.2.1, .v (.int .u64 y4.2.2.2)])]) [(80000, 80000)] 12 (s_spec_l1Cur_pick hy4) cf_spec_l1Cur_pick rfl rfl (by kernel_rfl) rfl (mE_cons (by kernel_rfl) mE_nil) rfl (by kernel_rfl) rfl rfl (by kernel_rfl)) ?_
   refine L0 rfl rfl (Y0_idxoM (c := c45) (xs := y3) (v := e5) (id := 56) (T := 45) (sz := 3) (n := y4.1) Try.underlying62 sz45 rfl (by kernel_rfl) (by kernel_rfl) (by kernel_rfl) he5) ?_
   refine L0 rfl rfl (E_loadon (c := c45) (xs := y3) (v := e6) (id := 56) (sz := 3) (T := 45) (off := 0) (n := y4.1) [Ti e6.1, Ti e6.2.1, Ti e6.2.2] wd45 rfl (by kernel_rfl) (by kernel_rfl) he6 (Nat.le_of_ble_eq_true rfl) (by kernel_rfl)) ?_
   exact XE
  refine V_ret ?_
  obtain rfl := some_inj h
  show PostR _ _ _ _ _ _
  exact ⟨⟨.inr rfl, rfl, rfl, rfl⟩, ⟨rfl, trivial⟩⟩
theorem cf_spec_foMul : ∀ args w, (callFunc 191 args).run Try.prog w = .ok (.enter 191 args) w := run_callFunc Try.func191 (by kernel_rfl) (by kernel_rfl)
theorem s_spec_foMul {vm1 : (Int × Int × Int × Int)} {vn2 : (Int × Int × Int × Int)} {r : (Int × Int × Int × Int)} (h : r_spec_foMul vm1 vn2 = some r) : CallS Try.prog 191 [.ag [Ti vm1.1, Ti vm1.2.1, Ti vm1.2.2.1, Ti vm1.2.2.2], .ag [Ti vn2.1, Ti vn2.2.1, Ti vn2.2.2.1, Ti vn2.2.2.2]] (.ag [Ti r.1, Ti r.2.1, Ti r.2.2.1, Ti r.2.2.2]) [] := by
  refine CallS_of_text (rs := [.w 4 4]) (vs := [.cell 4 110]) Try.func191 rfl rfl (.cons ⟨rfl, wd110⟩ FitsL.nil) (by decide) 50 rfl ?_
  unfold r_spec_foMul at h
  show V _ _ ⟨.ag [Ti vm1.1, Ti vm1.2.1, Ti vm1.2.2.1, Ti vm1.2.2.2] :: .ag [Ti vn2.1, Ti vn2.2.1, Ti vn2.2.2.1, Ti vn2.2.2.2] :: bt 48 [], []⟩ _
  refine V_e (mb 50 28) [32, 24, 16] (s1 := ⟨.bot :: .bot :: .pt 16 0 :: .pt 24 0 :: .pt 32 0 :: bt 45 [], [(32, .box [Ti 0, Ti 0, Ti 0, Ti 0]), (24, .box [Ti vn2.1, Ti vn2.2.1, Ti vn2.2.2.1, Ti vn2.2.2.2]), (16, .box [Ti vm1.1, Ti vm1.2.1, Ti vm1.2.2.1, Ti vm1.2.2.2])]⟩) ?_
  obtain ⟨f3, hf3, h⟩ := of_sI h
  obtain ⟨f4, hf4, h⟩ := of_sI h
  obtain ⟨f5, hf5, h⟩ := of_sI h
  obtain ⟨f6, hf6, h⟩ := of_sI h
  refine V_sreg (mb 50 16) [32] (s1 := ⟨bt 4 (.pt 32 0 :: bt 45 []), [(32, .box [Ti f3, Ti f4, Ti f5, Ti f6])]⟩) ?_ ?_
  ·refine XR 44 ?_
   refine L0 rfl rfl (Y0_build (cs := [Ti (w64 ((w64 (vm1.1 * vn2.1)) + (w64 (vm1.2.1 * vn2.2.2.1)))), Ti (w64 ((w64 (vm1.1 * vn2.2.1)) + (w64 (vm1.2.1 * vn2.2.2.2)))), Ti (w64 ((w64 (vm1.2.2.1 * vn2.1)) + (w64 (vm1.2.2.2 * vn2.2.2.1)))), Ti (w64 ((w64 (vm1.2.2.1 * vn2.2.1)) + (w64 (vm1.2.2.2 * vn2.2.2.2))))]) pl110 bt110 rfl rfl (by kernel_rfl)) ?_
   refine XR 1 ?_
   refine XL_nil ?_
   subst hf3 hf4 hf5 hf6
   kernel_rfl
  refine V_ret ?_
  obtain rfl := some_inj h
  show Post _ _ _ _ _
  exact ⟨.inr rfl, rfl, rfl, rfl⟩
theorem cf_spec_l1Cur_proper : ∀ args w, (callFunc 198 args).run Try.prog w = .ok (.enter 198 args) w := run_callFunc Try.func198 (by kernel_rfl) (by kernel_rfl)
theorem s_spec_l1Cur_proper {c1 : ((List Int) × Int × Int)} {r : (((Int × Int × Int × Int)) × (((List Int) × Int × Int)))} (h : r_spec_l1Cur_proper c1 = some r) : CallR Try.prog 198 [.pt 80000 0] [(80000, .box [.sl (c1.1.map c5), Ti c1.2.1, .v (.int .u64 c1.2.2)])] (.ag [Ti r.1.1, Ti r.1.2.1, Ti r.1.2.2.1, Ti r.1.2.2.2]) [] [(80000, .box [.sl (r.2.1.map c5), Ti r.2.2.1, .v (.int .u64 r.2.2.2)])] := by
  refine CallR_of_text (rs := [.w 2 4]) (vs := [.cell 2 110]) Try.func198 rfl rfl (.cons ⟨rfl, wd110⟩ FitsL.nil) (by decide) 34 rfl rfl fun σ => ?_
  unfold r_spec_l1Cur_proper at h
  show V _ _ ⟨.pt 80000 0 :: bt 33 [], [(80000, .pbox (σ 80000) [.sl (c1.1.map c5), Ti c1.2.1, .v (.int .u64 c1.2.2)])]⟩ _
  refine V_e (mb 34 5) [16, 80000] (s1 := ⟨.pt 80000 0 :: .bot :: .pt 16 0 :: bt 31 [], [(16, .box [Ti 0, Ti 0, Ti 0, Ti 0]), (80000, .pbox (σ 80000) [.sl (c1.1.map c5), Ti c1.2.1, .v (.int .u64 c1.2.2)])]⟩) ?_
  refine V_sreg (mb 34 13) [24, 16, 80000] (s1 := ⟨.pt 80000 0 :: .bot :: .pt 16 0 :: .pt 24 0 :: bt 30 [], [(24, .box [Ti 1, Ti 0, Ti 0, Ti 1]), (16, .box [Ti 0, Ti 0, Ti 0, Ti 0]), (80000, .pbox (σ 80000) [.sl (c1.1.map c5), Ti c1.2.1, .v (.int .u64 c1.2.2)])]⟩) ?_ ?_
  ·refine L0 rfl rfl (Y0_build (cs := [Ti 1, Ti 0, Ti 0, Ti 1]) pl110 bt110 rfl rfl (by kernel_rfl)) ?_
   exact XE
  refine V_seq ?_
  obtain ⟨y2, hy2, h⟩ := of_bind h
  refine V_sreg (mb 34 29) [24, 16, 80000] (s1 := ⟨.pt 80000 0 :: .bot :: .pt 16 0 :: .pt 24 0 :: I y2.1 :: bt 29 [], [(24, .box [Ti 1, Ti 0, Ti 0, Ti 1]), (16, .box [Ti 0, Ti 0, Ti 0, Ti 0]), (80000, .pbox (σ 80000) [.sl (y2.2.1.map c5), Ti y2.2.2.1, .v (.int .u64 y2.2.2.2)])]⟩) ?_ ?_
  ·refine XR 1 ?_
   refine XL_cons rfl (X_callR (E' := [(24, .box [Ti 1, Ti 0, Ti 0, Ti 1]), (16, .box [Ti 0, Ti 0, Ti 0, Ti 0]), (80000, .pbox (σ 80000) [.sl (y2.2.1.map c5), Ti y2.2.2.1, .v (.int .u64 y2.2.2.2)])]) [(80000, 80000)] 8 (s_spec_l1Cur_pick hy2) cf_spec_l1Cur_pick rfl rfl (by kernel_rfl) rfl (mE_cons (by kernel_rfl) mE_nil) rfl (by kernel_rfl) rfl rfl (by kernel_rfl)) ?_
   exact XE
  obtain ⟨o12, hLo12, h⟩ := of_bind h
  refine V_toK (mb 34 12) [24, 16, 80000] (s1 := ⟨.bot :: .bot :: .pt 16 0 :: .pt 24 0 :: bt 30 [], [(24, .box [Ti o12.1, Ti o12.2.1, Ti o12.2.2.1, Ti o12.2.2.2.1]), (16, .box [Ti 0, Ti 0, Ti 0, Ti 0]), (80000, .pbox (σ 80000) [.sl (o12.2.2.2.2.1.map c5), Ti o12.2.2.2.2.2.1, .v (.int .u64 o12.2.2.2.2.2.2)])]⟩) ?_ ?_
  ·clear h
   refine V_block (V_loop (fun n s => ∃ (k3 : Int) (f4 : Int) (f5 : Int) (f6 : Int) (f7 : Int) (f8 : List Int) (f9 : Int) (f10 : Int), s.keep (mb 34 29) [24, 16, 80000] = (⟨.pt 80000 0 :: .bot :: .pt 16 0 :: .pt 24 0 :: I k3 :: bt 29 [], [(24, .box [Ti f4, Ti f5, Ti f6, Ti f7]), (16, .box [Ti 0, Ti 0, Ti 0, Ti 0]), (80000, .pbox (σ 80000) [.sl (f8.map c5), Ti f9, .v (.int .u64 f10)])]⟩ : St) ∧ r_spec_l1Cur_proper_L11 n k3 f4 f5 f6 f7 f8 f9 f10 = some o12) FU ⟨_, _, _, _, _, _, _, _,  by rfl, hLo12⟩ ?_)
   clear hLo12
   rintro n s ⟨k3, f4, f5, f6, f7, f8, f9, f10, hs, h⟩
   refine V_keep _ _ hs ?_
   clear hs
   cases n with
   | zero => cases h
   | succ n =>
    rw [r_spec_l1Cur_proper_L11] at h
    refine V_seq ?_
    refine V_e (mb 34 1053) [24, 16, 80000] (s1 := ⟨.pt 80000 0 :: .bot :: .pt 16 0 :: .pt 24 0 :: I k3 :: bt 5 (Bo (ltI 0 k3) :: bt 23 []), [(24, .box [Ti f4, Ti f5, Ti f6, Ti f7]), (16, .box [Ti 0, Ti 0, Ti 0, Ti 0]), (80000, .pbox (σ 80000) [.sl (f8.map c5), Ti f9, .v (.int .u64 f10)])]⟩) ?_
    refine V_cond rfl (fun hc13 => ?_) (fun hc13 => ?_)
    ·have h := of_true h hc13
     refine V_skip ?_
     show V _ _ _ _
     refine V_seq ?_
     refine V_block ?_
     obtain ⟨y14, hy14, h⟩ := of_bind h
     obtain ⟨t15, ht15, h⟩ := of_sI h
     refine V_sreg (mb 34 61) [24, 16, 80000] (s1 := ⟨.pt 80000 0 :: .bot :: .pt 16 0 :: .pt 24 0 :: I k3 :: I t15 :: bt 28 [], [(24, .box [Ti f4, Ti f5, Ti f6, Ti f7]), (16, .box [Ti 0, Ti 0, Ti 0, Ti 0]), (80000, .pbox (σ 80000) [.sl (y14.2.1.map c5), Ti y14.2.2.1, .v (.int .u64 y14.2.2.2)])]⟩) ?_ ?_
     ·refine XR 1 ?_
      refine XL_cons rfl (X_callR (E' := [(24, .box [Ti f4, Ti f5, Ti f6, Ti f7]), (16, .box [Ti 0, Ti 0, Ti 0, Ti 0]), (80000, .pbox (σ 80000) [.sl (y14.2.1.map c5), Ti y14.2.2.1, .v (.int .u64 y14.2.2.2)])]) [(80000, 80000)] 14 (s_spec_l1Cur_pick hy14) cf_spec_l1Cur_pick rfl rfl (by kernel_rfl) rfl (mE_cons (by kernel_rfl) mE_nil) rfl (by kernel_rfl) rfl rfl (by kernel_rfl)) ?_
      refine XR 2 ?_
      refine XL_nil ?_
      subst ht15
      kernel_rfl
     obtain ⟨y16, hy16, h⟩ := of_bind h
     refine V_sreg (mb 34 131133) [24, 16, 80000] (s1 := ⟨.pt 80000 0 :: .bot :: .pt 16 0 :: .pt 24 0 :: I k3 :: I t15 :: bt 11 (I y16.1 :: bt 16 []), [(24, .box [Ti f4, Ti f5, Ti f6, Ti f7]), (16, .box [Ti 0, Ti 0, Ti 0, Ti 0]), (80000, .pbox (σ 80000) [.sl (y16.2.1.map c5), Ti y16.2.2.1, .v (.int .u64 y16.2.2.2)])]⟩) ?_ ?_
     ·refine XR 1 ?_
      refine XL_cons rfl (X_callR (E' := [(24, .box [Ti f4, Ti f5, Ti f6, Ti f7]), (16, .box [Ti 0, Ti 0, Ti 0, Ti 0]), (80000, .pbox (σ 80000) [.sl (y16.2.1.map c5), Ti y16.2.2.1, .v (.int .u64 y16.2.2.2)])]) [(80000, 80000)] 17 (s_spec_l1Cur_pick hy16) cf_spec_l1Cur_pick rfl rfl (by kernel_rfl) rfl (mE_cons (by kernel_rfl) mE_nil) rfl (by kernel_rfl) rfl rfl (by kernel_rfl)) ?_
      exact XE
     refine V_block ?_
     refine V_e (mb 34 2228285) [24, 16, 80000] (s1 := ⟨.pt 80000 0 :: .bot :: .pt 16 0 :: .pt 24 0 :: I k3 :: I t15 :: bt 11 (I y16.1 :: bt 3 (Bo (eqI y16.1 0) :: bt 12 [])), [(24, .box [Ti f4, Ti f5, Ti f6, Ti f7]), (16, .box [Ti 0, Ti 0, Ti 0, Ti 0]), (80000, .pbox (σ 80000) [.sl (y16.2.1.map c5), Ti y16.2.2.1, .v (.int .u64 y16.2.2.2)])]⟩) ?_
     refine V_cond rfl (fun hc17 => ?_) (fun hc17 => ?_)
     ·have h := of_true h hc17
      obtain ⟨y18, hy18, h⟩ := of_bind h
      refine V_reg (mb 34 29) [24, 16, 80000] (s1 := ⟨.pt 80000 0 :: .bot :: .pt 16 0 :: .pt 24 0 :: I k3 :: bt 29 [], [(24, .box [Ti y18.1, Ti y18.2.1, Ti y18.2.2.1, Ti y18.2.2.2]), (16, .box [Ti 0, Ti 0, Ti 0, Ti 0]), (80000, .pbox (σ 80000) [.sl (y16.2.1.map c5), Ti y16.2.2.1, .v (.int .u64 y16.2.2.2)])]⟩) ?_ ?_
      ·refine XR 2 ?_
       refine L0 rfl rfl (Y0_build (cs := [Ti 1, Ti t15, Ti 0, Ti 1]) pl110 bt110 rfl rfl (by kernel_rfl)) ?_
       refine XC (s_spec_foMul hy18) cf_spec_foMul rfl rfl rfl ?_
       exact XE
      show V _ _ _ _
      obtain ⟨k19, hk19, h⟩ := of_sI h
      refine V_reg (mb 34 29) [24, 16, 80000] (s1 := ⟨.pt 80000 0 :: .bot :: .pt 16 0 :: .pt 24 0 :: I k19 :: bt 29 [], [(24, .box [Ti y18.1, Ti y18.2.1, Ti y18.2.2.1, Ti y18.2.2.2]), (16, .box [Ti 0, Ti 0, Ti 0, Ti 0]), (80000, .pbox (σ 80000) [.sl (y16.2.1.map c5), Ti y16.2.2.1, .v (.int .u64 y16.2.2.2)])]⟩) ?_ ?_
      ·refine XR 3 ?_
       refine XL_nil ?_
       subst hk19
       kernel_rfl
      exact ⟨n, Nat.lt_succ_self n, _, _, _, _, _, _, _, _,  by rfl, h⟩
     ·have h := of_false h hc17
      refine V_e (mb 34 134217789) [24, 16, 80000] (s1 := ⟨.pt 80000 0 :: .bot :: .pt 16 0 :: .pt 24 0 :: I k3 :: I t15 :: bt 21 (Bo (eqI y16.1 1) :: bt 6 []), [(24, .box [Ti f4, Ti f5, Ti f6, Ti f7]), (16, .box [Ti 0, Ti 0, Ti 0, Ti 0]), (80000, .pbox (σ 80000) [.sl (y16.2.1.map c5), Ti y16.2.2.1, .v (.int .u64 y16.2.2.2)])]⟩) ?_
      refine V_cond rfl (fun hc20 => ?_) (fun hc20 => ?_)
      ·have h := of_true h hc20
       obtain ⟨y21, hy21, h⟩ := of_bind h
       refine V_reg (mb 34 29) [24, 16, 80000] (s1 := ⟨.pt 80000 0 :: .bot :: .pt 16 0 :: .pt 24 0 :: I k3 :: bt 29 [], [(24, .box [Ti y21.1, Ti y21.2.1, Ti y21.2.2.1, Ti y21.2.2.2]), (16, .box [Ti 0, Ti 0, Ti 0, Ti 0]), (80000, .pbox (σ 80000) [.sl (y16.2.1.map c5), Ti y16.2.2.1, .v (.int .u64 y16.2.2.2)])]⟩) ?_ ?_
       ·refine XR 2 ?_
        refine L0 rfl rfl (Y0_build (cs := [Ti 1, Ti 0, Ti t15, Ti 1]) pl110 bt110 rfl rfl (by kernel_rfl)) ?_
        refine XC (s_spec_foMul hy21) cf_spec_foMul rfl rfl rfl ?_
        exact XE
       show V _ _ _ _
       obtain ⟨k22, hk22, h⟩ := of_sI h
       refine V_reg (mb 34 29) [24, 16, 80000] (s1 := ⟨.pt 80000 0 :: .bot :: .pt 16 0 :: .pt 24 0 :: I k22 :: bt 29 [], [(24, .box [Ti y21.1, Ti y21.2.1, Ti y21.2.2.1, Ti y21.2.2.2]), (16, .box [Ti 0, Ti 0, Ti 0, Ti 0]), (80000, .pbox (σ 80000) [.sl (y16.2.1.map c5), Ti y16.2.2.1, .v (.int .u64 y16.2.2.2)])]⟩) ?_ ?_
       ·refine XR 3 ?_
        refine XL_nil ?_
        subst hk22
        kernel_rfl
       exact ⟨n, Nat.lt_succ_self n, _, _, _, _, _, _, _, _,  by rfl, h⟩
      ·have h := of_false h hc20
       obtain ⟨y23, hy23, h⟩ := of_bind h
       refine V_reg (mb 34 29) [24, 16, 80000] (s1 := ⟨.pt 80000 0 :: .bot :: .pt 16 0 :: .pt 24 0 :: I k3 :: bt 29 [], [(24, .box [Ti y23.1, Ti y23.2.1, Ti y23.2.2.1, Ti y23.2.2.2]), (16, .box [Ti 0, Ti 0, Ti 0, Ti 0]), (80000, .pbox (σ 80000) [.sl (y16.2.1.map c5), Ti y16.2.2.1, .v (.int .u64 y16.2.2.2)])]⟩) ?_ ?_
       ·refine XR 1 ?_
        refine L0 rfl rfl (Y0_build (cs := [Ti 0, Ti (-1), Ti 1, Ti 0]) pl110 bt110 rfl rfl (by kernel_rfl)) ?_
        refine XC (s_spec_foMul hy23) cf_spec_foMul rfl rfl rfl ?_
        exact XE
       show V _ _ _ _
       obtain ⟨k24, hk24, h⟩ := of_sI h
       refine V_reg (mb 34 29) [24, 16, 80000] (s1 := ⟨.pt 80000 0 :: .bot :: .pt 16 0 :: .pt 24 0 :: I k24 :: bt 29 [], [(24, .box [Ti y23.1, Ti y23.2.1, Ti y23.2.2.1, Ti y23.2.2.2]), (16, .box [Ti 0, Ti 0, Ti 0, Ti 0]), (80000, .pbox (σ 80000) [.sl (y16.2.1.map c5), Ti y16.2.2.1, .v (.int .u64 y16.2.2.2)])]⟩) ?_ ?_
       ·refine XR 3 ?_
        refine XL_nil ?_
        subst hk24
        kernel_rfl
       exact ⟨n, Nat.lt_succ_self n, _, _, _, _, _, _, _, _,  by rfl, h⟩
    ·have h := of_false h hc13
     refine V_exit ?_
     obtain rfl := some_inj h
     show St.keep _ _ _ = _
     rfl
  show V _ _ _ _
  refine V_e (mb 34 4) [16, 80000] (s1 := ⟨.bot :: .bot :: .pt 16 0 :: bt 31 [], [(16, .box [Ti o12.1, Ti o12.2.1, Ti o12.2.2.1, Ti o12.2.2.2.1]), (80000, .pbox (σ 80000) [.sl (o12.2.2.2.2.1.map c5), Ti o12.2.2.2.2.2.1, .v (.int .u64 o12.2.2.2.2.2.2)])]⟩) ?_
  refine V_ret ?_
  obtain rfl := some_inj h
  show PostR _ _ _ _ _ _
  exact ⟨⟨.inr rfl, rfl, rfl, rfl⟩, ⟨rfl, trivial⟩⟩
theorem cf_spec_foValue : ∀ args w, (callFunc 119 args).run Try.prog w = .ok (.enter 119 args) w := run_callFunc Try.func119 (by kernel_rfl) (by kernel_rfl)
theorem s_spec_foValue {f1 : (Int × Int × Int)} {x2 : Int} {y3 : Int} {r : Int} (h : r_spec_foValue f1 x2 y3 = some r) : CallS Try.prog 119 [.ag [Ti f1.1, Ti f1.2.1, Ti f1.2.2], I x2, I y3] (I r) [] := by
  refine CallS_of_text (rs := [.t 6]) (vs := [.tmp 6]) Try.func119 rfl rfl (.cons rfl FitsL.nil) (by decide) 27 rfl ?_
  unfold r_spec_foValue at h
  show V _ _ ⟨.ag [Ti f1.1, Ti f1.2.1, Ti f1.2.2] :: I x2 :: I y3 :: bt 24 [], []⟩ _
  refine V_e (mb 27 14) [24] (s1 := ⟨.bot :: I x2 :: I y3 :: .pt 24 0 :: bt 23 [], [(24, .box [Ti f1.1, Ti f1.2.1, Ti f1.2.2])]⟩) ?_
  obtain ⟨t4, ht4, h⟩ := of_sI h
  refine V_sreg (mb 27 64) [] (s1 := ⟨bt 6 (I t4 :: bt 20 []), []⟩) ?_ ?_
  ·refine XR 21 ?_
   refine XL_nil ?_
   subst ht4
   kernel_rfl
  refine V_ret ?_
  obtain rfl := some_inj h
  show Post _ _ _ _ _
  exact ⟨.inr rfl, rfl, rfl, rfl⟩
theorem cf_spec_foPolar : ∀ args w, (callFunc 209 args).run Try.prog w = .ok (.enter 209 args) w := run_callFunc Try.func209 (by kernel_rfl) (by kernel_rfl)
theorem s_spec_foPolar {f1 : (Int × Int × Int)} {x2 : Int} {y3 : Int} {u4 : Int} {v5 : Int} {r : Int} (h : r_spec_foPolar f1 x2 y3 u4 v5 = some r) : CallS Try.prog 209 [.ag [Ti f1.1, Ti f1.2.1, Ti f1.2.2], I x2, I y3, I u4, I v5] (I r) [] := by
  refine CallS_of_text (rs := [.t 10]) (vs := [.tmp 10]) Try.func209 rfl rfl (.cons rfl FitsL.nil) (by decide) 37 rfl ?_
  unfold r_spec_foPolar at h
  show V _ _ ⟨.ag [Ti f1.1, Ti f1.2.1, Ti f1.2.2] :: I x2 :: I y3 :: I u4 :: I v5 :: bt 32 [], []⟩ _
  refine V_e (mb 37 62) [40] (s1 := ⟨.bot :: I x2 :: I y3 :: I u4 :: I v5 :: .pt 40 0 :: bt 31 [], [(40, .box [Ti f1.1, Ti f1.2.1, Ti f1.2.2])]⟩) ?_
  obtain ⟨t6, ht6, h⟩ := of_sI h
  refine V_sreg (mb 37 1024) [] (s1 := ⟨bt 10 (I t6 :: bt 26 []), []⟩) ?_ ?_
  ·refine XR 27 ?_
   refine XL_nil ?_
   subst ht6
   kernel_rfl
  refine V_ret ?_
  obtain rfl := some_inj h
  show Post _ _ _ _ _
  exact ⟨.inr rfl, rfl, rfl, rfl⟩
theorem cf_spec_foAct : ∀ args w, (callFunc 190 args).run Try.prog w = .ok (.enter 190 args) w := run_callFunc Try.func190 (by kernel_rfl) (by kernel_rfl)
theorem s_spec_foAct {f1 : (Int × Int × Int)} {vm2 : (Int × Int × Int × Int)} {r : (Int × Int × Int)} (h : r_spec_foAct f1 vm2 = some r) : CallS Try.prog 190 [.ag [Ti f1.1, Ti f1.2.1, Ti f1.2.2], .ag [Ti vm2.1, Ti vm2.2.1, Ti vm2.2.2.1, Ti vm2.2.2.2]] (.ag [Ti r.1, Ti r.2.1, Ti r.2.2]) [] := by
  refine CallS_of_text (rs := [.w 4 3]) (vs := [.cell 4 45]) Try.func190 rfl rfl (.cons ⟨rfl, wd45⟩ FitsL.nil) (by decide) 28 rfl ?_
  unfold r_spec_foAct at h
  show V _ _ ⟨.ag [Ti f1.1, Ti f1.2.1, Ti f1.2.2] :: .ag [Ti vm2.1, Ti vm2.2.1, Ti vm2.2.2.1, Ti vm2.2.2.2] :: bt 26 [], []⟩ _
  refine V_e (mb 28 28) [32, 24, 16] (s1 := ⟨.bot :: .bot :: .pt 16 0 :: .pt 24 0 :: .pt 32 0 :: bt 23 [], [(32, .box [Ti 0, Ti 0, Ti 0]), (24, .box [Ti vm2.1, Ti vm2.2.1, Ti vm2.2.2.1, Ti vm2.2.2.2]), (16, .box [Ti f1.1, Ti f1.2.1, Ti f1.2.2])]⟩) ?_
  obtain ⟨y3, hy3, h⟩ := of_bind h
  obtain ⟨y4, hy4, h⟩ := of_bind h
  obtain ⟨y5, hy5, h⟩ := of_bind h
  refine V_sdreg [0, 0, 2, 0, 8, 31, 0, 0, 128, 0, 512, 0, 2048, 0, 8192, 32767, 0, 0, 131072, 0, 524288, 2097151, 4194303, 8388607] 23 (cdm 23 [2929883521704, 2929883521666, 2929883521670, 2929883521066, 2929883521130, 2929883521365, 2929883515562, 2929883359914, 2929883376298, 2929880902314, 2929881164458, 2929841580714, 2929845775018, 2929212435114, 2929279543978, 2929525609813, 2923441072810, 2760232315562, 2777412184746, 183251937962, 458129844906, 1466015503701, 5864062014805]) (mb 28 16) [32] (s1 := ⟨bt 4 (.pt 32 0 :: bt 23 []), [(32, .box [Ti y3, Ti y4, Ti y5])]⟩) (by kernel_rfl) (by kernel_rfl) ?_ ?_
  ·refine DR 5 ?_
   refine DC 5 (s_spec_foValue hy3) cf_spec_foValue rfl rfl rfl rfl 10 rfl ?_
   refine DR 9 ?_
   refine DC 15 (s_spec_foPolar hy4) cf_spec_foPolar rfl rfl rfl rfl 20 rfl ?_
   refine DR 5 ?_
   refine DC 21 (s_spec_foValue hy5) cf_spec_foValue rfl rfl rfl rfl 26 rfl ?_
   refine DE_0 22 (.ag [Ti y3, Ti y4, Ti y5]) (by kernel_rfl) rfl rfl rfl (gsat_none rfl) (by kernel_rfl) (Y0_build (cs := [Ti y3, Ti y4, Ti y5]) pl45 bt45 rfl rfl (by kernel_rfl)) 27 rfl ?_
   refine DA 0 ?_
   exact XE
  refine V_ret ?_
  obtain rfl := some_inj h
  show Post _ _ _ _ _
  exact ⟨.inr rfl, rfl, rfl, rfl⟩
theorem cf_spec_nuGood : ∀ args w, (callFunc 132 args).run Try.prog w = .ok (.enter 132 args) w := run_callFunc Try.func132 (by kernel_rfl) (by kernel_rfl)
theorem s_spec_nuGood {vn1 : Int} {r : Bool} (h : r_spec_nuGood vn1 = some r) : CallS Try.prog 132 [I vn1] (Bo r) [] := by
  refine CallS_of_text (rs := [.t 2]) (vs := [.tmp 2]) Try.func132 rfl rfl (.cons rfl FitsL.nil) (by decide) 5 rfl ?_
  unfold r_spec_nuGood at h
  show V _ _ ⟨I vn1 :: bt 4 [], []⟩ _
  refine V_e (mb 5 1) [] (s1 := ⟨I vn1 :: bt 4 [], []⟩) ?_
  obtain ⟨y2, hy2, h⟩ := of_bind h
  refine V_sreg (mb 5 4) [] (s1 := ⟨.bot :: .bot :: Bo y2 :: .bot :: .bot :: [], []⟩) ?_ ?_
  ·refine XR 1 ?_
   refine XC (s_spec_l1In hy2) cf_spec_l1In rfl rfl rfl ?_
   exact XE
  refine V_ret ?_
  obtain rfl := some_inj h
  show Post _ _ _ _ _
  exact ⟨.inr rfl, rfl, rfl, rfl⟩
theorem cf_spec_foGood : ∀ args w, (callFunc 107 args).run Try.prog w = .ok (.enter 107 args) w := run_callFunc Try.func107 (by kernel_rfl) (by kernel_rfl)
theorem s_spec_foGood {f1 : (Int × Int × Int)} {r : Bool} (h : r_spec_foGood f1 = some r) : CallS Try.prog 107 [.ag [Ti f1.1, Ti f1.2.1, Ti f1.2.2]] (Bo r) [] := by
  refine CallS_of_text (rs := [.t 2]) (vs := [.tmp 2]) Try.func107 rfl rfl (.cons rfl FitsL.nil) (by decide) 16 rfl ?_
  unfold r_spec_foGood at h
  show V _ _ ⟨.ag [Ti f1.1, Ti f1.2.1, Ti f1.2.2] :: bt 15 [], []⟩ _
  refine V_e (mb 16 2) [8] (s1 := ⟨.bot :: .pt 8 0 :: bt 14 [], [(8, .box [Ti f1.1, Ti f1.2.1, Ti f1.2.2])]⟩) ?_
  obtain ⟨y2, hy2, h⟩ := of_bind h
  obtain ⟨b5, hb5, h⟩ := of_bind h
  obtain ⟨b8, hb8, h⟩ := of_bind h
  refine V_sreg (mb 16 4) [] (s1 := ⟨.bot :: .bot :: Bo b8 :: bt 13 [], []⟩) ?_ ?_
  ·refine XR 2 ?_
   refine XC (s_spec_nuGood hy2) cf_spec_nuGood rfl rfl rfl ?_
   refine XR 1 ?_
   refine XL_split y2 (fun hc3 => ?_) (fun hc3 => ?_)
   ·have hb5 := of_true hb5 hc3
    obtain ⟨y4, hy4, hb5⟩ := of_bind hb5
    have hb5 := some_inj hb5
    refine XL_takeC _ rfl rfl (by kernel_rfl) hc3 (X_of_Y0 rfl (E_field (.pt 8 1) Try.underlying45 rfl sz3 rfl (by kernel_rfl) (by intro hh; cases hh))) ?_
    refine XL_takeC _ rfl rfl (by kernel_rfl) hc3 (X_of_Y0 rfl (Y0_load1 (c := Ti f1.2.1) (cs := [Ti f1.2.2]) sc3 rfl (by kernel_rfl))) ?_
    refine XL_takeC _ rfl rfl (by kernel_rfl) hc3 (X_of_Y1 rfl (Y1_call (s_spec_nuGood hy4) cf_spec_nuGood rfl (by kernel_rfl))) ?_
    refine XL_cons rfl (X_of_Y0 rfl (Y0_pickTe (b := y2) (p := y4) rfl (by kernel_rfl) hc3 (by kernel_rfl) hb5)) ?_
    refine XR 1 ?_
    refine XL_split b5 (fun hc6 => ?_) (fun hc6 => ?_)
    ·have hb8 := of_true hb8 hc6
     obtain ⟨y7, hy7, hb8⟩ := of_bind hb8
     have hb8 := some_inj hb8
     refine XL_takeC _ rfl rfl (by kernel_rfl) hc6 (X_of_Y0 rfl (E_field (.pt 8 2) Try.underlying45 rfl sz3 rfl (by kernel_rfl) (by intro hh; cases hh))) ?_
     refine XL_takeC _ rfl rfl (by kernel_rfl) hc6 (X_of_Y0 rfl (Y0_load1 (c := Ti f1.2.2) (cs := []) sc3 rfl (by kernel_rfl))) ?_
     refine XL_takeC _ rfl rfl (by kernel_rfl) hc6 (X_of_Y1 rfl (Y1_call (s_spec_nuGood hy7) cf_spec_nuGood rfl (by kernel_rfl))) ?_
     refine XL_cons rfl (X_of_Y0 rfl (Y0_pickTe (b := b5) (p := y7) rfl (by kernel_rfl) hc6 (by kernel_rfl) hb8)) ?_
     exact XE
    ·have hb8 := some_inj (of_false hb8 hc6)
     refine XL_skipT _ rfl rfl (by kernel_rfl) hc6 rfl ?_
     refine XL_skipT _ rfl rfl (by kernel_rfl) hc6 rfl ?_
     refine XL_skipT _ rfl rfl (by kernel_rfl) hc6 rfl ?_
     refine XL_cons rfl (X_of_Y0 rfl (Y0_pickFe (b := b5) (p := false) rfl (by kernel_rfl) hc6 (by kernel_rfl) hb8)) ?_
     exact XE
   ·have hb5 := some_inj (of_false hb5 hc3)
    refine XL_skipT _ rfl rfl (by kernel_rfl) hc3 rfl ?_
    refine XL_skipT _ rfl rfl (by kernel_rfl) hc3 rfl ?_
    refine XL_skipT _ rfl rfl (by kernel_rfl) hc3 rfl ?_
    refine XL_cons rfl (X_of_Y0 rfl (Y0_pickFe (b := y2) (p := false) rfl (by kernel_rfl) hc3 (by kernel_rfl) hb5)) ?_
    refine XR 1 ?_
    refine XL_split b5 (fun hc6 => ?_) (fun hc6 => ?_)
    ·have hb8 := of_true hb8 hc6
     obtain ⟨y7, hy7, hb8⟩ := of_bind hb8
     have hb8 := some_inj hb8
     refine XL_takeC _ rfl rfl (by kernel_rfl) hc6 (X_of_Y0 rfl (E_field (.pt 8 2) Try.underlying45 rfl sz3 rfl (by kernel_rfl) (by intro hh; cases hh))) ?_
     refine XL_takeC _ rfl rfl (by kernel_rfl) hc6 (X_of_Y0 rfl (Y0_load1 (c := Ti f1.2.2) (cs := []) sc3 rfl (by kernel_rfl))) ?_
     refine XL_takeC _ rfl rfl (by kernel_rfl) hc6 (X_of_Y1 rfl (Y1_call (s_spec_nuGood hy7) cf_spec_nuGood rfl (by kernel_rfl))) ?_
     refine XL_cons rfl (X_of_Y0 rfl (Y0_pickTe (b := b5) (p := y7) rfl (by kernel_rfl) hc6 (by kernel_rfl) hb8)) ?_
     exact XE
    ·have hb8 := some_inj (of_false hb8 hc6)
     refine XL_skipT _ rfl rfl (by kernel_rfl) hc6 rfl ?_
     refine XL_skipT _ rfl rfl (by kernel_rfl) hc6 rfl ?_
     refine XL_skipT _ rfl rfl (by kernel_rfl) hc6 rfl ?_
     refine XL_cons rfl (X_of_Y0 rfl (Y0_pickFe (b := b5) (p := false) rfl (by kernel_rfl) hc6 (by kernel_rfl) hb8)) ?_
     exact XE
  refine V_ret ?_
  obtain rfl := some_inj h
  show Post _ _ _ _ _
  exact ⟨.inr rfl, rfl, rfl, rfl⟩
theorem cf_spec_l1Cur_moved : ∀ args w, (callFunc 146 args).run Try.prog w = .ok (.enter 146 args) w := run_callFunc Try.func146 (by kernel_rfl) (by kernel_rfl)
theorem s_spec_l1Cur_moved {c1 : ((List Int) × Int × Int)} {f2 : (Int × Int × Int)} {r : (((Int × Int × Int)) × (((List Int) × Int × Int)))} (h : r_spec_l1Cur_moved c1 f2 = some r) : CallR Try.prog 146 [.pt 80000 0, .ag [Ti f2.1, Ti f2.2.1, Ti f2.2.2]] [(80000, .box [.sl (c1.1.map c5), Ti c1.2.1, .v (.int .u64 c1.2.2)])] (.ag [Ti r.1.1, Ti r.1.2.1, Ti r.1.2.2]) [] [(80000, .box [.sl (r.2.1.map c5), Ti r.2.2.1, .v (.int .u64 r.2.2.2)])] := by
  refine CallR_of_text (rs := [.w 4 3]) (vs := [.cell 4 45]) Try.func146 rfl rfl (.cons ⟨rfl, wd45⟩ FitsL.nil) (by decide) 15 rfl rfl fun σ => ?_
  unfold r_spec_l1Cur_moved at h
  show V _ _ ⟨.pt 80000 0 :: .ag [Ti f2.1, Ti f2.2.1, Ti f2.2.2] :: bt 13 [], [(80000, .pbox (σ 80000) [.sl (c1.1.map c5), Ti c1.2.1, .v (.int .u64 c1.2.2)])]⟩ _
  refine V_e (mb 15 25) [32, 24, 80000] (s1 := ⟨.pt 80000 0 :: .bot :: .bot :: .pt 24 0 :: .pt 32 0 :: bt 10 [], [(32, .box [Ti 0, Ti 0, Ti 0]), (24, .box [Ti f2.1, Ti f2.2.1, Ti f2.2.2]), (80000, .pbox (σ 80000) [.sl (c1.1.map c5), Ti c1.2.1, .v (.int .u64 c1.2.2)])]⟩) ?_
  obtain ⟨y3, hy3, h⟩ := of_bind h
  obtain ⟨y4, hy4, h⟩ := of_bind h
  refine V_sdagK (mb 15 56) [40, 32, 24, 80000] [0, 0, 2, 7, 0, 31] [(0, ⟨.pt 80000 0 :: .bot :: .bot :: .pt 24 0 :: .pt 32 0 :: bt 10 [], [(32, .box [Ti 0, Ti 0, Ti 0]), (24, .box [Ti f2.1, Ti f2.2.1, Ti f2.2.2]), (80000, .pbox (σ 80000) [.sl (c1.1.map c5), Ti c1.2.1, .v (.int .u64 c1.2.2)])]⟩), (1, ⟨.pt 80000 0 :: .bot :: .bot :: .pt 24 0 :: .pt 32 0 :: .bot :: .ag [Ti f2.1, Ti f2.2.1, Ti f2.2.2] :: bt 8 [], [(32, .box [Ti 0, Ti 0, Ti 0]), (24, .box [Ti f2.1, Ti f2.2.1, Ti f2.2.2]), (80000, .pbox (σ 80000) [.sl (c1.1.map c5), Ti c1.2.1, .v (.int .u64 c1.2.2)])]⟩), (2, ⟨.pt 80000 0 :: .bot :: .bot :: .pt 24 0 :: .pt 32 0 :: .bot :: .bot :: .pt 80000 0 :: bt 7 [], [(32, .box [Ti 0, Ti 0, Ti 0]), (24, .box [Ti f2.1, Ti f2.2.1, Ti f2.2.2]), (80000, .pbox (σ 80000) [.sl (c1.1.map c5), Ti c1.2.1, .v (.int .u64 c1.2.2)])]⟩), (3, ⟨.pt 80000 0 :: .bot :: .bot :: .pt 24 0 :: .pt 32 0 :: .bot :: .ag [Ti f2.1, Ti f2.2.1, Ti f2.2.2] :: .pt 80000 0 :: bt 7 [], [(32, .box [Ti 0, Ti 0, Ti 0]), (24, .box [Ti f2.1, Ti f2.2.1, Ti f2.2.2]), (80000, .pbox (σ 80000) [.sl (c1.1.map c5), Ti c1.2.1, .v (.int .u64 c1.2.2)])]⟩), (6, ⟨.pt 80000 0 :: .bot :: .bot :: .pt 24 0 :: .pt 32 0 :: .bot :: .bot :: .pt 80000 0 :: .ag [Ti y3.1.1, Ti y3.1.2.1, Ti y3.1.2.2.1, Ti y3.1.2.2.2] :: bt 6 [], [(32, .box [Ti 0, Ti 0, Ti 0]), (24, .box [Ti f2.1, Ti f2.2.1, Ti f2.2.2]), (80000, .pbox (σ 80000) [.sl (y3.2.1.map c5), Ti y3.2.2.1, .v (.int .u64 y3.2.2.2)])]⟩), (7, ⟨.pt 80000 0 :: .bot :: .bot :: .pt 24 0 :: .pt 32 0 :: .bot :: .ag [Ti f2.1, Ti f2.2.1, Ti f2.2.2] :: .pt 80000 0 :: .ag [Ti y3.1.1, Ti y3.1.2.1, Ti y3.1.2.2.1, Ti y3.1.2.2.2] :: bt 6 [], [(32, .box [Ti 0, Ti 0, Ti 0]), (24, .box [Ti f2.1, Ti f2.2.1, Ti f2.2.2]), (80000, .pbox (σ 80000) [.sl (y3.2.1.map c5), Ti y3.2.2.1, .v (.int .u64 y3.2.2.2)])]⟩), (15, ⟨.pt 80000 0 :: .bot :: .bot :: .pt 24 0 :: .pt 32 0 :: .bot :: .ag [Ti f2.1, Ti f2.2.1, Ti f2.2.2] :: .pt 80000 0 :: .ag [Ti y3.1.1, Ti y3.1.2.1, Ti y3.1.2.2.1, Ti y3.1.2.2.2] :: .ag [Ti y4.1, Ti y4.2.1, Ti y4.2.2] :: bt 5 [], [(32, .box [Ti 0, Ti 0, Ti 0]), (24, .box [Ti f2.1, Ti f2.2.1, Ti f2.2.2]), (80000, .pbox (σ 80000) [.sl (y3.2.1.map c5), Ti y3.2.2.1, .v (.int .u64 y3.2.2.2)])]⟩), (16, ⟨.pt 80000 0 :: .bot :: .bot :: .pt 24 0 :: .pt 32 0 :: .pt 40 0 :: bt 9 [], [(40, .box [Ti 0, Ti 0, Ti 0]), (32, .box [Ti 0, Ti 0, Ti 0]), (24, .box [Ti f2.1, Ti f2.2.1, Ti f2.2.2]), (80000, .pbox (σ 80000) [.sl (c1.1.map c5), Ti c1.2.1, .v (.int .u64 c1.2.2)])]⟩), (17, ⟨.pt 80000 0 :: .bot :: .bot :: .pt 24 0 :: .pt 32 0 :: .pt 40 0 :: .ag [Ti f2.1, Ti f2.2.1, Ti f2.2.2] :: bt 8 [], [(40, .box [Ti 0, Ti 0, Ti 0]), (32, .box [Ti 0, Ti 0, Ti 0]), (24, .box [Ti f2.1, Ti f2.2.1, Ti f2.2.2]), (80000, .pbox (σ 80000) [.sl (c1.1.map c5), Ti c1.2.1, .v (.int .u64 c1.2.2)])]⟩), (18, ⟨.pt 80000 0 :: .bot :: .bot :: .pt 24 0 :: .pt 32 0 :: .pt 40 0 :: .bot :: .pt 80000 0 :: bt 7 [], [(40, .box [Ti 0, Ti 0, Ti 0]), (32, .box [Ti 0, Ti 0, Ti 0]), (24, .box [Ti f2.1, Ti f2.2.1, Ti f2.2.2]), (80000, .pbox (σ 80000) [.sl (c1.1.map c5), Ti c1.2.1, .v (.int .u64 c1.2.2)])]⟩), (19, ⟨.pt 80000 0 :: .bot :: .bot :: .pt 24 0 :: .pt 32 0 :: .pt 40 0 :: .ag [Ti f2.1, Ti f2.2.1, Ti f2.2.2] :: .pt 80000 0 :: bt 7 [], [(40, .box [Ti 0, Ti 0, Ti 0]), (32, .box [Ti 0, Ti 0, Ti 0]), (24, .box [Ti f2.1, Ti f2.2.1, Ti f2.2.2]), (80000, .pbox (σ 80000) [.sl (c1.1.map c5), Ti c1.2.1, .v (.int .u64 c1.2.2)])]⟩), (22, ⟨.pt 80000 0 :: .bot :: .bot :: .pt 24 0 :: .pt 32 0 :: .pt 40 0 :: .bot :: .pt 80000 0 :: .ag [Ti y3.1.1, Ti y3.1.2.1, Ti y3.1.2.2.1, Ti y3.1.2.2.2] :: bt 6 [], [(40, .box [Ti 0, Ti 0, Ti 0]), (32, .box [Ti 0, Ti 0, Ti 0]), (24, .box [Ti f2.1, Ti f2.2.1, Ti f2.2.2]), (80000, .pbox (σ 80000) [.sl (y3.2.1.map c5), Ti y3.2.2.1, .v (.int .u64 y3.2.2.2)])]⟩), (23, ⟨.pt 80000 0 :: .bot :: .bot :: .pt 24 0 :: .pt 32 0 :: .pt 40 0 :: .ag [Ti f2.1, Ti f2.2.1, Ti f2.2.2] :: .pt 80000 0 :: .ag [Ti y3.1.1, Ti y3.1.2.1, Ti y3.1.2.2.1, Ti y3.1.2.2.2] :: bt 6 [], [(40, .box [Ti 0, Ti 0, Ti 0]), (32, .box [Ti 0, Ti 0, Ti 0]), (24, .box [Ti f2.1, Ti f2.2.1, Ti f2.2.2]), (80000, .pbox (σ 80000) [.sl (y3.2.1.map c5), Ti y3.2.2.1, .v (.int .u64 y3.2.2.2)])]⟩), (31, ⟨.pt 80000 0 :: .bot :: .bot :: .pt 24 0 :: .pt 32 0 :: .pt 40 0 :: .ag [Ti f2.1, Ti f2.2.1, Ti f2.2.2] :: .pt 80000 0 :: .ag [Ti y3.1.1, Ti y3.1.2.1, Ti y3.1.2.2.1, Ti y3.1.2.2.2] :: .ag [Ti y4.1, Ti y4.2.1, Ti y4.2.2] :: bt 5 [], [(40, .box [Ti 0, Ti 0, Ti 0]), (32, .box [Ti 0, Ti 0, Ti 0]), (24, .box [Ti f2.1, Ti f2.2.1, Ti f2.2.2]), (80000, .pbox (σ 80000) [.sl (y3.2.1.map c5), Ti y3.2.2.1, .v (.int .u64 y3.2.2.2)])]⟩), (63, ⟨.pt 80000 0 :: .bot :: .bot :: .pt 24 0 :: .pt 32 0 :: .pt 40 0 :: .ag [Ti f2.1, Ti f2.2.1, Ti f2.2.2] :: .pt 80000 0 :: .ag [Ti y3.1.1, Ti y3.1.2.1, Ti y3.1.2.2.1, Ti y3.1.2.2.2] :: .ag [Ti y4.1, Ti y4.2.1, Ti y4.2.2] :: bt 5 [], [(40, .box [Ti y4.1, Ti y4.2.1, Ti y4.2.2]), (32, .box [Ti 0, Ti 0, Ti 0]), (24, .box [Ti f2.1, Ti f2.2.1, Ti f2.2.2]), (80000, .pbox (σ 80000) [.sl (y3.2.1.map c5), Ti y3.2.2.1, .v (.int .u64 y3.2.2.2)])]⟩)] (s1 := ⟨bt 3 (.pt 24 0 :: .pt 32 0 :: .pt 40 0 :: bt 9 []), [(40, .box [Ti y4.1, Ti y4.2.1, Ti y4.2.2]), (32, .box [Ti 0, Ti 0, Ti 0]), (24, .box [Ti f2.1, Ti f2.2.1, Ti f2.2.2]), (80000, .pbox (σ 80000) [.sl (y3.2.1.map c5), Ti y3.2.2.1, .v (.int .u64 y3.2.2.2)])]⟩) (by kernel_rfl) (by kernel_rfl) (by kernel_rfl) ?_ ?_
  ·refine tab_row [4, 1, 0] (by kernel_rfl) (by kernel_rfl) ?_ ?_
   ·refine step_cons (s2 := ⟨.pt 80000 0 :: .bot :: .bot :: .pt 24 0 :: .pt 32 0 :: .pt 40 0 :: bt 9 [], [(40, .box [Ti 0, Ti 0, Ti 0]), (32, .box [Ti 0, Ti 0, Ti 0]), (24, .box [Ti f2.1, Ti f2.2.1, Ti f2.2.2]), (80000, .pbox (σ 80000) [.sl (c1.1.map c5), Ti c1.2.1, .v (.int .u64 c1.2.2)])]⟩) rfl rfl (X_of_Y1 rfl (Y1_alloc (z := zv45) rfl zf45 rfl)) (by kernel_rfl) rfl (hE_cons (by kernel_rfl) (hE_cons (by kernel_rfl) (hE_cons (by kernel_rfl) (hE_cons (by kernel_rfl) hE_nil)))) ?_
    refine step_cons (s2 := ⟨.pt 80000 0 :: .bot :: .bot :: .pt 24 0 :: .pt 32 0 :: .bot :: .bot :: .pt 80000 0 :: bt 7 [], [(32, .box [Ti 0, Ti 0, Ti 0]), (24, .box [Ti f2.1, Ti f2.2.1, Ti f2.2.2]), (80000, .pbox (σ 80000) [.sl (c1.1.map c5), Ti c1.2.1, .v (.int .u64 c1.2.2)])]⟩) rfl rfl (X_of_Y0 rfl (E_move (.pt 80000 0) rfl (by kernel_rfl))) (by kernel_rfl) rfl (hE_cons (by kernel_rfl) (hE_cons (by kernel_rfl) (hE_cons (by kernel_rfl) hE_nil))) ?_
    refine step_cons (s2 := ⟨.pt 80000 0 :: .bot :: .bot :: .pt 24 0 :: .pt 32 0 :: .bot :: .ag [Ti f2.1, Ti f2.2.1, Ti f2.2.2] :: bt 8 [], [(32, .box [Ti 0, Ti 0, Ti 0]), (24, .box [Ti f2.1, Ti f2.2.1, Ti f2.2.2]), (80000, .pbox (σ 80000) [.sl (c1.1.map c5), Ti c1.2.1, .v (.int .u64 c1.2.2)])]⟩) rfl rfl (X_of_Y0 rfl (E_loadn (cs := [Ti f2.1, Ti f2.2.1, Ti f2.2.2]) [Ti f2.1, Ti f2.2.1, Ti f2.2.2] wd45 rfl (by kernel_rfl) (Nat.le_of_ble_eq_true rfl) (by kernel_rfl))) (by kernel_rfl) rfl (hE_cons (by kernel_rfl) (hE_cons (by kernel_rfl) (hE_cons (by kernel_rfl) hE_nil))) ?_
    exact step_nil
   refine tab_row [4, 1] (by kernel_rfl) (by kernel_rfl) ?_ ?_
   ·refine step_cons (s2 := ⟨.pt 80000 0 :: .bot :: .bot :: .pt 24 0 :: .pt 32 0 :: .pt 40 0 :: .ag [Ti f2.1, Ti f2.2.1, Ti f2.2.2] :: bt 8 [], [(40, .box [Ti 0, Ti 0, Ti 0]), (32, .box [Ti 0, Ti 0, Ti 0]), (24, .box [Ti f2.1, Ti f2.2.1, Ti f2.2.2]), (80000, .pbox (σ 80000) [.sl (c1.1.map c5), Ti c1.2.1, .v (.int .u64 c1.2.2)])]⟩) rfl rfl (X_of_Y1 rfl (Y1_alloc (z := zv45) rfl zf45 rfl)) (by kernel_rfl) rfl (hE_cons (by kernel_rfl) (hE_cons (by kernel_rfl) (hE_cons (by kernel_rfl) (hE_cons (by kernel_rfl) hE_nil)))) ?_
    refine step_cons (s2 := ⟨.pt 80000 0 :: .bot :: .bot :: .pt 24 0 :: .pt 32 0 :: .bot :: .ag [Ti f2.1, Ti f2.2.1, Ti f2.2.2] :: .pt 80000 0 :: bt 7 [], [(32, .box [Ti 0, Ti 0, Ti 0]), (24, .box [Ti f2.1, Ti f2.2.1, Ti f2.2.2]), (80000, .pbox (σ 80000) [.sl (c1.1.map c5), Ti c1.2.1, .v (.int .u64 c1.2.2)])]⟩) rfl rfl (X_of_Y0 rfl (E_move (.pt 80000 0) rfl (by kernel_rfl))) (by kernel_rfl) rfl (hE_cons (by kernel_rfl) (hE_cons (by kernel_rfl) (hE_cons (by kernel_rfl) hE_nil))) ?_
    exact step_nil
   refine tab_row [4, 2, 0] (by kernel_rfl) (by kernel_rfl) ?_ ?_
   ·refine step_cons (s2 := ⟨.pt 80000 0 :: .bot :: .bot :: .pt 24 0 :: .pt 32 0 :: .pt 40 0 :: .bot :: .pt 80000 0 :: bt 7 [], [(40, .box [Ti 0, Ti 0, Ti 0]), (32, .box [Ti 0, Ti 0, Ti 0]), (24, .box [Ti f2.1, Ti f2.2.1, Ti f2.2.2]), (80000, .pbox (σ 80000) [.sl (c1.1.map c5), Ti c1.2.1, .v (.int .u64 c1.2.2)])]⟩) rfl rfl (X_of_Y1 rfl (Y1_alloc (z := zv45) rfl zf45 rfl)) (by kernel_rfl) rfl (hE_cons (by kernel_rfl) (hE_cons (by kernel_rfl) (hE_cons (by kernel_rfl) (hE_cons (by kernel_rfl) hE_nil)))) ?_
    refine step_cons (s2 := ⟨.pt 80000 0 :: .bot :: .bot :: .pt 24 0 :: .pt 32 0 :: .bot :: .bot :: .pt 80000 0 :: .ag [Ti y3.1.1, Ti y3.1.2.1, Ti y3.1.2.2.1, Ti y3.1.2.2.2] :: bt 6 [], [(32, .box [Ti 0, Ti 0, Ti 0]), (24, .box [Ti f2.1, Ti f2.2.1, Ti f2.2.2]), (80000, .pbox (σ 80000) [.sl (y3.2.1.map c5), Ti y3.2.2.1, .v (.int .u64 y3.2.2.2)])]⟩) rfl rfl (X_callR (E' := [(32, .box [Ti 0, Ti 0, Ti 0]), (24, .box [Ti f2.1, Ti f2.2.1, Ti f2.2.2]), (80000, .pbox (σ 80000) [.sl (y3.2.1.map c5), Ti y3.2.2.1, .v (.int .u64 y3.2.2.2)])]) [(80000, 80000)] 8 (s_spec_l1Cur_proper hy3) cf_spec_l1Cur_proper rfl rfl (by kernel_rfl) rfl (mE_cons (by kernel_rfl) mE_nil) rfl (by kernel_rfl) rfl rfl (by kernel_rfl)) (by kernel_rfl) rfl (hE_cons (by kernel_rfl) (hE_cons (by kernel_rfl) (hE_cons (by kernel_rfl) hE_nil))) ?_
    refine step_cons (s2 := ⟨.pt 80000 0 :: .bot :: .bot :: .pt 24 0 :: .pt 32 0 :: .bot :: .ag [Ti f2.1, Ti f2.2.1, Ti f2.2.2] :: .pt 80000 0 :: bt 7 [], [(32, .box [Ti 0, Ti 0, Ti 0]), (24, .box [Ti f2.1, Ti f2.2.1, Ti f2.2.2]), (80000, .pbox (σ 80000) [.sl (c1.1.map c5), Ti c1.2.1, .v (.int .u64 c1.2.2)])]⟩) rfl rfl (X_of_Y0 rfl (E_loadn (cs := [Ti f2.1, Ti f2.2.1, Ti f2.2.2]) [Ti f2.1, Ti f2.2.1, Ti f2.2.2] wd45 rfl (by kernel_rfl) (Nat.le_of_ble_eq_true rfl) (by kernel_rfl))) (by kernel_rfl) rfl (hE_cons (by kernel_rfl) (hE_cons (by kernel_rfl) (hE_cons (by kernel_rfl) hE_nil))) ?_
    exact step_nil
   refine tab_row [4, 2] (by kernel_rfl) (by kernel_rfl) ?_ ?_
   ·refine step_cons (s2 := ⟨.pt 80000 0 :: .bot :: .bot :: .pt 24 0 :: .pt 32 0 :: .pt 40 0 :: .ag [Ti f2.1, Ti f2.2.1, Ti f2.2.2] :: .pt 80000 0 :: bt 7 [], [(40, .box [Ti 0, Ti 0, Ti 0]), (32, .box [Ti 0, Ti 0, Ti 0]), (24, .box [Ti f2.1, Ti f2.2.1, Ti f2.2.2]), (80000, .pbox (σ 80000) [.sl (c1.1.map c5), Ti c1.2.1, .v (.int .u64 c1.2.2)])]⟩) rfl rfl (X_of_Y1 rfl (Y1_alloc (z := zv45) rfl zf45 rfl)) (by kernel_rfl) rfl (hE_cons (by kernel_rfl) (hE_cons (by kernel_rfl) (hE_cons (by kernel_rfl) (hE_cons (by kernel_rfl) hE_nil)))) ?_
    refine step_cons (s2 := ⟨.pt 80000 0 :: .bot :: .bot :: .pt 24 0 :: .pt 32 0 :: .bot :: .ag [Ti f2.1, Ti f2.2.1, Ti f2.2.2] :: .pt 80000 0 :: .ag [Ti y3.1.1, Ti y3.1.2.1, Ti y3.1.2.2.1, Ti y3.1.2.2.2] :: bt 6 [], [(32, .box [Ti 0, Ti 0, Ti 0]), (24, .box [Ti f2.1, Ti f2.2.1, Ti f2.2.2]), (80000, .pbox (σ 80000) [.sl (y3.2.1.map c5), Ti y3.2.2.1, .v (.int .u64 y3.2.2.2)])]⟩) rfl rfl (X_callR (E' := [(32, .box [Ti 0, Ti 0, Ti 0]), (24, .box [Ti f2.1, Ti f2.2.1, Ti f2.2.2]), (80000, .pbox (σ 80000) [.sl (y3.2.1.map c5), Ti y3.2.2.1, .v (.int .u64 y3.2.2.2)])]) [(80000, 80000)] 8 (s_spec_l1Cur_proper hy3) cf_spec_l1Cur_proper rfl rfl (by kernel_rfl) rfl (mE_cons (by kernel_rfl) mE_nil) rfl (by kernel_rfl) rfl rfl (by kernel_rfl)) (by kernel_rfl) rfl (hE_cons (by kernel_rfl) (hE_cons (by kernel_rfl) (hE_cons (by kernel_rfl) hE_nil))) ?_
    exact step_nil
   refine tab_row [4, 0] (by kernel_rfl) (by kernel_rfl) ?_ ?_
   ·refine step_cons (s2 := ⟨.pt 80000 0 :: .bot :: .bot :: .pt 24 0 :: .pt 32 0 :: .pt 40 0 :: .bot :: .pt 80000 0 :: .ag [Ti y3.1.1, Ti y3.1.2.1, Ti y3.1.2.2.1, Ti y3.1.2.2.2] :: bt 6 [], [(40, .box [Ti 0, Ti 0, Ti 0]), (32, .box [Ti 0, Ti 0, Ti 0]), (24, .box [Ti f2.1, Ti f2.2.1, Ti f2.2.2]), (80000, .pbox (σ 80000) [.sl (y3.2.1.map c5), Ti y3.2.2.1, .v (.int .u64 y3.2.2.2)])]⟩) rfl rfl (X_of_Y1 rfl (Y1_alloc (z := zv45) rfl zf45 rfl)) (by kernel_rfl) rfl (hE_cons (by kernel_rfl) (hE_cons (by kernel_rfl) (hE_cons (by kernel_rfl) (hE_cons (by kernel_rfl) hE_nil)))) ?_
    refine step_cons (s2 := ⟨.pt 80000 0 :: .bot :: .bot :: .pt 24 0 :: .pt 32 0 :: .bot :: .ag [Ti f2.1, Ti f2.2.1, Ti f2.2.2] :: .pt 80000 0 :: .ag [Ti y3.1.1, Ti y3.1.2.1, Ti y3.1.2.2.1, Ti y3.1.2.2.2] :: bt 6 [], [(32, .box [Ti 0, Ti 0, Ti 0]), (24, .box [Ti f2.1, Ti f2.2.1, Ti f2.2.2]), (80000, .pbox (σ 80000) [.sl (y3.2.1.map c5), Ti y3.2.2.1, .v (.int .u64 y3.2.2.2)])]⟩) rfl rfl (X_of_Y0 rfl (E_loadn (cs := [Ti f2.1, Ti f2.2.1, Ti f2.2.2]) [Ti f2.1, Ti f2.2.1, Ti f2.2.2] wd45 rfl (by kernel_rfl) (Nat.le_of_ble_eq_true rfl) (by kernel_rfl))) (by kernel_rfl) rfl (hE_cons (by kernel_rfl) (hE_cons (by kernel_rfl) (hE_cons (by kernel_rfl) hE_nil))) ?_
    exact step_nil
   refine tab_row [4, 3] (by kernel_rfl) (by kernel_rfl) ?_ ?_
   ·refine step_cons (s2 := ⟨.pt 80000 0 :: .bot :: .bot :: .pt 24 0 :: .pt 32 0 :: .pt 40 0 :: .ag [Ti f2.1, Ti f2.2.1, Ti f2.2.2] :: .pt 80000 0 :: .ag [Ti y3.1.1, Ti y3.1.2.1, Ti y3.1.2.2.1, Ti y3.1.2.2.2] :: bt 6 [], [(40, .box [Ti 0, Ti 0, Ti 0]), (32, .box [Ti 0, Ti 0, Ti 0]), (24, .box [Ti f2.1, Ti f2.2.1, Ti f2.2.2]), (80000, .pbox (σ 80000) [.sl (y3.2.1.map c5), Ti y3.2.2.1, .v (.int .u64 y3.2.2.2)])]⟩) rfl rfl (X_of_Y1 rfl (Y1_alloc (z := zv45) rfl zf45 rfl)) (by kernel_rfl) rfl (hE_cons (by kernel_rfl) (hE_cons (by kernel_rfl) (hE_cons (by kernel_rfl) (hE_cons (by kernel_rfl) hE_nil)))) ?_
    refine step_cons (s2 := ⟨.pt 80000 0 :: .bot :: .bot :: .pt 24 0 :: .pt 32 0 :: .bot :: .ag [Ti f2.1, Ti f2.2.1, Ti f2.2.2] :: .pt 80000 0 :: .ag [Ti y3.1.1, Ti y3.1.2.1, Ti y3.1.2.2.1, Ti y3.1.2.2.2] :: .ag [Ti y4.1, Ti y4.2.1, Ti y4.2.2] :: bt 5 [], [(32, .box [Ti 0, Ti 0, Ti 0]), (24, .box [Ti f2.1, Ti f2.2.1, Ti f2.2.2]), (80000, .pbox (σ 80000) [.sl (y3.2.1.map c5), Ti y3.2.2.1, .v (.int .u64 y3.2.2.2)])]⟩) rfl rfl (X_of_Y1 rfl (Y1_call (s_spec_foAct hy4) cf_spec_foAct rfl (by kernel_rfl))) (by kernel_rfl) rfl (hE_cons (by kernel_rfl) (hE_cons (by kernel_rfl) (hE_cons (by kernel_rfl) hE_nil))) ?_
    exact step_nil
   refine tab_row [4] (by kernel_rfl) (by kernel_rfl) ?_ ?_
   ·refine step_cons (s2 := ⟨.pt 80000 0 :: .bot :: .bot :: .pt 24 0 :: .pt 32 0 :: .pt 40 0 :: .ag [Ti f2.1, Ti f2.2.1, Ti f2.2.2] :: .pt 80000 0 :: .ag [Ti y3.1.1, Ti y3.1.2.1, Ti y3.1.2.2.1, Ti y3.1.2.2.2] :: .ag [Ti y4.1, Ti y4.2.1, Ti y4.2.2] :: bt 5 [], [(40, .box [Ti 0, Ti 0, Ti 0]), (32, .box [Ti 0, Ti 0, Ti 0]), (24, .box [Ti f2.1, Ti f2.2.1, Ti f2.2.2]), (80000, .pbox (σ 80000) [.sl (y3.2.1.map c5), Ti y3.2.2.1, .v (.int .u64 y3.2.2.2)])]⟩) rfl rfl (X_of_Y1 rfl (Y1_alloc (z := zv45) rfl zf45 rfl)) (by kernel_rfl) rfl (hE_cons (by kernel_rfl) (hE_cons (by kernel_rfl) (hE_cons (by kernel_rfl) (hE_cons (by kernel_rfl) hE_nil)))) ?_
    exact step_nil
   refine tab_row [1, 0] (by kernel_rfl) (by kernel_rfl) ?_ ?_
   ·refine step_cons (s2 := ⟨.pt 80000 0 :: .bot :: .bot :: .pt 24 0 :: .pt 32 0 :: .pt 40 0 :: .bot :: .pt 80000 0 :: bt 7 [], [(40, .box [Ti 0, Ti 0, Ti 0]), (32, .box [Ti 0, Ti 0, Ti 0]), (24, .box [Ti f2.1, Ti f2.2.1, Ti f2.2.2]), (80000, .pbox (σ 80000) [.sl (c1.1.map c5), Ti c1.2.1, .v (.int .u64 c1.2.2)])]⟩) rfl rfl (X_of_Y0 rfl (E_move (.pt 80000 0) rfl (by kernel_rfl))) (by kernel_rfl) rfl (hE_cons (by kernel_rfl) (hE_cons (by kernel_rfl) (hE_cons (by kernel_rfl) (hE_cons (by kernel_rfl) hE_nil)))) ?_
    refine step_cons (s2 := ⟨.pt 80000 0 :: .bot :: .bot :: .pt 24 0 :: .pt 32 0 :: .pt 40 0 :: .ag [Ti f2.1, Ti f2.2.1, Ti f2.2.2] :: bt 8 [], [(40, .box [Ti 0, Ti 0, Ti 0]), (32, .box [Ti 0, Ti 0, Ti 0]), (24, .box [Ti f2.1, Ti f2.2.1, Ti f2.2.2]), (80000, .pbox (σ 80000) [.sl (c1.1.map c5), Ti c1.2.1, .v (.int .u64 c1.2.2)])]⟩) rfl rfl (X_of_Y0 rfl (E_loadn (cs := [Ti f2.1, Ti f2.2.1, Ti f2.2.2]) [Ti f2.1, Ti f2.2.1, Ti f2.2.2] wd45 rfl (by kernel_rfl) (Nat.le_of_ble_eq_true rfl) (by kernel_rfl))) (by kernel_rfl) rfl (hE_cons (by kernel_rfl) (hE_cons (by kernel_rfl) (hE_cons (by kernel_rfl) (hE_cons (by kernel_rfl) hE_nil)))) ?_
    exact step_nil
   refine tab_row [1] (by kernel_rfl) (by kernel_rfl) ?_ ?_
   ·refine step_cons (s2 := ⟨.pt 80000 0 :: .bot :: .bot :: .pt 24 0 :: .pt 32 0 :: .pt 40 0 :: .ag [Ti f2.1, Ti f2.2.1, Ti f2.2.2] :: .pt 80000 0 :: bt 7 [], [(40, .box [Ti 0, Ti 0, Ti 0]), (32, .box [Ti 0, Ti 0, Ti 0]), (24, .box [Ti f2.1, Ti f2.2.1, Ti f2.2.2]), (80000, .pbox (σ 80000) [.sl (c1.1.map c5), Ti c1.2.1, .v (.int .u64 c1.2.2)])]⟩) rfl rfl (X_of_Y0 rfl (E_move (.pt 80000 0) rfl (by kernel_rfl))) (by kernel_rfl) rfl (hE_cons (by kernel_rfl) (hE_cons (by kernel_rfl) (hE_cons (by kernel_rfl) (hE_cons (by kernel_rfl) hE_nil)))) ?_
    exact step_nil
   refine tab_row [2, 0] (by kernel_rfl) (by kernel_rfl) ?_ ?_
   ·refine step_cons (s2 := ⟨.pt 80000 0 :: .bot :: .bot :: .pt 24 0 :: .pt 32 0 :: .pt 40 0 :: .bot :: .pt 80000 0 :: .ag [Ti y3.1.1, Ti y3.1.2.1, Ti y3.1.2.2.1, Ti y3.1.2.2.2] :: bt 6 [], [(40, .box [Ti 0, Ti 0, Ti 0]), (32, .box [Ti 0, Ti 0, Ti 0]), (24, .box [Ti f2.1, Ti f2.2.1, Ti f2.2.2]), (80000, .pbox (σ 80000) [.sl (y3.2.1.map c5), Ti y3.2.2.1, .v (.int .u64 y3.2.2.2)])]⟩) rfl rfl (X_callR (E' := [(40, .box [Ti 0, Ti 0, Ti 0]), (32, .box [Ti 0, Ti 0, Ti 0]), (24, .box [Ti f2.1, Ti f2.2.1, Ti f2.2.2]), (80000, .pbox (σ 80000) [.sl (y3.2.1.map c5), Ti y3.2.2.1, .v (.int .u64 y3.2.2.2)])]) [(80000, 80000)] 8 (s_spec_l1Cur_proper hy3) cf_spec_l1Cur_proper rfl rfl (by kernel_rfl) rfl (mE_cons (by kernel_rfl) mE_nil) rfl (by kernel_rfl) rfl rfl (by kernel_rfl)) (by kernel_rfl) rfl (hE_cons (by kernel_rfl) (hE_cons (by kernel_rfl) (hE_cons (by kernel_rfl) (hE_cons (by kernel_rfl) hE_nil)))) ?_
    refine step_cons (s2 := ⟨.pt 80000 0 :: .bot :: .bot :: .pt 24 0 :: .pt 32 0 :: .pt 40 0 :: .ag [Ti f2.1, Ti f2.2.1, Ti f2.2.2] :: .pt 80000 0 :: bt 7 [], [(40, .box [Ti 0, Ti 0, Ti 0]), (32, .box [Ti 0, Ti 0, Ti 0]), (24, .box [Ti f2.1, Ti f2.2.1, Ti f2.2.2]), (80000, .pbox (σ 80000) [.sl (c1.1.map c5), Ti c1.2.1, .v (.int .u64 c1.2.2)])]⟩) rfl rfl (X_of_Y0 rfl (E_loadn (cs := [Ti f2.1, Ti f2.2.1, Ti f2.2.2]) [Ti f2.1, Ti f2.2.1, Ti f2.2.2] wd45 rfl (by kernel_rfl) (Nat.le_of_ble_eq_true rfl) (by kernel_rfl))) (by kernel_rfl) rfl (hE_cons (by kernel_rfl) (hE_cons (by kernel_rfl) (hE_cons (by kernel_rfl) (hE_cons (by kernel_rfl) hE_nil)))) ?_
    exact step_nil
   refine tab_row [2] (by kernel_rfl) (by kernel_rfl) ?_ ?_
   ·refine step_cons (s2 := ⟨.pt 80000 0 :: .bot :: .bot :: .pt 24 0 :: .pt 32 0 :: .pt 40 0 :: .ag [Ti f2.1, Ti f2.2.1, Ti f2.2.2] :: .pt 80000 0 :: .ag [Ti y3.1.1, Ti y3.1.2.1, Ti y3.1.2.2.1, Ti y3.1.2.2.2] :: bt 6 [], [(40, .box [Ti 0, Ti 0, Ti 0]), (32, .box [Ti 0, Ti 0, Ti 0]), (24, .box [Ti f2.1, Ti f2.2.1, Ti f2.2.2]), (80000, .pbox (σ 80000) [.sl (y3.2.1.map c5), Ti y3.2.2.1, .v (.int .u64 y3.2.2.2)])]⟩) rfl rfl (X_callR (E' := [(40, .box [Ti 0, Ti 0, Ti 0]), (32, .box [Ti 0, Ti 0, Ti 0]), (24, .box [Ti f2.1, Ti f2.2.1, Ti f2.2.2]), (80000, .pbox (σ 80000) [.sl (y3.2.1.map c5), Ti y3.2.2.1, .v (.int .u64 y3.2.2.2)])]) [(80000, 80000)] 8 (s_spec_l1Cur_proper hy3) cf_spec_l1Cur_proper rfl rfl (by kernel_rfl) rfl (mE_cons (by kernel_rfl) mE_nil) rfl (by kernel_rfl) rfl rfl (by kernel_rfl)) (by kernel_rfl) rfl (hE_cons (by kernel_rfl) (hE_cons (by kernel_rfl) (hE_cons (by kernel_rfl) (hE_cons (by kernel_rfl) hE_nil)))) ?_
    exact step_nil
   refine tab_row [0] (by kernel_rfl) (by kernel_rfl) ?_ ?_
   ·refine step_cons (s2 := ⟨.pt 80000 0 :: .bot :: .bot :: .pt 24 0 :: .pt 32 0 :: .pt 40 0 :: .ag [Ti f2.1, Ti f2.2.1, Ti f2.2.2] :: .pt 80000 0 :: .ag [Ti y3.1.1, Ti y3.1.2.1, Ti y3.1.2.2.1, Ti y3.1.2.2.2] :: bt 6 [], [(40, .box [Ti 0, Ti 0, Ti 0]), (32, .box [Ti 0, Ti 0, Ti 0]), (24, .box [Ti f2.1, Ti f2.2.1, Ti f2.2.2]), (80000, .pbox (σ 80000) [.sl (y3.2.1.map c5), Ti y3.2.2.1, .v (.int .u64 y3.2.2.2)])]⟩) rfl rfl (X_of_Y0 rfl (E_loadn (cs := [Ti f2.1, Ti f2.2.1, Ti f2.2.2]) [Ti f2.1, Ti f2.2.1, Ti f2.2.2] wd45 rfl (by kernel_rfl) (Nat.le_of_ble_eq_true rfl) (by kernel_rfl))) (by kernel_rfl) rfl (hE_cons (by kernel_rfl) (hE_cons (by kernel_rfl) (hE_cons (by kernel_rfl) (hE_cons (by kernel_rfl) hE_nil)))) ?_
    exact step_nil
   refine tab_row [3] (by kernel_rfl) (by kernel_rfl) ?_ ?_
   ·refine step_cons (s2 := ⟨.pt 80000 0 :: .bot :: .bot :: .pt 24 0 :: .pt 32 0 :: .pt 40 0 :: .ag [Ti f2.1, Ti f2.2.1, Ti f2.2.2] :: .pt 80000 0 :: .ag [Ti y3.1.1, Ti y3.1.2.1, Ti y3.1.2.2.1, Ti y3.1.2.2.2] :: .ag [Ti y4.1, Ti y4.2.1, Ti y4.2.2] :: bt 5 [], [(40, .box [Ti 0, Ti 0, Ti 0]), (32, .box [Ti 0, Ti 0, Ti 0]), (24, .box [Ti f2.1, Ti f2.2.1, Ti f2.2.2]), (80000, .pbox (σ 80000) [.sl (y3.2.1.map c5), Ti y3.2.2.1, .v (.int .u64 y3.2.2.2)])]⟩) rfl rfl (X_of_Y1 rfl (Y1_call (s_spec_foAct hy4) cf_spec_foAct rfl (by kernel_rfl))) (by kernel_rfl) rfl (hE_cons (by kernel_rfl) (hE_cons (by kernel_rfl) (hE_cons (by kernel_rfl) (hE_cons (by kernel_rfl) hE_nil)))) ?_
    exact step_nil
   refine tab_row [5] (by kernel_rfl) (by kernel_rfl) ?_ ?_
   ·refine step_cons (s2 := ⟨.pt 80000 0 :: .bot :: .bot :: .pt 24 0 :: .pt 32 0 :: .pt 40 0 :: .ag [Ti f2.1, Ti f2.2.1, Ti f2.2.2] :: .pt 80000 0 :: .ag [Ti y3.1.1, Ti y3.1.2.1, Ti y3.1.2.2.1, Ti y3.1.2.2.2] :: .ag [Ti y4.1, Ti y4.2.1, Ti y4.2.2] :: bt 5 [], [(40, .box [Ti y4.1, Ti y4.2.1, Ti y4.2.2]), (32, .box [Ti 0, Ti 0, Ti 0]), (24, .box [Ti f2.1, Ti f2.2.1, Ti f2.2.2]), (80000, .pbox (σ 80000) [.sl (y3.2.1.map c5), Ti y3.2.2.1, .v (.int .u64 y3.2.2.2)])]⟩) rfl rfl (E_store (id := 40) (off := 0) (cs := [Ti 0, Ti 0, Ti 0]) (vc := [Ti y4.1, Ti y4.2.1, Ti y4.2.2]) [Ti y4.1, Ti y4.2.1, Ti y4.2.2] rfl rfl (by kernel_rfl) (by kernel_rfl) (by kernel_rfl) sz45 (Nat.le_of_ble_eq_true rfl) (by kernel_rfl)) (by kernel_rfl) rfl (hE_cons (by kernel_rfl) (hE_cons (by kernel_rfl) (hE_cons (by kernel_rfl) (hE_cons (by kernel_rfl) hE_nil)))) ?_
    exact step_nil
   refine tab_last (by kernel_rfl) ?_ tab_nil
   kernel_rfl
  refine V_seq ?_
  obtain ⟨y5, hy5, h⟩ := of_bind h
  refine V_sreg (mb 15 4152) [40, 32, 24, 80000] (s1 := ⟨bt 3 (.pt 24 0 :: .pt 32 0 :: .pt 40 0 :: bt 6 (Bo (!y5) :: .bot :: .bot :: [])), [(40, .box [Ti y4.1, Ti y4.2.1, Ti y4.2.2]), (32, .box [Ti 0, Ti 0, Ti 0]), (24, .box [Ti f2.1, Ti f2.2.1, Ti f2.2.2]), (80000, .pbox (σ 80000) [.sl (y3.2.1.map c5), Ti y3.2.2.1, .v (.int .u64 y3.2.2.2)])]⟩) ?_ ?_
  ·refine XR 1 ?_
   refine XC (s_spec_foGood hy5) cf_spec_foGood rfl rfl rfl ?_
   exact XE
  refine V_cond rfl (fun hc6 => ?_) (fun hc6 => ?_)
  ·have h := of_true h hc6
   refine V_e (mb 15 16) [32, 80000] (s1 := ⟨bt 4 (.pt 32 0 :: bt 10 []), [(32, .box [Ti f2.1, Ti f2.2.1, Ti f2.2.2]), (80000, .pbox (σ 80000) [.sl (y3.2.1.map c5), Ti y3.2.2.1, .v (.int .u64 y3.2.2.2)])]⟩) ?_
   refine V_ret ?_
   obtain rfl := some_inj h
   show PostR _ _ _ _ _ _
   exact ⟨⟨.inr rfl, rfl, rfl, rfl⟩, ⟨rfl, trivial⟩⟩
  ·have h := of_false h hc6
   refine V_skip ?_
   show V _ _ _ _
   refine V_e (mb 15 16) [32, 80000] (s1 := ⟨bt 4 (.pt 32 0 :: bt 10 []), [(32, .box [Ti y4.1, Ti y4.2.1, Ti y4.2.2]), (80000, .pbox (σ 80000) [.sl (y3.2.1.map c5), Ti y3.2.2.1, .v (.int .u64 y3.2.2.2)])]⟩) ?_
   refine V_ret ?_
   obtain rfl := some_inj h
   show PostR _ _ _ _ _ _
   exact ⟨⟨.inr rfl, rfl, rfl, rfl⟩, ⟨rfl, trivial⟩⟩
theorem cf_spec_l1Cur_indefinite : ∀ args w, (callFunc 114 args).run Try.prog w = .ok (.enter 114 args) w := run_callFunc Try.func114 (by kernel_rfl) (by kernel_rfl)
theorem s_spec_l1Cur_indefinite {c1 : ((List Int) × Int × Int)} {r : (((Int × Int × Int)) × (((List Int) × Int × Int)))} (h : r_spec_l1Cur_indefinite c1 = some r) : CallR Try.prog 114 [.pt 80000 0] [(80000, .box [.sl (c1.1.map c5), Ti c1.2.1, .v (.int .u64 c1.2.2)])] (.ag [Ti r.1.1, Ti r.1.2.1, Ti r.1.2.2]) [] [(80000, .box [.sl (r.2.1.map c5), Ti r.2.2.1, .v (.int .u64 r.2.2.2)])] := by
  refine CallR_of_text (rs := [.w 2 3]) (vs := [.cell 2 45]) Try.func114 rfl rfl (.cons ⟨rfl, wd45⟩ FitsL.nil) (by decide) 35 rfl rfl fun σ => ?_
  unfold r_spec_l1Cur_indefinite at h
  show V _ _ ⟨.pt 80000 0 :: bt 34 [], [(80000, .pbox (σ 80000) [.sl (c1.1.map c5), Ti c1.2.1, .v (.int .u64 c1.2.2)])]⟩ _
  refine V_e (mb 35 5) [16, 80000] (s1 := ⟨.pt 80000 0 :: .bot :: .pt 16 0 :: bt 32 [], [(16, .box [Ti 0, Ti 0, Ti 0]), (80000, .pbox (σ 80000) [.sl (c1.1.map c5), Ti c1.2.1, .v (.int .u64 c1.2.2)])]⟩) ?_
  refine V_seq ?_
  obtain ⟨y2, hy2, h⟩ := of_bind h
  refine V_sreg (mb 35 37) [16, 80000] (s1 := ⟨.pt 80000 0 :: .bot :: .pt 16 0 :: .bot :: .bot :: Bo y2.1 :: bt 29 [], [(16, .box [Ti 0, Ti 0, Ti 0]), (80000, .pbox (σ 80000) [.sl (y2.2.1.map c5), Ti y2.2.2.1, .v (.int .u64 y2.2.2.2)])]⟩) ?_ ?_
  ·refine XR 1 ?_
   refine XL_cons rfl (X_callR (E' := [(16, .box [Ti 0, Ti 0, Ti 0]), (80000, .pbox (σ 80000) [.sl (y2.2.1.map c5), Ti y2.2.2.1, .v (.int .u64 y2.2.2.2)])]) [(80000, 80000)] 5 (s_spec_l1Cur_one hy2) cf_spec_l1Cur_one rfl rfl (by kernel_rfl) rfl (mE_cons (by kernel_rfl) mE_nil) rfl (by kernel_rfl) rfl rfl (by kernel_rfl)) ?_
   exact XE
  refine V_cond rfl (fun hc3 => ?_) (fun hc3 => ?_)
  ·have h := of_true h hc3
   obtain ⟨y4, hy4, h⟩ := of_bind h
   refine V_sreg (mb 35 4) [16, 80000] (s1 := ⟨.bot :: .bot :: .pt 16 0 :: bt 32 [], [(16, .box [Ti y4.1.1, Ti y4.1.2.1, Ti y4.1.2.2]), (80000, .pbox (σ 80000) [.sl (y4.2.1.map c5), Ti y4.2.2.1, .v (.int .u64 y4.2.2.2)])]⟩) ?_ ?_
   ·refine XR 1 ?_
    refine XL_cons rfl (X_callR (E' := [(16, .box [Ti 0, Ti 0, Ti 0]), (80000, .pbox (σ 80000) [.sl (y4.2.1.map c5), Ti y4.2.2.1, .v (.int .u64 y4.2.2.2)])]) [(80000, 80000)] 7 (s_spec_l1Cur_form hy4) cf_spec_l1Cur_form rfl rfl (by kernel_rfl) rfl (mE_cons (by kernel_rfl) mE_nil) rfl (by kernel_rfl) rfl rfl (by kernel_rfl)) ?_
    exact XE
   refine V_ret ?_
   obtain rfl := some_inj h
   show PostR _ _ _ _ _ _
   exact ⟨⟨.inr rfl, rfl, rfl, rfl⟩, ⟨rfl, trivial⟩⟩
  ·have h := of_false h hc3
   refine V_skip ?_
   show V _ _ _ _
   obtain ⟨y5, hy5, h⟩ := of_bind h
   obtain ⟨y6, hy6, h⟩ := of_bind h
   refine V_sreg (mb 35 13) [24, 16, 80000] (s1 := ⟨.pt 80000 0 :: .bot :: .pt 16 0 :: .pt 24 0 :: bt 31 [], [(24, .box [Ti y6.1.1, Ti y6.1.2.1, Ti y6.1.2.2]), (16, .box [Ti 0, Ti 0, Ti 0]), (80000, .pbox (σ 80000) [.sl (y6.2.1.map c5), Ti y6.2.2.1, .v (.int .u64 y6.2.2.2)])]⟩) ?_ ?_
   ·refine XR 2 ?_
    refine XL_cons rfl (X_callR (E' := [(16, .box [Ti 0, Ti 0, Ti 0]), (80000, .pbox (σ 80000) [.sl (y5.2.1.map c5), Ti y5.2.2.1, .v (.int .u64 y5.2.2.2)])]) [(80000, 80000)] 10 (s_spec_l1Cur_goodPositive hy5) cf_spec_l1Cur_goodPositive rfl rfl (by kernel_rfl) rfl (mE_cons (by kernel_rfl) mE_nil) rfl (by kernel_rfl) rfl rfl (by kernel_rfl)) ?_
    refine XL_cons rfl (X_callR (E' := [(16, .box [Ti 0, Ti 0, Ti 0]), (80000, .pbox (σ 80000) [.sl (y6.2.1.map c5), Ti y6.2.2.1, .v (.int .u64 y6.2.2.2)])]) [(80000, 80000)] 11 (s_spec_l1Cur_cyclic hy6) cf_spec_l1Cur_cyclic rfl rfl (by kernel_rfl) rfl (mE_cons (by kernel_rfl) mE_nil) rfl (by kernel_rfl) rfl rfl (by kernel_rfl)) ?_
    exact XE
   obtain ⟨j7, hj7, h⟩ := of_bind h
   refine V_cutK (mb 35 13) [24, 16, 80000] (s1 := ⟨.pt 80000 0 :: .bot :: .pt 16 0 :: .pt 24 0 :: bt 31 [], [(24, .box [Ti j7.1, Ti j7.2.1, Ti j7.2.2.1]), (16, .box [Ti 0, Ti 0, Ti 0]), (80000, .pbox (σ 80000) [.sl (j7.2.2.2.1.map c5), Ti j7.2.2.2.2.1, .v (.int .u64 j7.2.2.2.2.2)])]⟩) ?_ ?_
   ·clear h
    have h := hj7
    clear hj7
    obtain ⟨y8, hy8, h⟩ := of_bind h
    obtain ⟨b11, hb11, h⟩ := of_bind h
    refine V_sreg (mb 35 262157) [24, 16, 80000] (s1 := ⟨.pt 80000 0 :: .bot :: .pt 16 0 :: .pt 24 0 :: bt 14 (Bo b11 :: bt 16 []), [(24, .box [Ti y6.1.1, Ti y6.1.2.1, Ti y6.1.2.2]), (16, .box [Ti 0, Ti 0, Ti 0]), (80000, .pbox (σ 80000) [.sl (y8.2.1.map c5), Ti y8.2.2.1, .v (.int .u64 y8.2.2.2)])]⟩) ?_ ?_
    ·refine XR 1 ?_
     refine XL_cons rfl (X_callR (E' := [(24, .box [Ti y6.1.1, Ti y6.1.2.1, Ti y6.1.2.2]), (16, .box [Ti 0, Ti 0, Ti 0]), (80000, .pbox (σ 80000) [.sl (y8.2.1.map c5), Ti y8.2.2.1, .v (.int .u64 y8.2.2.2)])]) [(80000, 80000)] 13 (s_spec_l1Cur_one hy8) cf_spec_l1Cur_one rfl rfl (by kernel_rfl) rfl (mE_cons (by kernel_rfl) mE_nil) rfl (by kernel_rfl) rfl rfl (by kernel_rfl)) ?_
     refine XR 1 ?_
     refine XL_split y8.1 (fun hc9 => ?_) (fun hc9 => ?_)
     ·have hb11 := of_true hb11 hc9
      obtain ⟨y10, hy10, hb11⟩ := of_bind hb11
      have hb11 := some_inj hb11
      refine XL_takeC _ rfl rfl (by kernel_rfl) hc9 (X_of_Y0 rfl (E_loadn (cs := [Ti y6.1.1, Ti y6.1.2.1, Ti y6.1.2.2]) [Ti y6.1.1, Ti y6.1.2.1, Ti y6.1.2.2] wd45 rfl (by kernel_rfl) (Nat.le_of_ble_eq_true rfl) (by kernel_rfl))) ?_
      refine XL_takeC _ rfl rfl (by kernel_rfl) hc9 (X_of_Y1 rfl (Y1_call (s_spec_foDisc hy10) cf_spec_foDisc rfl (by kernel_rfl))) ?_
      refine XL_takeC _ rfl rfl (by kernel_rfl) hc9 (X_of_Y0 rfl (Y0_ltw (k := .i64) (a := y10) (b := 100) rfl (by kernel_rfl) (by kernel_rfl))) ?_
      refine XL_cons rfl (X_of_Y0 rfl (Y0_pickTe (b := y8.1) (p := ltI y10 100) rfl (by kernel_rfl) hc9 (by kernel_rfl) hb11)) ?_
      exact XE
     ·have hb11 := some_inj (of_false hb11 hc9)
      refine XL_skipT _ rfl rfl (by kernel_rfl) hc9 rfl ?_
      refine XL_skipT _ rfl rfl (by kernel_rfl) hc9 rfl ?_
      refine XL_skipT _ rfl rfl (by kernel_rfl) hc9 rfl ?_
      refine XL_cons rfl (X_of_Y0 rfl (Y0_pickFe (b := y8.1) (p := false) rfl (by kernel_rfl) hc9 (by kernel_rfl) hb11)) ?_
      exact XE
    refine V_cond rfl (fun hc12 => ?_) (fun hc12 => ?_)
    ·have h := of_true h hc12
     obtain ⟨f13, hf13, h⟩ := of_sI h
     obtain ⟨f14, hf14, h⟩ := of_sI h
     obtain ⟨f15, hf15, h⟩ := of_sI h
     refine V_reg (mb 35 13) [24, 16, 80000] (s1 := ⟨.pt 80000 0 :: .bot :: .pt 16 0 :: .pt 24 0 :: bt 31 [], [(24, .box [Ti f13, Ti f14, Ti f15]), (16, .box [Ti 0, Ti 0, Ti 0]), (80000, .pbox (σ 80000) [.sl (y8.2.1.map c5), Ti y8.2.2.1, .v (.int .u64 y8.2.2.2)])]⟩) ?_ ?_
     ·refine XR 9 ?_
      refine L0 rfl rfl (Y0_build (cs := [Ti (w64 (3 * y6.1.1)), Ti (w64 (3 * y6.1.2.1)), Ti (w64 (3 * y6.1.2.2))]) pl45 bt45 rfl rfl (by kernel_rfl)) ?_
      refine XR 1 ?_
      refine XL_nil ?_
      subst hf13 hf14 hf15
      kernel_rfl
     obtain rfl := some_inj h
     show St.keep _ _ _ = _
     rfl
    ·have h := of_false h hc12
     refine V_skip ?_
     obtain rfl := some_inj h
     show St.keep _ _ _ = _
     rfl
   refine V_seq ?_
   obtain ⟨y16, hy16, h⟩ := of_bind h
   refine V_sreg (mb 35 1073741837) [24, 16, 80000] (s1 := ⟨.pt 80000 0 :: .bot :: .pt 16 0 :: .pt 24 0 :: bt 26 (Bo y16.1 :: bt 4 []), [(24, .box [Ti j7.1, Ti j7.2.1, Ti j7.2.2.1]), (16, .box [Ti 0, Ti 0, Ti 0]), (80000, .pbox (σ 80000) [.sl (y16.2.1.map c5), Ti y16.2.2.1, .v (.int .u64 y16.2.2.2)])]⟩) ?_ ?_
   ·refine XR 1 ?_
    refine XL_cons rfl (X_callR (E' := [(24, .box [Ti j7.1, Ti j7.2.1, Ti j7.2.2.1]), (16, .box [Ti 0, Ti 0, Ti 0]), (80000, .pbox (σ 80000) [.sl (y16.2.1.map c5), Ti y16.2.2.1, .v (.int .u64 y16.2.2.2)])]) [(80000, 80000)] 30 (s_spec_l1Cur_one hy16) cf_spec_l1Cur_one rfl rfl (by kernel_rfl) rfl (mE_cons (by kernel_rfl) mE_nil) rfl (by kernel_rfl) rfl rfl (by kernel_rfl)) ?_
    exact XE
   refine V_cond rfl (fun hc17 => ?_) (fun hc17 => ?_)
   ·have h := of_true h hc17
    refine V_e (mb 35 4) [16, 80000] (s1 := ⟨.bot :: .bot :: .pt 16 0 :: bt 32 [], [(16, .box [Ti j7.1, Ti j7.2.1, Ti j7.2.2.1]), (80000, .pbox (σ 80000) [.sl (y16.2.1.map c5), Ti y16.2.2.1, .v (.int .u64 y16.2.2.2)])]⟩) ?_
    refine V_ret ?_
    obtain rfl := some_inj h
    show PostR _ _ _ _ _ _
    exact ⟨⟨.inr rfl, rfl, rfl, rfl⟩, ⟨rfl, trivial⟩⟩
   ·have h := of_false h hc17
    refine V_skip ?_
    show V _ _ _ _
    obtain ⟨y18, hy18, h⟩ := of_bind h
    refine V_sreg (mb 35 4) [16, 80000] (s1 := ⟨.bot :: .bot :: .pt 16 0 :: bt 32 [], [(16, .box [Ti y18.1.1, Ti y18.1.2.1, Ti y18.1.2.2]), (80000, .pbox (σ 80000) [.sl (y18.2.1.map c5), Ti y18.2.2.1, .v (.int .u64 y18.2.2.2)])]⟩) ?_ ?_
    ·refine XR 2 ?_
     refine XL_cons rfl (X_callR (E' := [(24, .box [Ti j7.1, Ti j7.2.1, Ti j7.2.2.1]), (16, .box [Ti 0, Ti 0, Ti 0]), (80000, .pbox (σ 80000) [.sl (y18.2.1.map c5), Ti y18.2.2.1, .v (.int .u64 y18.2.2.2)])]) [(80000, 80000)] 34 (s_spec_l1Cur_moved hy18) cf_spec_l1Cur_moved rfl rfl (by kernel_rfl) rfl (mE_cons (by kernel_rfl) mE_nil) rfl (by kernel_rfl) rfl rfl (by kernel_rfl)) ?_
     exact XE
    refine V_ret ?_
    obtain rfl := some_inj h
    show PostR _ _ _ _ _ _
    exact ⟨⟨.inr rfl, rfl, rfl, rfl⟩, ⟨rfl, trivial⟩⟩
theorem cf_spec_cyGood : ∀ args w, (callFunc 117 args).run Try.prog w = .ok (.enter 117 args) w := run_callFunc Try.func117 (by kernel_rfl) (by kernel_rfl)
theorem s_spec_cyGood {f1 : (Int × Int × Int)} {r : Bool} (h : r_spec_cyGood f1 = some r) : CallS Try.prog 117 [.ag [Ti f1.1, Ti f1.2.1, Ti f1.2.2]] (Bo r) [] := by
  refine CallS_of_text (rs := [.t 2]) (vs := [.tmp 2]) Try.func117 rfl rfl (.cons rfl FitsL.nil) (by decide) 10 rfl ?_
  unfold r_spec_cyGood at h
  show V _ _ ⟨.ag [Ti f1.1, Ti f1.2.1, Ti f1.2.2] :: bt 9 [], []⟩ _
  refine V_e (mb 10 2) [8] (s1 := ⟨.bot :: .pt 8 0 :: bt 8 [], [(8, .box [Ti f1.1, Ti f1.2.1, Ti f1.2.2])]⟩) ?_
  obtain ⟨y2, hy2, h⟩ := of_bind h
  obtain ⟨b6, hb6, h⟩ := of_bind h
  refine V_sreg (mb 10 4) [] (s1 := ⟨.bot :: .bot :: Bo b6 :: bt 7 [], []⟩) ?_ ?_
  ·refine XR 1 ?_
   refine XC (s_spec_foGood hy2) cf_spec_foGood rfl rfl rfl ?_
   refine XR 1 ?_
   refine XL_split y2 (fun hc3 => ?_) (fun hc3 => ?_)
   ·have hb6 := of_true hb6 hc3
    obtain ⟨y4, hy4, hb6⟩ := of_bind hb6
    obtain ⟨y5, hy5, hb6⟩ := of_bind hb6
    have hb6 := some_inj hb6
    refine XL_takeC _ rfl rfl (by kernel_rfl) hc3 (X_of_Y0 rfl (E_loadn (cs := [Ti f1.1, Ti f1.2.1, Ti f1.2.2]) [Ti f1.1, Ti f1.2.1, Ti f1.2.2] wd45 rfl (by kernel_rfl) (Nat.le_of_ble_eq_true rfl) (by kernel_rfl))) ?_
    refine XL_takeC _ rfl rfl (by kernel_rfl) hc3 (X_of_Y1 rfl (Y1_call (s_spec_foDisc hy4) cf_spec_foDisc rfl (by kernel_rfl))) ?_
    refine XL_takeC _ rfl rfl (by kernel_rfl) hc3 (X_of_Y1 rfl (Y1_call (s_spec_cyDisc hy5) cf_spec_cyDisc rfl (by kernel_rfl))) ?_
    refine XL_cons rfl (X_of_Y0 rfl (Y0_pickTe (b := y2) (p := y5) rfl (by kernel_rfl) hc3 (by kernel_rfl) hb6)) ?_
    exact XE
   ·have hb6 := some_inj (of_false hb6 hc3)
    refine XL_skipT _ rfl rfl (by kernel_rfl) hc3 rfl ?_
    refine XL_skipT _ rfl rfl (by kernel_rfl) hc3 rfl ?_
    refine XL_skipT _ rfl rfl (by kernel_rfl) hc3 rfl ?_
    refine XL_cons rfl (X_of_Y0 rfl (Y0_pickFe (b := y2) (p := false) rfl (by kernel_rfl) hc3 (by kernel_rfl) hb6)) ?_
    exact XE
  refine V_ret ?_
  obtain rfl := some_inj h
  show Post _ _ _ _ _
  exact ⟨.inr rfl, rfl, rfl, rfl⟩
end Go.Proofs.Ytgeajejmikaniaa
