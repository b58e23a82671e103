/-
  The functions of the program compute what the plain functions say.
  Conditions: none.
-/
import Derived.Test.YtafomkclmkfjeaaGreatShEx
import Derived.Test.YtafomkclmkfjeaaGreatIsRaw
import Derived.Test.YtafomkclmkfjeaaGreatRows
namespace Go.Proofs.YtafomkclmkfjeaaGreat
open Go.RowKit
set_option linter.unusedVariables false
set_option linter.unusedSimpArgs false
set_option maxRecDepth 100000
set_option maxHeartbeats 400000
def c5 (x : Int) : List Tr := [.v (.int .u8 x)]
def c3 (x : Int) : List Tr := [Ti x]
def c25 (x : (Int × Int × Int)) : List Tr := [Ti x.1, Ti x.2.1, Ti x.2.2]
def c31 (x : (Int × Int × Int × Int)) : List Tr := [Ti x.1, Ti x.2.1, Ti x.2.2.1, Ti x.2.2.2]
def c62 (x : (Int × Int × Int)) : List Tr := [Ti x.1, Ti x.2.1, Ti x.2.2]
def zv3 : Value := .int .i64 0
theorem zf3 : (Tryz.prog.info? 3).bind (·.zero) = some zv3 := by kernel_rfl
def zv25 : Value := .agg #[.int .i64 0, .int .i64 0, .int .i64 0]
theorem zf25 : (Tryz.prog.info? 25).bind (·.zero) = some zv25 := by kernel_rfl
def zv31 : Value := .agg #[.int .i64 0, .int .i64 0, .int .i64 0, .int .i64 0]
theorem zf31 : (Tryz.prog.info? 31).bind (·.zero) = some zv31 := by kernel_rfl
def zv62 : Value := .agg #[.int .i64 0, .int .i64 0, .int .i64 0]
theorem zf62 : (Tryz.prog.info? 62).bind (·.zero) = some zv62 := by kernel_rfl
theorem iz3 : (Tryz.prog.info? 3).map (fun i => (i.zero, i.size)) = some (some zv3, 1) := by kernel_rfl
theorem iz25 : (Tryz.prog.info? 25).map (fun i => (i.zero, i.size)) = some (some zv25, 3) := by kernel_rfl
theorem iz31 : (Tryz.prog.info? 31).map (fun i => (i.zero, i.size)) = some (some zv31, 4) := by kernel_rfl
theorem iz62 : (Tryz.prog.info? 62).map (fun i => (i.zero, i.size)) = some (some zv62, 3) := by kernel_rfl
theorem izb3 : (Tryz.prog.info? 3).map (fun i => (i.zero, i.size, i.bytes)) = some (some zv3, 1, 8) := by kernel_rfl
theorem izb25 : (Tryz.prog.info? 25).map (fun i => (i.zero, i.size, i.bytes)) = some (some zv25, 3, 24) := by kernel_rfl
theorem izb31 : (Tryz.prog.info? 31).map (fun i => (i.zero, i.size, i.bytes)) = some (some zv31, 4, 32) := by kernel_rfl
theorem izb62 : (Tryz.prog.info? 62).map (fun i => (i.zero, i.size, i.bytes)) = some (some zv62, 3, 24) := by kernel_rfl
theorem sc3 : scalar Tryz.prog 3 := ⟨_, Tryz.underlying3, rfl⟩
theorem sc5 : scalar Tryz.prog 5 := ⟨_, Tryz.underlying5, rfl⟩
theorem sc22 : scalar Tryz.prog 22 := ⟨_, Tryz.underlying22, rfl⟩
theorem sc81 : scalar Tryz.prog 81 := ⟨_, Tryz.underlying81, rfl⟩
theorem sz3 : (Tryz.prog.info? 3).map (·.size) = some 1 := by kernel_rfl
theorem sz5 : (Tryz.prog.info? 5).map (·.size) = some 1 := by kernel_rfl
theorem sz22 : (Tryz.prog.info? 22).map (·.size) = some 1 := by kernel_rfl
theorem sz25 : (Tryz.prog.info? 25).map (·.size) = some 3 := by kernel_rfl
theorem sz31 : (Tryz.prog.info? 31).map (·.size) = some 4 := by kernel_rfl
theorem sz62 : (Tryz.prog.info? 62).map (·.size) = some 3 := by kernel_rfl
theorem sz81 : (Tryz.prog.info? 81).map (·.size) = some 1 := by kernel_rfl
theorem wd25 : wide Tryz.prog 25 3 := ⟨⟨_, Tryz.underlying25, rfl⟩, by kernel_rfl⟩
theorem wd31 : wide Tryz.prog 31 4 := ⟨⟨_, Tryz.underlying31, rfl⟩, by kernel_rfl⟩
theorem wd62 : wide Tryz.prog 62 3 := ⟨⟨_, Tryz.underlying62, rfl⟩, by kernel_rfl⟩
def pl25 : Nat → Option (Nat × Nat) := fun i => (#[(0, 1), (1, 1), (2, 1)] : Array (Nat × Nat))[i]?
theorem bt25 : ∀ ps, Tryz.prog.built 25 ps = Instr.fill pl25 #[.int .i64 0, .int .i64 0, .int .i64 0] ps := fun ps => by kernel_rfl
def pl31 : Nat → Option (Nat × Nat) := fun i => (#[(0, 1), (1, 1), (2, 1), (3, 1)] : Array (Nat × Nat))[i]?
theorem bt31 : ∀ ps, Tryz.prog.built 31 ps = Instr.fill pl31 #[.int .i64 0, .int .i64 0, .int .i64 0, .int .i64 0] ps := fun ps => by kernel_rfl
def pl62 : Nat → Option (Nat × Nat) := fun i => (#[(0, 1), (1, 1), (2, 1)] : Array (Nat × Nat))[i]?
theorem bt62 : ∀ ps, Tryz.prog.built 62 ps = Instr.fill pl62 #[.int .i64 0, .int .i64 0, .int .i64 0] ps := fun ps => by kernel_rfl
def pl83 : Nat → Option (Nat × Nat) := fun i => (#[(0, 1), (1, 1), (2, 1)] : Array (Nat × Nat))[i]?
theorem bt83 : ∀ ps, Tryz.prog.built 83 ps = Instr.fill pl83 #[.slice none 0 0, .int .i64 0, .int .u64 0] ps := fun ps => by kernel_rfl
theorem eqg25 : EqAg3 Tryz.prog .eql 25 := by
  intro a0 a1 a2 b0 b1 b2 x y w
  have hg : (eqGuard .eql 25 x y (.agg #[.int .i64 a0, .int .i64 a1, .int .i64 a2]) (.agg #[.int .i64 b0, .int .i64 b1, .int .i64 b2])).run Tryz.prog w = .ok () w := by simp [eqGuard, (by kernel_rfl : Tryz.prog.eqGuardType Tryz.prog.depth 25 = false)]
  have hf : (Tryz.prog.fieldsOf 25).toList = (match Tryz.prog.underlying 25 with | some (.struct fs) => fs.toList | _ => []) := by kernel_rfl
  refine ⟨hg, ?_⟩
  rw [run_eql_struct, run_equalIn_agg (d := 9999) (ht := by kernel_rfl) (hp := by kernel_rfl), hf, Tryz.underlying25]
  by_cases h0 : a0 = b0 <;> by_cases h1 : a1 = b1 <;> by_cases h2 : a2 = b2 <;> simp [Op.eqFields, part, go_sem, h0, h1, h2]
theorem neg25 : EqAg3 Tryz.prog .neq 25 := by
  intro a0 a1 a2 b0 b1 b2 x y w
  have hg : (eqGuard .neq 25 x y (.agg #[.int .i64 a0, .int .i64 a1, .int .i64 a2]) (.agg #[.int .i64 b0, .int .i64 b1, .int .i64 b2])).run Tryz.prog w = .ok () w := by simp [eqGuard, (by kernel_rfl : Tryz.prog.eqGuardType Tryz.prog.depth 25 = false)]
  have hf : (Tryz.prog.fieldsOf 25).toList = (match Tryz.prog.underlying 25 with | some (.struct fs) => fs.toList | _ => []) := by kernel_rfl
  refine ⟨hg, ?_⟩
  rw [run_neq_struct, run_equalIn_agg (d := 9999) (ht := by kernel_rfl) (hp := by kernel_rfl), hf, Tryz.underlying25]
  by_cases h0 : a0 = b0 <;> by_cases h1 : a1 = b1 <;> by_cases h2 : a2 = b2 <;> simp [Op.eqFields, part, go_sem, h0, h1, h2]
theorem cf_laws_big : ∀ args w, (callFunc 9 args).run Tryz.prog w = .ok (.enter 9 args) w := run_callFunc Tryz.func9 (by kernel_rfl) (by kernel_rfl)
theorem s_laws_big {code1 : List Int} {more2 : List Int} {r : Bool} (h : r_laws_big code1 more2 = some r) : CallS Tryz.prog 9 [.c (.sl (code1.map c5)), .c (.sl (more2.map c5))] (Bo r) [] := by
  refine CallS_of_text (rs := [.t 4]) (vs := [.tmp 4]) Tryz.func9 rfl rfl (.cons rfl FitsL.nil) (by decide) 16 rfl ?_
  unfold r_laws_big at h
  show V _ _ ⟨.c (.sl (code1.map c5)) :: .c (.sl (more2.map c5)) :: bt 14 [], []⟩ _
  refine V_e (mb 16 3) [] (s1 := ⟨.c (.sl (code1.map c5)) :: .c (.sl (more2.map c5)) :: bt 14 [], []⟩) ?_
  obtain ⟨t4, ht4, h⟩ := of_bind h
  have ht4 := some_inj ht4
  refine V_sreg (mb 16 16) [] (s1 := ⟨bt 4 (Bo t4 :: bt 11 []), []⟩) ?_ ?_
  ·refine XR 1 ?_
   refine L0 rfl rfl (Y0_lenM (c := c5) (xs := code1) Tryz.underlying22 rfl (by kernel_rfl)) ?_
   refine XR 2 ?_
   refine XL_split (ltI 1048576 ((code1.length : Int))) (fun hc3 => ?_) (fun hc3 => ?_)
   ·refine XL_skipF _ rfl rfl (by kernel_rfl) hc3 rfl ?_
    refine XL_skipF _ rfl rfl (by kernel_rfl) hc3 rfl ?_
    refine XL_skipF _ rfl rfl (by kernel_rfl) hc3 rfl ?_
    refine XL_skipF _ rfl rfl (by kernel_rfl) hc3 rfl ?_
    refine XL_skipF _ rfl rfl (by kernel_rfl) hc3 rfl ?_
    refine XL_skipF _ rfl rfl (by kernel_rfl) hc3 rfl ?_
    refine XL_cons rfl (X_of_Y0 rfl (Y0_pick1 (b := ltI 1048576 ((code1.length : Int))) (p := true) (q := ltI (w64 (1048576 - ((code1.length : Int)))) ((more2.length : Int))) rfl (by kernel_rfl) hc3 (by kernel_rfl))) ?_
    refine XR 1 ?_
    refine XL_nil ?_
    subst ht4
    kernel_rfl
   ·refine XL_takeC _ rfl rfl (by kernel_rfl) hc3 (X_of_Y0 rfl (E_move (.c (.sl (more2.map c5))) rfl (by kernel_rfl))) ?_
    refine XL_takeC _ rfl rfl (by kernel_rfl) hc3 (X_of_Y0 rfl (Y0_lenM (c := c5) (xs := more2) Tryz.underlying22 rfl (by kernel_rfl))) ?_
    refine XL_takeC _ rfl rfl (by kernel_rfl) hc3 (X_of_Y0 rfl (E_move (.c (.sl (code1.map c5))) rfl (by kernel_rfl))) ?_
    refine XL_takeC _ rfl rfl (by kernel_rfl) hc3 (X_of_Y0 rfl (Y0_lenM (c := c5) (xs := code1) Tryz.underlying22 rfl (by kernel_rfl))) ?_
    refine XL_takeC _ rfl rfl (by kernel_rfl) hc3 (X_of_Y0 rfl (Y0_sub64 (a := 1048576) (b := (code1.length : Int)) rfl (by kernel_rfl) (by kernel_rfl))) ?_
    refine XL_takeC _ rfl rfl (by kernel_rfl) hc3 (X_of_Y0 rfl (Y0_gtw (k := .i64) (a := (more2.length : Int)) (b := w64 (1048576 - ((code1.length : Int)))) rfl (by kernel_rfl) (by kernel_rfl))) ?_
    refine XL_cons rfl (X_of_Y0 rfl (Y0_pick0 (b := ltI 1048576 ((code1.length : Int))) (p := true) (q := ltI (w64 (1048576 - ((code1.length : Int)))) ((more2.length : Int))) rfl (by kernel_rfl) hc3 (by kernel_rfl))) ?_
    refine XR 1 ?_
    refine XL_nil ?_
    subst ht4
    kernel_rfl
  refine V_ret ?_
  obtain rfl := some_inj h
  show Post _ _ _ _ _
  exact ⟨.inr rfl, rfl, rfl, rfl⟩
theorem cf_spec_l1Cur_next : ∀ args w, (callFunc 199 args).run Tryz.prog w = .ok (.enter 199 args) w := run_callFunc Tryz.func199 (by kernel_rfl) (by kernel_rfl)
theorem s_spec_l1Cur_next {c1 : ((List Int) × Int × Int)} {r : (Int × (((List Int) × Int × Int)))} (h : r_spec_l1Cur_next c1 = some r) : CallR Tryz.prog 199 [.pt 80000 0] [(80000, .box [.sl (c1.1.map c5), Ti c1.2.1, .v (.int .u64 c1.2.2)])] (I r.1) [] [(80000, .box [.sl (r.2.1.map c5), Ti r.2.2.1, .v (.int .u64 r.2.2.2)])] := by
  refine CallR_of_text (rs := [.t 2]) (vs := [.tmp 2]) Tryz.func199 rfl rfl (.cons rfl FitsL.nil) (by decide) 62 rfl rfl fun σ => ?_
  unfold r_spec_l1Cur_next at h
  show V _ _ ⟨.pt 80000 0 :: bt 61 [], [(80000, .pbox (σ 80000) [.sl (c1.1.map c5), Ti c1.2.1, .v (.int .u64 c1.2.2)])]⟩ _
  refine V_e (mb 62 1) [80000] (s1 := ⟨.pt 80000 0 :: bt 61 [], [(80000, .pbox (σ 80000) [.sl (c1.1.map c5), Ti c1.2.1, .v (.int .u64 c1.2.2)])]⟩) ?_
  refine V_e (mb 62 9) [80000] (s1 := ⟨.pt 80000 0 :: .bot :: .bot :: I 0 :: bt 58 [], [(80000, .pbox (σ 80000) [.sl (c1.1.map c5), Ti c1.2.1, .v (.int .u64 c1.2.2)])]⟩) ?_
  obtain ⟨j2, hj2, h⟩ := of_bind h
  refine V_cutK (mb 62 9) [80000] (s1 := ⟨.pt 80000 0 :: .bot :: .bot :: I j2 :: bt 58 [], [(80000, .pbox (σ 80000) [.sl (c1.1.map c5), Ti c1.2.1, .v (.int .u64 c1.2.2)])]⟩) ?_ ?_
  ·clear h
   have h := hj2
   clear hj2
   refine V_sdreg [0, 1, 3, 7, 0, 16, 48, 112, 240, 511] 10 (cdm 10 [174592, 174593, 174597, 174613, 170, 426, 1450, 5546, 21930, 87381]) (mb 62 8201) [80000] (s1 := ⟨.pt 80000 0 :: .bot :: .bot :: I 0 :: bt 9 (Bo (ltI c1.2.1 ((c1.1.length : Int))) :: bt 48 []), [(80000, .pbox (σ 80000) [.sl (c1.1.map c5), Ti c1.2.1, .v (.int .u64 c1.2.2)])]⟩) (by kernel_rfl) (by kernel_rfl) ?_ ?_
   ·refine DR 1 ?_
    refine DE_0 1 (.pt 80000 0) (by kernel_rfl) rfl rfl rfl (gsat_none rfl) (by kernel_rfl) (E_nil (.pt 80000 0) rfl (by kernel_rfl) (by intro hh; cases hh)) 5 rfl ?_
    refine DR 3 ?_
    refine DE_0 5 (.pt 80000 0) (by kernel_rfl) rfl rfl rfl (gsat_none rfl) (by kernel_rfl) (E_nil (.pt 80000 0) rfl (by kernel_rfl) (by intro hh; cases hh)) 9 rfl ?_
    refine DR 2 ?_
    refine DE_0 8 (I ((c1.1.length : Int))) (by kernel_rfl) rfl rfl rfl (gsat_none rfl) (by kernel_rfl) (Y0_lenM (c := c5) (xs := c1.1) Tryz.underlying22 rfl (by kernel_rfl)) 12 rfl ?_
    refine DA 1 ?_
    exact XE
   refine V_cond rfl (fun hc3 => ?_) (fun hc3 => ?_)
   ·have h := of_true h hc3
    obtain ⟨e4, he4, h⟩ := of_bind h
    obtain ⟨b5, hb5, h⟩ := of_sI h
    refine V_dreg [0, 1, 3, 7, 0, 16, 48, 112, 255, 511, 1023, 2047] 12 (cdm 12 [43520, 43521, 43525, 43541, 170, 426, 1450, 5546, 21845, 87381, 349525, 1398101]) (mb 62 9) [80000] (s1 := ⟨.pt 80000 0 :: .bot :: .bot :: I b5 :: bt 58 [], [(80000, .pbox (σ 80000) [.sl (c1.1.map c5), Ti c1.2.1, .v (.int .u64 c1.2.2)])]⟩) (by kernel_rfl) (by kernel_rfl) ?_ ?_
    ·refine DR 1 ?_
     refine DE_0 1 (.pt 80000 0) (by kernel_rfl) rfl rfl rfl (gsat_none rfl) (by kernel_rfl) (E_nil (.pt 80000 0) rfl (by kernel_rfl) (by intro hh; cases hh)) 15 rfl ?_
     refine DR 3 ?_
     refine DE_0 5 (.pt 80000 0) (by kernel_rfl) rfl rfl rfl (gsat_none rfl) (by kernel_rfl) (E_nil (.pt 80000 0) rfl (by kernel_rfl) (by intro hh; cases hh)) 19 rfl ?_
     refine DR 2 ?_
     refine DE_0 8 (.pe [.v (.int .u8 e4)]) (by kernel_rfl) rfl rfl rfl (gsat_none rfl) (by kernel_rfl) (Y0_idxM (c := c5) (xs := c1.1) (v := e4) (n := c1.2.1) Tryz.underlying22 sz5 rfl (by kernel_rfl) (by kernel_rfl) he4) 22 rfl ?_
     refine DR 1 ?_
     refine DE_0 10 (I (IntKind.i64.wrap e4)) (by kernel_rfl) rfl rfl rfl (gsat_none rfl) (by kernel_rfl) (Y0_conv (k2 := .u8) (a := e4) Tryz.underlying5 Tryz.underlying3 rfl (by kernel_rfl)) 24 rfl ?_
     refine DA 1 ?_
     refine XL_nil ?_
     subst hb5
     kernel_rfl
    obtain rfl := some_inj h
    show St.keep _ _ _ = _
    rfl
   ·have h := of_false h hc3
    refine V_skip ?_
    obtain rfl := some_inj h
    show St.keep _ _ _ = _
    rfl
  obtain ⟨f6, hf6, h⟩ := of_sI h
  refine V_sreg (mb 62 9) [80000] (s1 := ⟨.pt 80000 0 :: .bot :: .bot :: I j2 :: bt 58 [], [(80000, .pbox (σ 80000) [.sl (c1.1.map c5), Ti f6, .v (.int .u64 c1.2.2)])]⟩) ?_ ?_
  ·refine XR 1 ?_
   refine L0 rfl rfl (E_nil (.pt 80000 0) rfl (by kernel_rfl) (by intro hh; cases hh)) ?_
   refine XR 3 ?_
   refine L0 rfl rfl (E_nil (.pt 80000 0) rfl (by kernel_rfl) (by intro hh; cases hh)) ?_
   refine XR 2 ?_
   refine XL_nil ?_
   subst hf6
   kernel_rfl
  obtain ⟨f7, hf7, h⟩ := of_sI h
  refine V_sreg (mb 62 9) [80000] (s1 := ⟨.pt 80000 0 :: .bot :: .bot :: I j2 :: bt 58 [], [(80000, .pbox (σ 80000) [.sl (c1.1.map c5), Ti f6, .v (.int .u64 f7)])]⟩) ?_ ?_
  ·refine XR 2 ?_
   refine L0 rfl rfl (E_nil (.pt 80000 0) rfl (by kernel_rfl) (by intro hh; cases hh)) ?_
   refine XR 2 ?_
   refine L0 rfl rfl (Y0_mul (k := .u64) (a := c1.2.2) (b := 6364136223846793005) rfl (by kernel_rfl) (by kernel_rfl)) ?_
   refine XR 1 ?_
   refine L0 rfl rfl (Y0_conv (k2 := .i64) (a := j2) Tryz.underlying3 Tryz.underlying81 rfl (by kernel_rfl)) ?_
   refine L0 rfl rfl (Y0_add (k := .u64) (a := IntKind.u64.wrap (c1.2.2 * 6364136223846793005)) (b := IntKind.u64.wrap j2) rfl (by kernel_rfl) (by kernel_rfl)) ?_
   refine L0 rfl rfl (Y0_add (k := .u64) (a := IntKind.u64.wrap ((IntKind.u64.wrap (c1.2.2 * 6364136223846793005)) + (IntKind.u64.wrap j2))) (b := 1442695040888963407) rfl (by kernel_rfl) (by kernel_rfl)) ?_
   refine L0 rfl rfl (E_nil (.pt 80000 0) rfl (by kernel_rfl) (by intro hh; cases hh)) ?_
   refine XR 2 ?_
   refine XL_nil ?_
   subst hf7
   kernel_rfl
  refine V_seq ?_
  refine V_sdreg [0, 1, 3, 7, 0, 16, 48, 112, 240, 511] 10 (cdm 10 [174592, 174593, 174597, 174613, 170, 426, 1450, 5546, 21930, 87381]) (mb 62 9007199254741001) [80000] (s1 := ⟨.pt 80000 0 :: .bot :: .bot :: I j2 :: bt 49 (Bo (leI f6 ((c1.1.length : Int))) :: bt 8 []), [(80000, .pbox (σ 80000) [.sl (c1.1.map c5), Ti f6, .v (.int .u64 f7)])]⟩) (by kernel_rfl) (by kernel_rfl) ?_ ?_
  ·refine DR 1 ?_
   refine DE_0 1 (.pt 80000 0) (by kernel_rfl) rfl rfl rfl (gsat_none rfl) (by kernel_rfl) (E_nil (.pt 80000 0) rfl (by kernel_rfl) (by intro hh; cases hh)) 45 rfl ?_
   refine DR 3 ?_
   refine DE_0 5 (.pt 80000 0) (by kernel_rfl) rfl rfl rfl (gsat_none rfl) (by kernel_rfl) (E_nil (.pt 80000 0) rfl (by kernel_rfl) (by intro hh; cases hh)) 49 rfl ?_
   refine DR 2 ?_
   refine DE_0 8 (I ((c1.1.length : Int))) (by kernel_rfl) rfl rfl rfl (gsat_none rfl) (by kernel_rfl) (Y0_lenM (c := c5) (xs := c1.1) Tryz.underlying22 rfl (by kernel_rfl)) 52 rfl ?_
   refine DA 1 ?_
   exact XE
  refine V_cond rfl (fun hc8 => ?_) (fun hc8 => ?_)
  ·have h := of_true h hc8
   refine V_e (mb 62 4) [80000] (s1 := ⟨.bot :: .bot :: I j2 :: bt 59 [], [(80000, .pbox (σ 80000) [.sl (c1.1.map c5), Ti f6, .v (.int .u64 f7)])]⟩) ?_
   refine V_ret ?_
   obtain rfl := some_inj h
   show PostR _ _ _ _ _ _
   exact ⟨⟨.inr rfl, rfl, rfl, rfl⟩, ⟨rfl, trivial⟩⟩
  ·have h := of_false h hc8
   refine V_skip ?_
   show V _ _ _ _
   obtain ⟨t9, ht9, h⟩ := of_sI h
   refine V_sreg (mb 62 4) [80000] (s1 := ⟨.bot :: .bot :: I t9 :: bt 59 [], [(80000, .pbox (σ 80000) [.sl (c1.1.map c5), Ti f6, .v (.int .u64 f7)])]⟩) ?_ ?_
   ·refine XR 1 ?_
    refine L0 rfl rfl (E_nil (.pt 80000 0) rfl (by kernel_rfl) (by intro hh; cases hh)) ?_
    refine XR 2 ?_
    refine L0 rfl rfl (Y0_shr (k := .u64) (k2 := .u64) (a := f7) (b := 40) rfl (by kernel_rfl) (by kernel_rfl) (by decide)) ?_
    refine L0 rfl rfl (Y0_and (k := .u64) (a := shrI .u64 f7 40) (b := 255) rfl (by kernel_rfl) (by kernel_rfl)) ?_
    refine L0 rfl rfl (Y0_conv (k2 := .u64) (a := andI .u64 (shrI .u64 f7 40) 255) Tryz.underlying81 Tryz.underlying3 rfl (by kernel_rfl)) ?_
    refine XR 1 ?_
    refine XL_nil ?_
    subst ht9
    kernel_rfl
   refine V_ret ?_
   obtain rfl := some_inj h
   show PostR _ _ _ _ _ _
   exact ⟨⟨.inr rfl, rfl, rfl, rfl⟩, ⟨rfl, trivial⟩⟩
theorem cf_spec_l1Cur_pick : ∀ args w, (callFunc 123 args).run Tryz.prog w = .ok (.enter 123 args) w := run_callFunc Tryz.func123 (by kernel_rfl) (by kernel_rfl)
theorem s_spec_l1Cur_pick {c1 : ((List Int) × Int × Int)} {vn2 : Int} {r : (Int × (((List Int) × Int × Int)))} (h : r_spec_l1Cur_pick c1 vn2 = some r) : CallR Tryz.prog 123 [.pt 80000 0, I vn2] [(80000, .box [.sl (c1.1.map c5), Ti c1.2.1, .v (.int .u64 c1.2.2)])] (I r.1) [] [(80000, .box [.sl (r.2.1.map c5), Ti r.2.2.1, .v (.int .u64 r.2.2.2)])] := by
  refine CallR_of_text (rs := [.t 4]) (vs := [.tmp 4]) Tryz.func123 rfl rfl (.cons rfl FitsL.nil) (by decide) 20 rfl rfl fun σ => ?_
  unfold r_spec_l1Cur_pick at h
  show V _ _ ⟨.pt 80000 0 :: I vn2 :: bt 18 [], [(80000, .pbox (σ 80000) [.sl (c1.1.map c5), Ti c1.2.1, .v (.int .u64 c1.2.2)])]⟩ _
  refine V_e (mb 20 3) [80000] (s1 := ⟨.pt 80000 0 :: I vn2 :: bt 18 [], [(80000, .pbox (σ 80000) [.sl (c1.1.map c5), Ti c1.2.1, .v (.int .u64 c1.2.2)])]⟩) ?_
  refine V_seq ?_
  refine V_e (mb 20 131) [80000] (s1 := ⟨.pt 80000 0 :: I vn2 :: bt 5 (Bo (leI vn2 1) :: bt 12 []), [(80000, .pbox (σ 80000) [.sl (c1.1.map c5), Ti c1.2.1, .v (.int .u64 c1.2.2)])]⟩) ?_
  refine V_cond rfl (fun hc3 => ?_) (fun hc3 => ?_)
  ·have h := of_true h hc3
   refine V_e (mb 20 16) [80000] (s1 := ⟨bt 4 (I 0 :: bt 15 []), [(80000, .pbox (σ 80000) [.sl (c1.1.map c5), Ti c1.2.1, .v (.int .u64 c1.2.2)])]⟩) ?_
   refine V_ret ?_
   obtain rfl := some_inj h
   show PostR _ _ _ _ _ _
   exact ⟨⟨.inr rfl, rfl, rfl, rfl⟩, ⟨rfl, trivial⟩⟩
  ·have h := of_false h hc3
   refine V_skip ?_
   show V _ _ _ _
   obtain ⟨y4, hy4, h⟩ := of_bind h
   refine V_sreg (mb 20 35) [80000] (s1 := ⟨.pt 80000 0 :: I vn2 :: bt 3 (I y4.1 :: bt 14 []), [(80000, .pbox (σ 80000) [.sl (y4.2.1.map c5), Ti y4.2.2.1, .v (.int .u64 y4.2.2.2)])]⟩) ?_ ?_
   ·refine XR 1 ?_
    refine XL_cons rfl (X_callR (E' := [(80000, .pbox (σ 80000) [.sl (y4.2.1.map c5), Ti y4.2.2.1, .v (.int .u64 y4.2.2.2)])]) [(80000, 80000)] 9 (s_spec_l1Cur_next hy4) cf_spec_l1Cur_next rfl rfl (by kernel_rfl) rfl (mE_cons (by kernel_rfl) mE_nil) rfl (by kernel_rfl) rfl rfl (by kernel_rfl)) ?_
    exact XE
   refine V_seq ?_
   refine V_e (mb 20 2083) [80000] (s1 := ⟨.pt 80000 0 :: I vn2 :: bt 3 (I y4.1 :: bt 5 (Bo (ltI 200 vn2) :: bt 8 [])), [(80000, .pbox (σ 80000) [.sl (y4.2.1.map c5), Ti y4.2.2.1, .v (.int .u64 y4.2.2.2)])]⟩) ?_
   refine V_cond rfl (fun hc5 => ?_) (fun hc5 => ?_)
   ·have h := of_true h hc5
    obtain ⟨y6, hy6, h⟩ := of_bind h
    obtain ⟨x7, hx7, h⟩ := of_sI h
    refine V_reg (mb 20 34) [80000] (s1 := ⟨.bot :: I vn2 :: bt 3 (I x7 :: bt 14 []), [(80000, .pbox (σ 80000) [.sl (y6.2.1.map c5), Ti y6.2.2.1, .v (.int .u64 y6.2.2.2)])]⟩) ?_ ?_
    ·refine XR 3 ?_
     refine XL_cons rfl (X_callR (E' := [(80000, .pbox (σ 80000) [.sl (y6.2.1.map c5), Ti y6.2.2.1, .v (.int .u64 y6.2.2.2)])]) [(80000, 80000)] 15 (s_spec_l1Cur_next hy6) cf_spec_l1Cur_next rfl rfl (by kernel_rfl) rfl (mE_cons (by kernel_rfl) mE_nil) rfl (by kernel_rfl) rfl rfl (by kernel_rfl)) ?_
     refine XR 2 ?_
     refine XL_nil ?_
     subst hx7
     kernel_rfl
    show V _ _ _ _
    obtain ⟨z8, hz8, h⟩ := of_bind h
    obtain ⟨t9, ht9, h⟩ := of_sI h
    refine V_sreg (mb 20 16) [80000] (s1 := ⟨bt 4 (I t9 :: bt 15 []), [(80000, .pbox (σ 80000) [.sl (y6.2.1.map c5), Ti y6.2.2.1, .v (.int .u64 y6.2.2.2)])]⟩) ?_ ?_
    ·refine XR 2 ?_
     refine L0 rfl rfl (Y0_rem (k := .i64) (a := x7) (b := vn2) rfl (by kernel_rfl) (by kernel_rfl) (nz_some hz8)) ?_
     refine XR 1 ?_
     refine XL_nil ?_
     subst ht9
     kernel_rfl
    refine V_ret ?_
    obtain rfl := some_inj h
    show PostR _ _ _ _ _ _
    exact ⟨⟨.inr rfl, rfl, rfl, rfl⟩, ⟨rfl, trivial⟩⟩
   ·have h := of_false h hc5
    refine V_skip ?_
    show V _ _ _ _
    obtain ⟨z10, hz10, h⟩ := of_bind h
    obtain ⟨t11, ht11, h⟩ := of_sI h
    refine V_sreg (mb 20 16) [80000] (s1 := ⟨bt 4 (I t11 :: bt 15 []), [(80000, .pbox (σ 80000) [.sl (y4.2.1.map c5), Ti y4.2.2.1, .v (.int .u64 y4.2.2.2)])]⟩) ?_ ?_
    ·refine XR 2 ?_
     refine L0 rfl rfl (Y0_rem (k := .i64) (a := y4.1) (b := vn2) rfl (by kernel_rfl) (by kernel_rfl) (nz_some hz10)) ?_
     refine XR 1 ?_
     refine XL_nil ?_
     subst ht11
     kernel_rfl
    refine V_ret ?_
    obtain rfl := some_inj h
    show PostR _ _ _ _ _ _
    exact ⟨⟨.inr rfl, rfl, rfl, rfl⟩, ⟨rfl, trivial⟩⟩
theorem cf_spec_l1Cur_one : ∀ args w, (callFunc 137 args).run Tryz.prog w = .ok (.enter 137 args) w := run_callFunc Tryz.func137 (by kernel_rfl) (by kernel_rfl)
theorem s_spec_l1Cur_one {c1 : ((List Int) × Int × Int)} {vn2 : Int} {r : (Bool × (((List Int) × Int × Int)))} (h : r_spec_l1Cur_one c1 vn2 = some r) : CallR Tryz.prog 137 [.pt 80000 0, I vn2] [(80000, .box [.sl (c1.1.map c5), Ti c1.2.1, .v (.int .u64 c1.2.2)])] (Bo r.1) [] [(80000, .box [.sl (r.2.1.map c5), Ti r.2.2.1, .v (.int .u64 r.2.2.2)])] := by
  refine CallR_of_text (rs := [.t 4]) (vs := [.tmp 4]) Tryz.func137 rfl rfl (.cons rfl FitsL.nil) (by decide) 9 rfl rfl fun σ => ?_
  unfold r_spec_l1Cur_one at h
  show V _ _ ⟨.pt 80000 0 :: I vn2 :: bt 7 [], [(80000, .pbox (σ 80000) [.sl (c1.1.map c5), Ti c1.2.1, .v (.int .u64 c1.2.2)])]⟩ _
  refine V_e (mb 9 3) [80000] (s1 := ⟨.pt 80000 0 :: I vn2 :: bt 7 [], [(80000, .pbox (σ 80000) [.sl (c1.1.map c5), Ti c1.2.1, .v (.int .u64 c1.2.2)])]⟩) ?_
  obtain ⟨y3, hy3, h⟩ := of_bind h
  refine V_sreg (mb 9 16) [80000] (s1 := ⟨bt 4 (Bo (eqI y3.1 0) :: bt 4 []), [(80000, .pbox (σ 80000) [.sl (y3.2.1.map c5), Ti y3.2.2.1, .v (.int .u64 y3.2.2.2)])]⟩) ?_ ?_
  ·refine XR 2 ?_
   refine XL_cons rfl (X_callR (E' := [(80000, .pbox (σ 80000) [.sl (y3.2.1.map c5), Ti y3.2.2.1, .v (.int .u64 y3.2.2.2)])]) [(80000, 80000)] 7 (s_spec_l1Cur_pick hy3) cf_spec_l1Cur_pick rfl rfl (by kernel_rfl) rfl (mE_cons (by kernel_rfl) mE_nil) rfl (by kernel_rfl) rfl rfl (by kernel_rfl)) ?_
   exact XE
  refine V_ret ?_
  obtain rfl := some_inj h
  show PostR _ _ _ _ _ _
  exact ⟨⟨.inr rfl, rfl, rfl, rfl⟩, ⟨rfl, trivial⟩⟩
theorem cf_spec_l1Cur_among : ∀ args w, (callFunc 175 args).run Tryz.prog w = .ok (.enter 175 args) w := run_callFunc Tryz.func175 (by kernel_rfl) (by kernel_rfl)
theorem s_spec_l1Cur_among {c1 : ((List Int) × Int × Int)} {list2 : List Int} {r : (Int × (((List Int) × Int × Int)))} (h : r_spec_l1Cur_among c1 list2 = some r) : CallR Tryz.prog 175 [.pt 80000 0, .c (.sl (list2.map c3))] [(80000, .box [.sl (c1.1.map c5), Ti c1.2.1, .v (.int .u64 c1.2.2)])] (I r.1) [] [(80000, .box [.sl (r.2.1.map c5), Ti r.2.2.1, .v (.int .u64 r.2.2.2)])] := by
  refine CallR_of_text (rs := [.t 4]) (vs := [.tmp 4]) Tryz.func175 rfl rfl (.cons rfl FitsL.nil) (by decide) 12 rfl rfl fun σ => ?_
  unfold r_spec_l1Cur_among at h
  show V _ _ ⟨.pt 80000 0 :: .c (.sl (list2.map c3)) :: bt 10 [], [(80000, .pbox (σ 80000) [.sl (c1.1.map c5), Ti c1.2.1, .v (.int .u64 c1.2.2)])]⟩ _
  refine V_e (mb 12 3) [80000] (s1 := ⟨.pt 80000 0 :: .c (.sl (list2.map c3)) :: bt 10 [], [(80000, .pbox (σ 80000) [.sl (c1.1.map c5), Ti c1.2.1, .v (.int .u64 c1.2.2)])]⟩) ?_
  obtain ⟨y3, hy3, h⟩ := of_bind h
  obtain ⟨e4, he4, h⟩ := of_bind h
  refine V_sreg (mb 12 16) [80000] (s1 := ⟨bt 4 (I e4 :: bt 7 []), [(80000, .pbox (σ 80000) [.sl (y3.2.1.map c5), Ti y3.2.2.1, .v (.int .u64 y3.2.2.2)])]⟩) ?_ ?_
  ·refine XR 3 ?_
   refine L0 rfl rfl (Y0_lenM (c := c3) (xs := list2) Tryz.underlying51 rfl (by kernel_rfl)) ?_
   refine XL_cons rfl (X_callR (E' := [(80000, .pbox (σ 80000) [.sl (y3.2.1.map c5), Ti y3.2.2.1, .v (.int .u64 y3.2.2.2)])]) [(80000, 80000)] 9 (s_spec_l1Cur_pick hy3) cf_spec_l1Cur_pick rfl rfl (by kernel_rfl) rfl (mE_cons (by kernel_rfl) mE_nil) rfl (by kernel_rfl) rfl rfl (by kernel_rfl)) ?_
   refine L0 rfl rfl (Y0_idxM (c := c3) (xs := list2) (v := e4) (n := y3.1) Tryz.underlying51 sz3 rfl (by kernel_rfl) (by kernel_rfl) he4) ?_
   exact XE
  refine V_ret ?_
  obtain rfl := some_inj h
  show PostR _ _ _ _ _ _
  exact ⟨⟨.inr rfl, rfl, rfl, rfl⟩, ⟨rfl, trivial⟩⟩
theorem cf_spec_l1Cur_number : ∀ args w, (callFunc 277 args).run Tryz.prog w = .ok (.enter 277 args) w := run_callFunc Tryz.func277 (by kernel_rfl) (by kernel_rfl)
theorem s_spec_l1Cur_number {c1 : ((List Int) × Int × Int)} {r : (Int × (((List Int) × Int × Int)))} (h : r_spec_l1Cur_number c1 = some r) : CallR Tryz.prog 277 [.pt 80000 0] [(80000, .box [.sl (c1.1.map c5), Ti c1.2.1, .v (.int .u64 c1.2.2)])] (I r.1) [] [(80000, .box [.sl (r.2.1.map c5), Ti r.2.2.1, .v (.int .u64 r.2.2.2)])] := by
  refine CallR_of_text (rs := [.t 2]) (vs := [.tmp 2]) Tryz.func277 rfl rfl (.cons rfl FitsL.nil) (by decide) 32 rfl rfl fun σ => ?_
  unfold r_spec_l1Cur_number at h
  show V _ _ ⟨.pt 80000 0 :: bt 31 [], [(80000, .pbox (σ 80000) [.sl (c1.1.map c5), Ti c1.2.1, .v (.int .u64 c1.2.2)])]⟩ _
  refine V_e (mb 32 1) [80000] (s1 := ⟨.pt 80000 0 :: bt 31 [], [(80000, .pbox (σ 80000) [.sl (c1.1.map c5), Ti c1.2.1, .v (.int .u64 c1.2.2)])]⟩) ?_
  refine V_seq ?_
  obtain ⟨y2, hy2, h⟩ := of_bind h
  refine V_sreg (mb 32 17) [80000] (s1 := ⟨.pt 80000 0 :: bt 3 (I y2.1 :: bt 27 []), [(80000, .pbox (σ 80000) [.sl (y2.2.1.map c5), Ti y2.2.2.1, .v (.int .u64 y2.2.2.2)])]⟩) ?_ ?_
  ·refine XR 1 ?_
   refine XL_cons rfl (X_callR (E' := [(80000, .pbox (σ 80000) [.sl (y2.2.1.map c5), Ti y2.2.2.1, .v (.int .u64 y2.2.2.2)])]) [(80000, 80000)] 4 (s_spec_l1Cur_pick hy2) cf_spec_l1Cur_pick rfl rfl (by kernel_rfl) rfl (mE_cons (by kernel_rfl) mE_nil) rfl (by kernel_rfl) rfl rfl (by kernel_rfl)) ?_
   exact XE
  refine V_block ?_
  refine V_e (mb 32 49) [80000] (s1 := ⟨.pt 80000 0 :: bt 3 (I y2.1 :: Bo (eqI y2.1 0) :: bt 26 []), [(80000, .pbox (σ 80000) [.sl (y2.2.1.map c5), Ti y2.2.2.1, .v (.int .u64 y2.2.2.2)])]⟩) ?_
  refine V_cond rfl (fun hc3 => ?_) (fun hc3 => ?_)
  ·have h := of_true h hc3
   obtain ⟨y4, hy4, h⟩ := of_bind h
   refine V_sreg (mb 32 4) [80000] (s1 := ⟨.bot :: .bot :: I y4.1 :: bt 29 [], [(80000, .pbox (σ 80000) [.sl (y4.2.1.map c5), Ti y4.2.2.1, .v (.int .u64 y4.2.2.2)])]⟩) ?_ ?_
   ·refine XR 1 ?_
    refine L1 rfl rfl (Y1_bslice (z := zv3) (els := [0, 1, -1, 1000000, -1000000, 1000001, -1000001, -9223372036854775808, 9223372036854775807, 999983, 999999, 1000].map c3) Tryz.underlying51 iz3 rfl (by decide) rfl (by kernel_rfl) rfl (by simp [c3]) (by decide) (by decide)) ?_
    refine XL_freeze 64 (T := 3) (sz := 1) (els := ([0, 1, -1, 1000000, -1000000, 1000001, -1000001, -9223372036854775808, 9223372036854775807, 999983, 999999, 1000]).map c3) (s1 := ⟨.pt 80000 0 :: bt 3 (I y2.1 :: Bo (eqI y2.1 0) :: .bot :: .pt 80000 0 :: .c (.sl (([0, 1, -1, 1000000, -1000000, 1000001, -1000001, -9223372036854775808, 9223372036854775807, 999983, 999999, 1000]).map c3)) :: bt 23 []), [(80000, .pbox (σ 80000) [.sl (y2.2.1.map c5), Ti y2.2.2.1, .v (.int .u64 y2.2.2.2)])]⟩) (by kernel_rfl) (by kernel_rfl) ?_
    refine XL_cons rfl (X_callR (E' := [(80000, .pbox (σ 80000) [.sl (y4.2.1.map c5), Ti y4.2.2.1, .v (.int .u64 y4.2.2.2)])]) [(80000, 80000)] 9 (s_spec_l1Cur_among hy4) cf_spec_l1Cur_among rfl rfl (by kernel_rfl) rfl (mE_cons (by kernel_rfl) mE_nil) rfl (by kernel_rfl) rfl rfl (by kernel_rfl)) ?_
    exact XE
   refine V_ret ?_
   obtain rfl := some_inj h
   show PostR _ _ _ _ _ _
   exact ⟨⟨.inr rfl, rfl, rfl, rfl⟩, ⟨rfl, trivial⟩⟩
  ·have h := of_false h hc3
   obtain ⟨j5, hj5, h⟩ := of_bind h
   refine V_cutK (mb 32 1041) [80000] (s1 := ⟨.pt 80000 0 :: bt 3 (I y2.1 :: bt 5 (Bo j5 :: bt 21 [])), [(80000, .pbox (σ 80000) [.sl (y2.2.1.map c5), Ti y2.2.2.1, .v (.int .u64 y2.2.2.2)])]⟩) ?_ ?_
   ·clear h
    have h := hj5
    clear hj5
    refine V_e (mb 32 1041) [80000] (s1 := ⟨.pt 80000 0 :: bt 3 (I y2.1 :: bt 5 (Bo (eqI y2.1 1) :: bt 21 [])), [(80000, .pbox (σ 80000) [.sl (y2.2.1.map c5), Ti y2.2.2.1, .v (.int .u64 y2.2.2.2)])]⟩) ?_
    refine V_cond rfl (fun hc6 => ?_) (fun hc6 => ?_)
    ·have h := of_true h hc6
     refine V_skip ?_
     obtain rfl := some_inj h
     show St.keep _ _ _ = _
     rfl
    ·have h := of_false h hc6
     refine V_reg (mb 32 1041) [80000] (s1 := ⟨.pt 80000 0 :: bt 3 (I y2.1 :: bt 5 (Bo (eqI y2.1 2) :: bt 21 [])), [(80000, .pbox (σ 80000) [.sl (y2.2.1.map c5), Ti y2.2.2.1, .v (.int .u64 y2.2.2.2)])]⟩) ?_ ?_
     ·exact XE
     obtain rfl := some_inj h
     show St.keep _ _ _ = _
     rfl
   refine V_cond rfl (fun hc7 => ?_) (fun hc7 => ?_)
   ·have h := of_true h hc7
    obtain ⟨y8, hy8, h⟩ := of_bind h
    obtain ⟨y9, hy9, h⟩ := of_bind h
    obtain ⟨y10, hy10, h⟩ := of_bind h
    obtain ⟨t11, ht11, h⟩ := of_sI h
    refine V_sreg (mb 32 4) [80000] (s1 := ⟨.bot :: .bot :: I t11 :: bt 29 [], [(80000, .pbox (σ 80000) [.sl (y10.2.1.map c5), Ti y10.2.2.1, .v (.int .u64 y10.2.2.2)])]⟩) ?_ ?_
    ·refine XR 1 ?_
     refine XL_cons rfl (X_callR (E' := [(80000, .pbox (σ 80000) [.sl (y8.2.1.map c5), Ti y8.2.2.1, .v (.int .u64 y8.2.2.2)])]) [(80000, 80000)] 14 (s_spec_l1Cur_pick hy8) cf_spec_l1Cur_pick rfl rfl (by kernel_rfl) rfl (mE_cons (by kernel_rfl) mE_nil) rfl (by kernel_rfl) rfl rfl (by kernel_rfl)) ?_
     refine XR 1 ?_
     refine XL_cons rfl (X_callR (E' := [(80000, .pbox (σ 80000) [.sl (y9.2.1.map c5), Ti y9.2.2.1, .v (.int .u64 y9.2.2.2)])]) [(80000, 80000)] 16 (s_spec_l1Cur_pick hy9) cf_spec_l1Cur_pick rfl rfl (by kernel_rfl) rfl (mE_cons (by kernel_rfl) mE_nil) rfl (by kernel_rfl) rfl rfl (by kernel_rfl)) ?_
     refine XR 3 ?_
     refine XL_cons rfl (X_callR (E' := [(80000, .pbox (σ 80000) [.sl (y10.2.1.map c5), Ti y10.2.2.1, .v (.int .u64 y10.2.2.2)])]) [(80000, 80000)] 20 (s_spec_l1Cur_pick hy10) cf_spec_l1Cur_pick rfl rfl (by kernel_rfl) rfl (mE_cons (by kernel_rfl) mE_nil) rfl (by kernel_rfl) rfl rfl (by kernel_rfl)) ?_
     refine XR 4 ?_
     refine XL_nil ?_
     subst ht11
     kernel_rfl
    refine V_ret ?_
    obtain rfl := some_inj h
    show PostR _ _ _ _ _ _
    exact ⟨⟨.inr rfl, rfl, rfl, rfl⟩, ⟨rfl, trivial⟩⟩
   ·have h := of_false h hc7
    obtain ⟨j12, hj12, h⟩ := of_bind h
    refine V_cutK (mb 32 16777217) [80000] (s1 := ⟨.pt 80000 0 :: bt 23 (Bo j12 :: bt 7 []), [(80000, .pbox (σ 80000) [.sl (y2.2.1.map c5), Ti y2.2.2.1, .v (.int .u64 y2.2.2.2)])]⟩) ?_ ?_
    ·clear h
     have h := hj12
     clear hj12
     refine V_e (mb 32 16777233) [80000] (s1 := ⟨.pt 80000 0 :: bt 3 (I y2.1 :: bt 19 (Bo (eqI y2.1 3) :: bt 7 [])), [(80000, .pbox (σ 80000) [.sl (y2.2.1.map c5), Ti y2.2.2.1, .v (.int .u64 y2.2.2.2)])]⟩) ?_
     refine V_cond rfl (fun hc13 => ?_) (fun hc13 => ?_)
     ·have h := of_true h hc13
      refine V_skip ?_
      obtain rfl := some_inj h
      show St.keep _ _ _ = _
      rfl
     ·have h := of_false h hc13
      refine V_reg (mb 32 16777217) [80000] (s1 := ⟨.pt 80000 0 :: bt 23 (Bo (eqI y2.1 4) :: bt 7 []), [(80000, .pbox (σ 80000) [.sl (y2.2.1.map c5), Ti y2.2.2.1, .v (.int .u64 y2.2.2.2)])]⟩) ?_ ?_
      ·exact XE
      obtain rfl := some_inj h
      show St.keep _ _ _ = _
      rfl
    refine V_cond rfl (fun hc14 => ?_) (fun hc14 => ?_)
    ·have h := of_true h hc14
     obtain ⟨y15, hy15, h⟩ := of_bind h
     refine V_sreg (mb 32 4) [80000] (s1 := ⟨.bot :: .bot :: I y15.1 :: bt 29 [], [(80000, .pbox (σ 80000) [.sl (y15.2.1.map c5), Ti y15.2.2.1, .v (.int .u64 y15.2.2.2)])]⟩) ?_ ?_
     ·refine XR 1 ?_
      refine XL_cons rfl (X_callR (E' := [(80000, .pbox (σ 80000) [.sl (y15.2.1.map c5), Ti y15.2.2.1, .v (.int .u64 y15.2.2.2)])]) [(80000, 80000)] 28 (s_spec_l1Cur_pick hy15) cf_spec_l1Cur_pick rfl rfl (by kernel_rfl) rfl (mE_cons (by kernel_rfl) mE_nil) rfl (by kernel_rfl) rfl rfl (by kernel_rfl)) ?_
      exact XE
     refine V_ret ?_
     obtain rfl := some_inj h
     show PostR _ _ _ _ _ _
     exact ⟨⟨.inr rfl, rfl, rfl, rfl⟩, ⟨rfl, trivial⟩⟩
    ·have h := of_false h hc14
     refine V_skip ?_
     show V _ _ _ _
     obtain ⟨y16, hy16, h⟩ := of_bind h
     obtain ⟨t17, ht17, h⟩ := of_sI h
     refine V_sreg (mb 32 4) [80000] (s1 := ⟨.bot :: .bot :: I t17 :: bt 29 [], [(80000, .pbox (σ 80000) [.sl (y16.2.1.map c5), Ti y16.2.2.1, .v (.int .u64 y16.2.2.2)])]⟩) ?_ ?_
     ·refine XR 1 ?_
      refine XL_cons rfl (X_callR (E' := [(80000, .pbox (σ 80000) [.sl (y16.2.1.map c5), Ti y16.2.2.1, .v (.int .u64 y16.2.2.2)])]) [(80000, 80000)] 30 (s_spec_l1Cur_pick hy16) cf_spec_l1Cur_pick rfl rfl (by kernel_rfl) rfl (mE_cons (by kernel_rfl) mE_nil) rfl (by kernel_rfl) rfl rfl (by kernel_rfl)) ?_
      refine XR 2 ?_
      refine XL_nil ?_
      subst ht17
      kernel_rfl
     refine V_ret ?_
     obtain rfl := some_inj h
     show PostR _ _ _ _ _ _
     exact ⟨⟨.inr rfl, rfl, rfl, rfl⟩, ⟨rfl, trivial⟩⟩
theorem cf_spec_l1Cur_form : ∀ args w, (callFunc 246 args).run Tryz.prog w = .ok (.enter 246 args) w := run_callFunc Tryz.func246 (by kernel_rfl) (by kernel_rfl)
theorem s_spec_l1Cur_form {c1 : ((List Int) × Int × Int)} {r : (((Int × Int × Int)) × (((List Int) × Int × Int)))} (h : r_spec_l1Cur_form c1 = some r) : CallR Tryz.prog 246 [.pt 80000 0] [(80000, .box [.sl (c1.1.map c5), Ti c1.2.1, .v (.int .u64 c1.2.2)])] (.ag [Ti r.1.1, Ti r.1.2.1, Ti r.1.2.2]) [] [(80000, .box [.sl (r.2.1.map c5), Ti r.2.2.1, .v (.int .u64 r.2.2.2)])] := by
  refine CallR_of_text (rs := [.w 2 3]) (vs := [.cell 2 25]) Tryz.func246 rfl rfl (.cons ⟨rfl, wd25⟩ FitsL.nil) (by decide) 85 rfl rfl fun σ => ?_
  unfold r_spec_l1Cur_form at h
  show V _ _ ⟨.pt 80000 0 :: bt 84 [], [(80000, .pbox (σ 80000) [.sl (c1.1.map c5), Ti c1.2.1, .v (.int .u64 c1.2.2)])]⟩ _
  refine V_e (mb 85 5) [16, 80000] (s1 := ⟨.pt 80000 0 :: .bot :: .pt 16 0 :: bt 82 [], [(16, .box [Ti 0, Ti 0, Ti 0]), (80000, .pbox (σ 80000) [.sl (c1.1.map c5), Ti c1.2.1, .v (.int .u64 c1.2.2)])]⟩) ?_
  refine V_seq ?_
  obtain ⟨y2, hy2, h⟩ := of_bind h
  refine V_sreg (mb 85 261) [16, 80000] (s1 := ⟨.pt 80000 0 :: .bot :: .pt 16 0 :: bt 5 (I y2.1 :: bt 76 []), [(16, .box [Ti 0, Ti 0, Ti 0]), (80000, .pbox (σ 80000) [.sl (y2.2.1.map c5), Ti y2.2.2.1, .v (.int .u64 y2.2.2.2)])]⟩) ?_ ?_
  ·refine XR 1 ?_
   refine XL_cons rfl (X_callR (E' := [(16, .box [Ti 0, Ti 0, Ti 0]), (80000, .pbox (σ 80000) [.sl (y2.2.1.map c5), Ti y2.2.2.1, .v (.int .u64 y2.2.2.2)])]) [(80000, 80000)] 8 (s_spec_l1Cur_pick hy2) cf_spec_l1Cur_pick rfl rfl (by kernel_rfl) rfl (mE_cons (by kernel_rfl) mE_nil) rfl (by kernel_rfl) rfl rfl (by kernel_rfl)) ?_
   exact XE
  refine V_block ?_
  refine V_e (mb 85 773) [16, 80000] (s1 := ⟨.pt 80000 0 :: .bot :: .pt 16 0 :: bt 5 (I y2.1 :: Bo (eqI y2.1 0) :: bt 75 []), [(16, .box [Ti 0, Ti 0, Ti 0]), (80000, .pbox (σ 80000) [.sl (y2.2.1.map c5), Ti y2.2.2.1, .v (.int .u64 y2.2.2.2)])]⟩) ?_
  refine V_cond rfl (fun hc3 => ?_) (fun hc3 => ?_)
  ·have h := of_true h hc3
   obtain ⟨y4, hy4, h⟩ := of_bind h
   obtain ⟨y5, hy5, h⟩ := of_bind h
   obtain ⟨y6, hy6, h⟩ := of_bind h
   refine V_sreg (mb 85 4) [16, 80000] (s1 := ⟨.bot :: .bot :: .pt 16 0 :: bt 82 [], [(16, .box [Ti y4.1, Ti y5.1, Ti y6.1]), (80000, .pbox (σ 80000) [.sl (y6.2.1.map c5), Ti y6.2.2.1, .v (.int .u64 y6.2.2.2)])]⟩) ?_ ?_
   ·refine XR 1 ?_
    refine XL_cons rfl (X_callR (E' := [(16, .box [Ti 0, Ti 0, Ti 0]), (80000, .pbox (σ 80000) [.sl (y4.2.1.map c5), Ti y4.2.2.1, .v (.int .u64 y4.2.2.2)])]) [(80000, 80000)] 12 (s_spec_l1Cur_number hy4) cf_spec_l1Cur_number rfl rfl (by kernel_rfl) rfl (mE_cons (by kernel_rfl) mE_nil) rfl (by kernel_rfl) rfl rfl (by kernel_rfl)) ?_
    refine XR 1 ?_
    refine XL_cons rfl (X_callR (E' := [(16, .box [Ti 0, Ti 0, Ti 0]), (80000, .pbox (σ 80000) [.sl (y5.2.1.map c5), Ti y5.2.2.1, .v (.int .u64 y5.2.2.2)])]) [(80000, 80000)] 14 (s_spec_l1Cur_number hy5) cf_spec_l1Cur_number rfl rfl (by kernel_rfl) rfl (mE_cons (by kernel_rfl) mE_nil) rfl (by kernel_rfl) rfl rfl (by kernel_rfl)) ?_
    refine XR 1 ?_
    refine XL_cons rfl (X_callR (E' := [(16, .box [Ti 0, Ti 0, Ti 0]), (80000, .pbox (σ 80000) [.sl (y6.2.1.map c5), Ti y6.2.2.1, .v (.int .u64 y6.2.2.2)])]) [(80000, 80000)] 16 (s_spec_l1Cur_number hy6) cf_spec_l1Cur_number rfl rfl (by kernel_rfl) rfl (mE_cons (by kernel_rfl) mE_nil) rfl (by kernel_rfl) rfl rfl (by kernel_rfl)) ?_
    refine L0 rfl rfl (Y0_build (cs := [Ti y4.1, Ti y5.1, Ti y6.1]) pl25 bt25 rfl rfl (by kernel_rfl)) ?_
    exact XE
   refine V_ret ?_
   obtain rfl := some_inj h
   show PostR _ _ _ _ _ _
   exact ⟨⟨.inr rfl, rfl, rfl, rfl⟩, ⟨rfl, trivial⟩⟩
  ·have h := of_false h hc3
   refine V_e (mb 85 262405) [16, 80000] (s1 := ⟨.pt 80000 0 :: .bot :: .pt 16 0 :: bt 5 (I y2.1 :: bt 9 (Bo (eqI y2.1 1) :: bt 66 [])), [(16, .box [Ti 0, Ti 0, Ti 0]), (80000, .pbox (σ 80000) [.sl (y2.2.1.map c5), Ti y2.2.2.1, .v (.int .u64 y2.2.2.2)])]⟩) ?_
   refine V_cond rfl (fun hc7 => ?_) (fun hc7 => ?_)
   ·have h := of_true h hc7
    obtain ⟨y8, hy8, h⟩ := of_bind h
    refine V_sreg (mb 85 13) [16, 80000] (s1 := ⟨.pt 80000 0 :: .bot :: .pt 16 0 :: I y8.1 :: bt 81 [], [(16, .box [Ti 0, Ti 0, Ti 0]), (80000, .pbox (σ 80000) [.sl (y8.2.1.map c5), Ti y8.2.2.1, .v (.int .u64 y8.2.2.2)])]⟩) ?_ ?_
    ·refine XR 1 ?_
     refine L1 rfl rfl (Y1_bslice (z := zv3) (els := [2, 3, -1, 0, 1000].map c3) Tryz.underlying51 iz3 rfl (by decide) rfl (by kernel_rfl) rfl (by simp [c3]) (by decide) (by decide)) ?_
     refine XL_freeze 168 (T := 3) (sz := 1) (els := ([2, 3, -1, 0, 1000]).map c3) (s1 := ⟨.pt 80000 0 :: .bot :: .pt 16 0 :: bt 5 (I y2.1 :: bt 9 (Bo (eqI y2.1 1) :: .bot :: .pt 80000 0 :: .c (.sl (([2, 3, -1, 0, 1000]).map c3)) :: bt 63 [])), [(16, .box [Ti 0, Ti 0, Ti 0]), (80000, .pbox (σ 80000) [.sl (y2.2.1.map c5), Ti y2.2.2.1, .v (.int .u64 y2.2.2.2)])]⟩) (by kernel_rfl) (by kernel_rfl) ?_
     refine XL_cons rfl (X_callR (E' := [(16, .box [Ti 0, Ti 0, Ti 0]), (80000, .pbox (σ 80000) [.sl (y8.2.1.map c5), Ti y8.2.2.1, .v (.int .u64 y8.2.2.2)])]) [(80000, 80000)] 22 (s_spec_l1Cur_among hy8) cf_spec_l1Cur_among rfl rfl (by kernel_rfl) rfl (mE_cons (by kernel_rfl) mE_nil) rfl (by kernel_rfl) rfl rfl (by kernel_rfl)) ?_
     exact XE
    obtain ⟨y9, hy9, h⟩ := of_bind h
    obtain ⟨y10, hy10, h⟩ := of_bind h
    obtain ⟨y11, hy11, h⟩ := of_bind h
    obtain ⟨f12, hf12, h⟩ := of_sI h
    obtain ⟨f13, hf13, h⟩ := of_sI h
    obtain ⟨f14, hf14, h⟩ := of_sI h
    refine V_sreg (mb 85 4) [16, 80000] (s1 := ⟨.bot :: .bot :: .pt 16 0 :: bt 82 [], [(16, .box [Ti f12, Ti f13, Ti f14]), (80000, .pbox (σ 80000) [.sl (y11.2.1.map c5), Ti y11.2.2.1, .v (.int .u64 y11.2.2.2)])]⟩) ?_ ?_
    ·refine XR 2 ?_
     refine XL_cons rfl (X_callR (E' := [(16, .box [Ti 0, Ti 0, Ti 0]), (80000, .pbox (σ 80000) [.sl (y9.2.1.map c5), Ti y9.2.2.1, .v (.int .u64 y9.2.2.2)])]) [(80000, 80000)] 25 (s_spec_l1Cur_pick hy9) cf_spec_l1Cur_pick rfl rfl (by kernel_rfl) rfl (mE_cons (by kernel_rfl) mE_nil) rfl (by kernel_rfl) rfl rfl (by kernel_rfl)) ?_
     refine XR 3 ?_
     refine XL_cons rfl (X_callR (E' := [(16, .box [Ti 0, Ti 0, Ti 0]), (80000, .pbox (σ 80000) [.sl (y10.2.1.map c5), Ti y10.2.2.1, .v (.int .u64 y10.2.2.2)])]) [(80000, 80000)] 29 (s_spec_l1Cur_pick hy10) cf_spec_l1Cur_pick rfl rfl (by kernel_rfl) rfl (mE_cons (by kernel_rfl) mE_nil) rfl (by kernel_rfl) rfl rfl (by kernel_rfl)) ?_
     refine XR 4 ?_
     refine XL_cons rfl (X_callR (E' := [(16, .box [Ti 0, Ti 0, Ti 0]), (80000, .pbox (σ 80000) [.sl (y11.2.1.map c5), Ti y11.2.2.1, .v (.int .u64 y11.2.2.2)])]) [(80000, 80000)] 34 (s_spec_l1Cur_pick hy11) cf_spec_l1Cur_pick rfl rfl (by kernel_rfl) rfl (mE_cons (by kernel_rfl) mE_nil) rfl (by kernel_rfl) rfl rfl (by kernel_rfl)) ?_
     refine XR 1 ?_
     refine L0 rfl rfl (Y0_build (cs := [Ti (w64 (y8.1 * y9.1)), Ti (w64 (y8.1 * (w64 (y10.1 - 10)))), Ti (w64 (y8.1 * y11.1))]) pl25 bt25 rfl rfl (by kernel_rfl)) ?_
     refine XR 1 ?_
     refine XL_nil ?_
     subst hf12 hf13 hf14
     kernel_rfl
    refine V_ret ?_
    obtain rfl := some_inj h
    show PostR _ _ _ _ _ _
    exact ⟨⟨.inr rfl, rfl, rfl, rfl⟩, ⟨rfl, trivial⟩⟩
   ·have h := of_false h hc7
    refine V_e (mb 85 137438953733) [16, 80000] (s1 := ⟨.pt 80000 0 :: .bot :: .pt 16 0 :: bt 5 (I y2.1 :: bt 28 (Bo (eqI y2.1 2) :: bt 47 [])), [(16, .box [Ti 0, Ti 0, Ti 0]), (80000, .pbox (σ 80000) [.sl (y2.2.1.map c5), Ti y2.2.2.1, .v (.int .u64 y2.2.2.2)])]⟩) ?_
    refine V_cond rfl (fun hc15 => ?_) (fun hc15 => ?_)
    ·have h := of_true h hc15
     obtain ⟨y16, hy16, h⟩ := of_bind h
     obtain ⟨y17, hy17, h⟩ := of_bind h
     obtain ⟨y18, hy18, h⟩ := of_bind h
     obtain ⟨f19, hf19, h⟩ := of_sI h
     refine V_sreg (mb 85 4) [16, 80000] (s1 := ⟨.bot :: .bot :: .pt 16 0 :: bt 82 [], [(16, .box [Ti y16.1, Ti f19, Ti y18.1]), (80000, .pbox (σ 80000) [.sl (y18.2.1.map c5), Ti y18.2.2.1, .v (.int .u64 y18.2.2.2)])]⟩) ?_ ?_
     ·refine XR 1 ?_
      refine XL_cons rfl (X_callR (E' := [(16, .box [Ti 0, Ti 0, Ti 0]), (80000, .pbox (σ 80000) [.sl (y16.2.1.map c5), Ti y16.2.2.1, .v (.int .u64 y16.2.2.2)])]) [(80000, 80000)] 40 (s_spec_l1Cur_pick hy16) cf_spec_l1Cur_pick rfl rfl (by kernel_rfl) rfl (mE_cons (by kernel_rfl) mE_nil) rfl (by kernel_rfl) rfl rfl (by kernel_rfl)) ?_
      refine XR 1 ?_
      refine XL_cons rfl (X_callR (E' := [(16, .box [Ti 0, Ti 0, Ti 0]), (80000, .pbox (σ 80000) [.sl (y17.2.1.map c5), Ti y17.2.2.1, .v (.int .u64 y17.2.2.2)])]) [(80000, 80000)] 42 (s_spec_l1Cur_pick hy17) cf_spec_l1Cur_pick rfl rfl (by kernel_rfl) rfl (mE_cons (by kernel_rfl) mE_nil) rfl (by kernel_rfl) rfl rfl (by kernel_rfl)) ?_
      refine XR 2 ?_
      refine XL_cons rfl (X_callR (E' := [(16, .box [Ti 0, Ti 0, Ti 0]), (80000, .pbox (σ 80000) [.sl (y18.2.1.map c5), Ti y18.2.2.1, .v (.int .u64 y18.2.2.2)])]) [(80000, 80000)] 45 (s_spec_l1Cur_pick hy18) cf_spec_l1Cur_pick rfl rfl (by kernel_rfl) rfl (mE_cons (by kernel_rfl) mE_nil) rfl (by kernel_rfl) rfl rfl (by kernel_rfl)) ?_
      refine L0 rfl rfl (Y0_build (cs := [Ti y16.1, Ti (w64 (y17.1 - 1500)), Ti y18.1]) pl25 bt25 rfl rfl (by kernel_rfl)) ?_
      refine XR 1 ?_
      refine XL_nil ?_
      subst hf19
      kernel_rfl
     refine V_ret ?_
     obtain rfl := some_inj h
     show PostR _ _ _ _ _ _
     exact ⟨⟨.inr rfl, rfl, rfl, rfl⟩, ⟨rfl, trivial⟩⟩
    ·have h := of_false h hc15
     refine V_e (mb 85 140737488355333) [16, 80000] (s1 := ⟨.pt 80000 0 :: .bot :: .pt 16 0 :: bt 44 (Bo (eqI y2.1 3) :: bt 37 []), [(16, .box [Ti 0, Ti 0, Ti 0]), (80000, .pbox (σ 80000) [.sl (y2.2.1.map c5), Ti y2.2.2.1, .v (.int .u64 y2.2.2.2)])]⟩) ?_
     refine V_cond rfl (fun hc20 => ?_) (fun hc20 => ?_)
     ·have h := of_true h hc20
      obtain ⟨y21, hy21, h⟩ := of_bind h
      obtain ⟨y22, hy22, h⟩ := of_bind h
      obtain ⟨y23, hy23, h⟩ := of_bind h
      obtain ⟨f24, hf24, h⟩ := of_sI h
      obtain ⟨f25, hf25, h⟩ := of_sI h
      obtain ⟨f26, hf26, h⟩ := of_sI h
      refine V_sreg (mb 85 4) [16, 80000] (s1 := ⟨.bot :: .bot :: .pt 16 0 :: bt 82 [], [(16, .box [Ti f24, Ti f25, Ti f26]), (80000, .pbox (σ 80000) [.sl (y23.2.1.map c5), Ti y23.2.2.1, .v (.int .u64 y23.2.2.2)])]⟩) ?_ ?_
      ·refine XR 1 ?_
       refine XL_cons rfl (X_callR (E' := [(16, .box [Ti 0, Ti 0, Ti 0]), (80000, .pbox (σ 80000) [.sl (y21.2.1.map c5), Ti y21.2.2.1, .v (.int .u64 y21.2.2.2)])]) [(80000, 80000)] 50 (s_spec_l1Cur_pick hy21) cf_spec_l1Cur_pick rfl rfl (by kernel_rfl) rfl (mE_cons (by kernel_rfl) mE_nil) rfl (by kernel_rfl) rfl rfl (by kernel_rfl)) ?_
       refine XR 2 ?_
       refine XL_cons rfl (X_callR (E' := [(16, .box [Ti 0, Ti 0, Ti 0]), (80000, .pbox (σ 80000) [.sl (y22.2.1.map c5), Ti y22.2.2.1, .v (.int .u64 y22.2.2.2)])]) [(80000, 80000)] 53 (s_spec_l1Cur_pick hy22) cf_spec_l1Cur_pick rfl rfl (by kernel_rfl) rfl (mE_cons (by kernel_rfl) mE_nil) rfl (by kernel_rfl) rfl rfl (by kernel_rfl)) ?_
       refine XR 2 ?_
       refine XL_cons rfl (X_callR (E' := [(16, .box [Ti 0, Ti 0, Ti 0]), (80000, .pbox (σ 80000) [.sl (y23.2.1.map c5), Ti y23.2.2.1, .v (.int .u64 y23.2.2.2)])]) [(80000, 80000)] 56 (s_spec_l1Cur_pick hy23) cf_spec_l1Cur_pick rfl rfl (by kernel_rfl) rfl (mE_cons (by kernel_rfl) mE_nil) rfl (by kernel_rfl) rfl rfl (by kernel_rfl)) ?_
       refine XR 1 ?_
       refine L0 rfl rfl (Y0_build (cs := [Ti (w64 (y21.1 - 10)), Ti (w64 (y22.1 - 10)), Ti (w64 (y23.1 - 10))]) pl25 bt25 rfl rfl (by kernel_rfl)) ?_
       refine XR 1 ?_
       refine XL_nil ?_
       subst hf24 hf25 hf26
       kernel_rfl
      refine V_ret ?_
      obtain rfl := some_inj h
      show PostR _ _ _ _ _ _
      exact ⟨⟨.inr rfl, rfl, rfl, rfl⟩, ⟨rfl, trivial⟩⟩
     ·have h := of_false h hc20
      refine V_skip ?_
      show V _ _ _ _
      obtain ⟨y27, hy27, h⟩ := of_bind h
      obtain ⟨y28, hy28, h⟩ := of_bind h
      obtain ⟨a29, ha29, h⟩ := of_sI h
      refine V_sreg (mb 85 53) [16, 80000] (s1 := ⟨.pt 80000 0 :: .bot :: .pt 16 0 :: .bot :: I a29 :: I y28.1 :: bt 79 [], [(16, .box [Ti 0, Ti 0, Ti 0]), (80000, .pbox (σ 80000) [.sl (y28.2.1.map c5), Ti y28.2.2.1, .v (.int .u64 y28.2.2.2)])]⟩) ?_ ?_
      ·refine XR 1 ?_
       refine XL_cons rfl (X_callR (E' := [(16, .box [Ti 0, Ti 0, Ti 0]), (80000, .pbox (σ 80000) [.sl (y27.2.1.map c5), Ti y27.2.2.1, .v (.int .u64 y27.2.2.2)])]) [(80000, 80000)] 60 (s_spec_l1Cur_pick hy27) cf_spec_l1Cur_pick rfl rfl (by kernel_rfl) rfl (mE_cons (by kernel_rfl) mE_nil) rfl (by kernel_rfl) rfl rfl (by kernel_rfl)) ?_
       refine XR 2 ?_
       refine XL_cons rfl (X_callR (E' := [(16, .box [Ti 0, Ti 0, Ti 0]), (80000, .pbox (σ 80000) [.sl (y28.2.1.map c5), Ti y28.2.2.1, .v (.int .u64 y28.2.2.2)])]) [(80000, 80000)] 63 (s_spec_l1Cur_pick hy28) cf_spec_l1Cur_pick rfl rfl (by kernel_rfl) rfl (mE_cons (by kernel_rfl) mE_nil) rfl (by kernel_rfl) rfl rfl (by kernel_rfl)) ?_
       refine XR 2 ?_
       refine XL_nil ?_
       subst ha29
       kernel_rfl
      obtain ⟨y30, hy30, h⟩ := of_bind h
      obtain ⟨b31, hb31, h⟩ := of_sI h
      refine V_sreg (mb 85 116) [16, 80000] (s1 := ⟨.bot :: .bot :: .pt 16 0 :: .bot :: I a29 :: I y28.1 :: I b31 :: bt 78 [], [(16, .box [Ti 0, Ti 0, Ti 0]), (80000, .pbox (σ 80000) [.sl (y30.2.1.map c5), Ti y30.2.2.1, .v (.int .u64 y30.2.2.2)])]⟩) ?_ ?_
      ·refine XR 3 ?_
       refine XL_cons rfl (X_callR (E' := [(16, .box [Ti 0, Ti 0, Ti 0]), (80000, .pbox (σ 80000) [.sl (y30.2.1.map c5), Ti y30.2.2.1, .v (.int .u64 y30.2.2.2)])]) [(80000, 80000)] 67 (s_spec_l1Cur_pick hy30) cf_spec_l1Cur_pick rfl rfl (by kernel_rfl) rfl (mE_cons (by kernel_rfl) mE_nil) rfl (by kernel_rfl) rfl rfl (by kernel_rfl)) ?_
       refine XR 4 ?_
       refine XL_nil ?_
       subst hb31
       kernel_rfl
      obtain ⟨z32, hz32, h⟩ := of_bind h
      obtain ⟨f33, hf33, h⟩ := of_sI h
      refine V_sreg (mb 85 4) [16, 80000] (s1 := ⟨.bot :: .bot :: .pt 16 0 :: bt 82 [], [(16, .box [Ti a29, Ti b31, Ti f33]), (80000, .pbox (σ 80000) [.sl (y30.2.1.map c5), Ti y30.2.2.1, .v (.int .u64 y30.2.2.2)])]⟩) ?_ ?_
      ·refine XR 10 ?_
       refine L0 rfl rfl (Y0_quo64 (a := w64 ((w64 (b31 * b31)) + (w64 (4 * a29)))) (b := w64 (4 * a29)) rfl (by kernel_rfl) (by kernel_rfl) (nz_some hz32)) ?_
       refine XR 2 ?_
       refine L0 rfl rfl (Y0_build (cs := [Ti a29, Ti b31, Ti (w64 ((w64 (Int.tdiv (w64 ((w64 (b31 * b31)) + (w64 (4 * a29)))) (w64 (4 * a29)))) + y28.1))]) pl25 bt25 rfl rfl (by kernel_rfl)) ?_
       refine XR 1 ?_
       refine XL_nil ?_
       subst hf33
       kernel_rfl
      refine V_ret ?_
      obtain rfl := some_inj h
      show PostR _ _ _ _ _ _
      exact ⟨⟨.inr rfl, rfl, rfl, rfl⟩, ⟨rfl, trivial⟩⟩
theorem cf_spec_nuMod : ∀ args w, (callFunc 176 args).run Tryz.prog w = .ok (.enter 176 args) w := run_callFunc Tryz.func176 (by kernel_rfl) (by kernel_rfl)
theorem s_spec_nuMod {a1 : Int} {vm2 : Int} {r : Int} (h : r_spec_nuMod a1 vm2 = some r) : CallS Tryz.prog 176 [I a1, I vm2] (I r) [] := by
  refine CallS_of_text (rs := [.t 4]) (vs := [.tmp 4]) Tryz.func176 rfl rfl (.cons rfl FitsL.nil) (by decide) 15 rfl ?_
  unfold r_spec_nuMod at h
  show V _ _ ⟨I a1 :: I vm2 :: bt 13 [], []⟩ _
  refine V_e (mb 15 3) [] (s1 := ⟨I a1 :: I vm2 :: bt 13 [], []⟩) ?_
  obtain ⟨z3, hz3, h⟩ := of_bind h
  obtain ⟨vr4, hvr4, h⟩ := of_sI h
  refine V_sreg (mb 15 34) [] (s1 := ⟨.bot :: I vm2 :: bt 3 (I vr4 :: bt 9 []), []⟩) ?_ ?_
  ·refine XR 2 ?_
   refine L0 rfl rfl (Y0_rem (k := .i64) (a := a1) (b := vm2) rfl (by kernel_rfl) (by kernel_rfl) (nz_some hz3)) ?_
   refine XR 1 ?_
   refine XL_nil ?_
   subst hvr4
   kernel_rfl
  refine V_seq ?_
  refine V_e (mb 15 1058) [] (s1 := ⟨.bot :: I vm2 :: bt 3 (I vr4 :: bt 4 (Bo (ltI vr4 0) :: bt 4 [])), []⟩) ?_
  refine V_cond rfl (fun hc5 => ?_) (fun hc5 => ?_)
  ·have h := of_true h hc5
   obtain ⟨vr6, hvr6, h⟩ := of_sI h
   refine V_reg (mb 15 32) [] (s1 := ⟨bt 5 (I vr6 :: bt 9 []), []⟩) ?_ ?_
   ·refine XR 4 ?_
    refine XL_nil ?_
    subst hvr6
    kernel_rfl
   show V _ _ _ _
   refine V_e (mb 15 16) [] (s1 := ⟨bt 4 (I vr6 :: bt 10 []), []⟩) ?_
   refine V_ret ?_
   obtain rfl := some_inj h
   show Post _ _ _ _ _
   exact ⟨.inr rfl, rfl, rfl, rfl⟩
  ·have h := of_false h hc5
   refine V_skip ?_
   show V _ _ _ _
   refine V_e (mb 15 16) [] (s1 := ⟨bt 4 (I vr4 :: bt 10 []), []⟩) ?_
   refine V_ret ?_
   obtain rfl := some_inj h
   show Post _ _ _ _ _
   exact ⟨.inr rfl, rfl, rfl, rfl⟩
theorem cf_spec_l1Most : ∀ args w, (callFunc 177 args).run Tryz.prog w = .ok (.enter 177 args) w := run_callFunc Tryz.func177 (by kernel_rfl) (by kernel_rfl)
theorem s_spec_l1Most {a1 : Int} {b2 : Int} {r : Int} (h : r_spec_l1Most a1 b2 = some r) : CallS Tryz.prog 177 [I a1, I b2] (I r) [] := by
  refine CallS_of_text (rs := [.t 4]) (vs := [.tmp 4]) Tryz.func177 rfl rfl (.cons rfl FitsL.nil) (by decide) 10 rfl ?_
  unfold r_spec_l1Most at h
  show V _ _ ⟨I a1 :: I b2 :: bt 8 [], []⟩ _
  refine V_e (mb 10 3) [] (s1 := ⟨I a1 :: I b2 :: bt 8 [], []⟩) ?_
  refine V_seq ?_
  refine V_e (mb 10 131) [] (s1 := ⟨I a1 :: I b2 :: bt 5 (Bo (ltI b2 a1) :: .bot :: .bot :: []), []⟩) ?_
  refine V_cond rfl (fun hc3 => ?_) (fun hc3 => ?_)
  ·have h := of_true h hc3
   refine V_e (mb 10 16) [] (s1 := ⟨bt 4 (I a1 :: bt 5 []), []⟩) ?_
   refine V_ret ?_
   obtain rfl := some_inj h
   show Post _ _ _ _ _
   exact ⟨.inr rfl, rfl, rfl, rfl⟩
  ·have h := of_false h hc3
   refine V_skip ?_
   show V _ _ _ _
   refine V_e (mb 10 16) [] (s1 := ⟨bt 4 (I b2 :: bt 5 []), []⟩) ?_
   refine V_ret ?_
   obtain rfl := some_inj h
   show Post _ _ _ _ _
   exact ⟨.inr rfl, rfl, rfl, rfl⟩
theorem cf_spec_l1Cur_disc : ∀ args w, (callFunc 84 args).run Tryz.prog w = .ok (.enter 84 args) w := run_callFunc Tryz.func84 (by kernel_rfl) (by kernel_rfl)
theorem s_spec_l1Cur_disc {c1 : ((List Int) × Int × Int)} {r : (Int × (((List Int) × Int × Int)))} (h : r_spec_l1Cur_disc c1 = some r) : CallR Tryz.prog 84 [.pt 80000 0] [(80000, .box [.sl (c1.1.map c5), Ti c1.2.1, .v (.int .u64 c1.2.2)])] (I r.1) [] [(80000, .box [.sl (r.2.1.map c5), Ti r.2.2.1, .v (.int .u64 r.2.2.2)])] := by
  refine CallR_of_text (rs := [.t 2]) (vs := [.tmp 2]) Tryz.func84 rfl rfl (.cons rfl FitsL.nil) (by decide) 42 rfl rfl fun σ => ?_
  unfold r_spec_l1Cur_disc at h
  show V _ _ ⟨.pt 80000 0 :: bt 41 [], [(80000, .pbox (σ 80000) [.sl (c1.1.map c5), Ti c1.2.1, .v (.int .u64 c1.2.2)])]⟩ _
  refine V_e (mb 42 1) [80000] (s1 := ⟨.pt 80000 0 :: bt 41 [], [(80000, .pbox (σ 80000) [.sl (c1.1.map c5), Ti c1.2.1, .v (.int .u64 c1.2.2)])]⟩) ?_
  refine V_seq ?_
  obtain ⟨y2, hy2, h⟩ := of_bind h
  refine V_sreg (mb 42 33) [80000] (s1 := ⟨.pt 80000 0 :: bt 4 (I y2.1 :: bt 36 []), [(80000, .pbox (σ 80000) [.sl (y2.2.1.map c5), Ti y2.2.2.1, .v (.int .u64 y2.2.2.2)])]⟩) ?_ ?_
  ·refine XR 1 ?_
   refine XL_cons rfl (X_callR (E' := [(80000, .pbox (σ 80000) [.sl (y2.2.1.map c5), Ti y2.2.2.1, .v (.int .u64 y2.2.2.2)])]) [(80000, 80000)] 5 (s_spec_l1Cur_pick hy2) cf_spec_l1Cur_pick rfl rfl (by kernel_rfl) rfl (mE_cons (by kernel_rfl) mE_nil) rfl (by kernel_rfl) rfl rfl (by kernel_rfl)) ?_
   exact XE
  refine V_block ?_
  refine V_e (mb 42 97) [80000] (s1 := ⟨.pt 80000 0 :: bt 4 (I y2.1 :: Bo (eqI y2.1 0) :: bt 35 []), [(80000, .pbox (σ 80000) [.sl (y2.2.1.map c5), Ti y2.2.2.1, .v (.int .u64 y2.2.2.2)])]⟩) ?_
  refine V_cond rfl (fun hc3 => ?_) (fun hc3 => ?_)
  ·have h := of_true h hc3
   obtain ⟨y4, hy4, h⟩ := of_bind h
   refine V_sreg (mb 42 4) [80000] (s1 := ⟨.bot :: .bot :: I y4.1 :: bt 39 [], [(80000, .pbox (σ 80000) [.sl (y4.2.1.map c5), Ti y4.2.2.1, .v (.int .u64 y4.2.2.2)])]⟩) ?_ ?_
   ·refine XR 1 ?_
    refine L1 rfl rfl (Y1_bslice (z := zv3) (els := [-3, -4, -2000, -1999, -1996, -1995, -163, -2001, -2003, -2004, 0, 1, 5, -1, -2, -5, -9223372036854775808].map c3) Tryz.underlying51 iz3 rfl (by decide) rfl (by kernel_rfl) rfl (by simp [c3]) (by decide) (by decide)) ?_
    refine XL_freeze 72 (T := 3) (sz := 1) (els := ([-3, -4, -2000, -1999, -1996, -1995, -163, -2001, -2003, -2004, 0, 1, 5, -1, -2, -5, -9223372036854775808]).map c3) (s1 := ⟨.pt 80000 0 :: bt 4 (I y2.1 :: Bo (eqI y2.1 0) :: .bot :: .pt 80000 0 :: .c (.sl (([-3, -4, -2000, -1999, -1996, -1995, -163, -2001, -2003, -2004, 0, 1, 5, -1, -2, -5, -9223372036854775808]).map c3)) :: bt 32 []), [(80000, .pbox (σ 80000) [.sl (y2.2.1.map c5), Ti y2.2.2.1, .v (.int .u64 y2.2.2.2)])]⟩) (by kernel_rfl) (by kernel_rfl) ?_
    refine XL_cons rfl (X_callR (E' := [(80000, .pbox (σ 80000) [.sl (y4.2.1.map c5), Ti y4.2.2.1, .v (.int .u64 y4.2.2.2)])]) [(80000, 80000)] 10 (s_spec_l1Cur_among hy4) cf_spec_l1Cur_among rfl rfl (by kernel_rfl) rfl (mE_cons (by kernel_rfl) mE_nil) rfl (by kernel_rfl) rfl rfl (by kernel_rfl)) ?_
    exact XE
   refine V_ret ?_
   obtain rfl := some_inj h
   show PostR _ _ _ _ _ _
   exact ⟨⟨.inr rfl, rfl, rfl, rfl⟩, ⟨rfl, trivial⟩⟩
  ·have h := of_false h hc3
   obtain ⟨j5, hj5, h⟩ := of_bind h
   refine V_cutK (mb 42 2081) [80000] (s1 := ⟨.pt 80000 0 :: bt 4 (I y2.1 :: bt 5 (Bo j5 :: bt 30 [])), [(80000, .pbox (σ 80000) [.sl (y2.2.1.map c5), Ti y2.2.2.1, .v (.int .u64 y2.2.2.2)])]⟩) ?_ ?_
   ·clear h
    have h := hj5
    clear hj5
    refine V_e (mb 42 2081) [80000] (s1 := ⟨.pt 80000 0 :: bt 4 (I y2.1 :: bt 5 (Bo (eqI y2.1 1) :: bt 30 [])), [(80000, .pbox (σ 80000) [.sl (y2.2.1.map c5), Ti y2.2.2.1, .v (.int .u64 y2.2.2.2)])]⟩) ?_
    refine V_cond rfl (fun hc6 => ?_) (fun hc6 => ?_)
    ·have h := of_true h hc6
     refine V_skip ?_
     obtain rfl := some_inj h
     show St.keep _ _ _ = _
     rfl
    ·have h := of_false h hc6
     refine V_reg (mb 42 2081) [80000] (s1 := ⟨.pt 80000 0 :: bt 4 (I y2.1 :: bt 5 (Bo (eqI y2.1 2) :: bt 30 [])), [(80000, .pbox (σ 80000) [.sl (y2.2.1.map c5), Ti y2.2.2.1, .v (.int .u64 y2.2.2.2)])]⟩) ?_ ?_
     ·exact XE
     obtain rfl := some_inj h
     show St.keep _ _ _ = _
     rfl
   refine V_cond rfl (fun hc7 => ?_) (fun hc7 => ?_)
   ·have h := of_true h hc7
    obtain ⟨y8, hy8, h⟩ := of_bind h
    obtain ⟨d9, hd9, h⟩ := of_sI h
    refine V_sreg (mb 42 8) [80000] (s1 := ⟨bt 3 (I d9 :: bt 38 []), [(80000, .pbox (σ 80000) [.sl (y8.2.1.map c5), Ti y8.2.2.1, .v (.int .u64 y8.2.2.2)])]⟩) ?_ ?_
    ·refine XR 1 ?_
     refine XL_cons rfl (X_callR (E' := [(80000, .pbox (σ 80000) [.sl (y8.2.1.map c5), Ti y8.2.2.1, .v (.int .u64 y8.2.2.2)])]) [(80000, 80000)] 15 (s_spec_l1Cur_pick hy8) cf_spec_l1Cur_pick rfl rfl (by kernel_rfl) rfl (mE_cons (by kernel_rfl) mE_nil) rfl (by kernel_rfl) rfl rfl (by kernel_rfl)) ?_
     refine XR 2 ?_
     refine XL_nil ?_
     subst hd9
     kernel_rfl
    refine V_seq ?_
    obtain ⟨y10, hy10, h⟩ := of_bind h
    refine V_sreg (mb 42 524296) [80000] (s1 := ⟨bt 3 (I d9 :: bt 15 (Bo (ltI 1 y10) :: bt 22 [])), [(80000, .pbox (σ 80000) [.sl (y8.2.1.map c5), Ti y8.2.2.1, .v (.int .u64 y8.2.2.2)])]⟩) ?_ ?_
    ·refine XR 1 ?_
     refine XC (s_spec_nuMod hy10) cf_spec_nuMod rfl rfl rfl ?_
     exact XE
    refine V_cond rfl (fun hc11 => ?_) (fun hc11 => ?_)
    ·have h := of_true h hc11
     obtain ⟨y12, hy12, h⟩ := of_bind h
     refine V_reg (mb 42 8) [80000] (s1 := ⟨bt 3 (I y12 :: bt 38 []), [(80000, .pbox (σ 80000) [.sl (y8.2.1.map c5), Ti y8.2.2.1, .v (.int .u64 y8.2.2.2)])]⟩) ?_ ?_
     ·refine XR 2 ?_
      refine XC (s_spec_l1Most hy12) cf_spec_l1Most rfl rfl rfl ?_
      exact XE
     show V _ _ _ _
     refine V_e (mb 42 4) [80000] (s1 := ⟨.bot :: .bot :: I y12 :: bt 39 [], [(80000, .pbox (σ 80000) [.sl (y8.2.1.map c5), Ti y8.2.2.1, .v (.int .u64 y8.2.2.2)])]⟩) ?_
     refine V_ret ?_
     obtain rfl := some_inj h
     show PostR _ _ _ _ _ _
     exact ⟨⟨.inr rfl, rfl, rfl, rfl⟩, ⟨rfl, trivial⟩⟩
    ·have h := of_false h hc11
     refine V_skip ?_
     show V _ _ _ _
     refine V_e (mb 42 4) [80000] (s1 := ⟨.bot :: .bot :: I d9 :: bt 39 [], [(80000, .pbox (σ 80000) [.sl (y8.2.1.map c5), Ti y8.2.2.1, .v (.int .u64 y8.2.2.2)])]⟩) ?_
     refine V_ret ?_
     obtain rfl := some_inj h
     show PostR _ _ _ _ _ _
     exact ⟨⟨.inr rfl, rfl, rfl, rfl⟩, ⟨rfl, trivial⟩⟩
   ·have h := of_false h hc7
    obtain ⟨j13, hj13, h⟩ := of_bind h
    refine V_cutK (mb 42 16777249) [80000] (s1 := ⟨.pt 80000 0 :: bt 4 (I y2.1 :: bt 18 (Bo j13 :: bt 17 [])), [(80000, .pbox (σ 80000) [.sl (y2.2.1.map c5), Ti y2.2.2.1, .v (.int .u64 y2.2.2.2)])]⟩) ?_ ?_
    ·clear h
     have h := hj13
     clear hj13
     refine V_e (mb 42 16777249) [80000] (s1 := ⟨.pt 80000 0 :: bt 4 (I y2.1 :: bt 18 (Bo (eqI y2.1 3) :: bt 17 [])), [(80000, .pbox (σ 80000) [.sl (y2.2.1.map c5), Ti y2.2.2.1, .v (.int .u64 y2.2.2.2)])]⟩) ?_
     refine V_cond rfl (fun hc14 => ?_) (fun hc14 => ?_)
     ·have h := of_true h hc14
      refine V_skip ?_
      obtain rfl := some_inj h
      show St.keep _ _ _ = _
      rfl
     ·have h := of_false h hc14
      refine V_e (mb 42 16777249) [80000] (s1 := ⟨.pt 80000 0 :: bt 4 (I y2.1 :: bt 18 (Bo (eqI y2.1 4) :: bt 17 [])), [(80000, .pbox (σ 80000) [.sl (y2.2.1.map c5), Ti y2.2.2.1, .v (.int .u64 y2.2.2.2)])]⟩) ?_
      refine V_cond rfl (fun hc15 => ?_) (fun hc15 => ?_)
      ·have h := of_true h hc15
       refine V_skip ?_
       obtain rfl := some_inj h
       show St.keep _ _ _ = _
       rfl
      ·have h := of_false h hc15
       refine V_reg (mb 42 16777249) [80000] (s1 := ⟨.pt 80000 0 :: bt 4 (I y2.1 :: bt 18 (Bo (eqI y2.1 5) :: bt 17 [])), [(80000, .pbox (σ 80000) [.sl (y2.2.1.map c5), Ti y2.2.2.1, .v (.int .u64 y2.2.2.2)])]⟩) ?_ ?_
       ·exact XE
       obtain rfl := some_inj h
       show St.keep _ _ _ = _
       rfl
    refine V_cond rfl (fun hc16 => ?_) (fun hc16 => ?_)
    ·have h := of_true h hc16
     obtain ⟨y17, hy17, h⟩ := of_bind h
     refine V_sreg (mb 42 4) [80000] (s1 := ⟨.bot :: .bot :: I y17.1 :: bt 39 [], [(80000, .pbox (σ 80000) [.sl (y17.2.1.map c5), Ti y17.2.2.1, .v (.int .u64 y17.2.2.2)])]⟩) ?_ ?_
     ·refine XR 1 ?_
      refine L1 rfl rfl (Y1_bslice (z := zv3) (els := [-84, -420, -231, -260, -455, -520, -660, -1155, -1320, -1380, -1428, -1540, -399, -1092, -1560, -1785].map c3) Tryz.underlying51 iz3 rfl (by decide) rfl (by kernel_rfl) rfl (by simp [c3]) (by decide) (by decide)) ?_
      refine XL_freeze 232 (T := 3) (sz := 1) (els := ([-84, -420, -231, -260, -455, -520, -660, -1155, -1320, -1380, -1428, -1540, -399, -1092, -1560, -1785]).map c3) (s1 := ⟨.pt 80000 0 :: bt 4 (I y2.1 :: bt 18 (Bo j13 :: bt 3 (.pt 80000 0 :: .c (.sl (([-84, -420, -231, -260, -455, -520, -660, -1155, -1320, -1380, -1428, -1540, -399, -1092, -1560, -1785]).map c3)) :: bt 12 []))), [(80000, .pbox (σ 80000) [.sl (y2.2.1.map c5), Ti y2.2.2.1, .v (.int .u64 y2.2.2.2)])]⟩) (by kernel_rfl) (by kernel_rfl) ?_
      refine XL_cons rfl (X_callR (E' := [(80000, .pbox (σ 80000) [.sl (y17.2.1.map c5), Ti y17.2.2.1, .v (.int .u64 y17.2.2.2)])]) [(80000, 80000)] 30 (s_spec_l1Cur_among hy17) cf_spec_l1Cur_among rfl rfl (by kernel_rfl) rfl (mE_cons (by kernel_rfl) mE_nil) rfl (by kernel_rfl) rfl rfl (by kernel_rfl)) ?_
      exact XE
     refine V_ret ?_
     obtain rfl := some_inj h
     show PostR _ _ _ _ _ _
     exact ⟨⟨.inr rfl, rfl, rfl, rfl⟩, ⟨rfl, trivial⟩⟩
    ·have h := of_false h hc16
     obtain ⟨j18, hj18, h⟩ := of_bind h
     refine V_cutK (mb 42 2147483649) [80000] (s1 := ⟨.pt 80000 0 :: bt 30 (Bo j18 :: bt 10 []), [(80000, .pbox (σ 80000) [.sl (y2.2.1.map c5), Ti y2.2.2.1, .v (.int .u64 y2.2.2.2)])]⟩) ?_ ?_
     ·clear h
      have h := hj18
      clear hj18
      refine V_e (mb 42 2147483681) [80000] (s1 := ⟨.pt 80000 0 :: bt 4 (I y2.1 :: bt 25 (Bo (eqI y2.1 6) :: bt 10 [])), [(80000, .pbox (σ 80000) [.sl (y2.2.1.map c5), Ti y2.2.2.1, .v (.int .u64 y2.2.2.2)])]⟩) ?_
      refine V_cond rfl (fun hc19 => ?_) (fun hc19 => ?_)
      ·have h := of_true h hc19
       refine V_skip ?_
       obtain rfl := some_inj h
       show St.keep _ _ _ = _
       rfl
      ·have h := of_false h hc19
       refine V_reg (mb 42 2147483649) [80000] (s1 := ⟨.pt 80000 0 :: bt 30 (Bo (eqI y2.1 7) :: bt 10 []), [(80000, .pbox (σ 80000) [.sl (y2.2.1.map c5), Ti y2.2.2.1, .v (.int .u64 y2.2.2.2)])]⟩) ?_ ?_
       ·exact XE
       obtain rfl := some_inj h
       show St.keep _ _ _ = _
       rfl
     refine V_cond rfl (fun hc20 => ?_) (fun hc20 => ?_)
     ·have h := of_true h hc20
      obtain ⟨y21, hy21, h⟩ := of_bind h
      obtain ⟨t22, ht22, h⟩ := of_sI h
      refine V_sreg (mb 42 4) [80000] (s1 := ⟨.bot :: .bot :: I t22 :: bt 39 [], [(80000, .pbox (σ 80000) [.sl (y21.2.1.map c5), Ti y21.2.2.1, .v (.int .u64 y21.2.2.2)])]⟩) ?_ ?_
      ·refine XR 1 ?_
       refine XL_cons rfl (X_callR (E' := [(80000, .pbox (σ 80000) [.sl (y21.2.1.map c5), Ti y21.2.2.1, .v (.int .u64 y21.2.2.2)])]) [(80000, 80000)] 35 (s_spec_l1Cur_pick hy21) cf_spec_l1Cur_pick rfl rfl (by kernel_rfl) rfl (mE_cons (by kernel_rfl) mE_nil) rfl (by kernel_rfl) rfl rfl (by kernel_rfl)) ?_
       refine XR 3 ?_
       refine XL_nil ?_
       subst ht22
       kernel_rfl
      refine V_ret ?_
      obtain rfl := some_inj h
      show PostR _ _ _ _ _ _
      exact ⟨⟨.inr rfl, rfl, rfl, rfl⟩, ⟨rfl, trivial⟩⟩
     ·have h := of_false h hc20
      refine V_skip ?_
      show V _ _ _ _
      obtain ⟨y23, hy23, h⟩ := of_bind h
      obtain ⟨t24, ht24, h⟩ := of_sI h
      refine V_sreg (mb 42 4) [80000] (s1 := ⟨.bot :: .bot :: I t24 :: bt 39 [], [(80000, .pbox (σ 80000) [.sl (y23.2.1.map c5), Ti y23.2.2.1, .v (.int .u64 y23.2.2.2)])]⟩) ?_ ?_
      ·refine XR 1 ?_
       refine XL_cons rfl (X_callR (E' := [(80000, .pbox (σ 80000) [.sl (y23.2.1.map c5), Ti y23.2.2.1, .v (.int .u64 y23.2.2.2)])]) [(80000, 80000)] 39 (s_spec_l1Cur_pick hy23) cf_spec_l1Cur_pick rfl rfl (by kernel_rfl) rfl (mE_cons (by kernel_rfl) mE_nil) rfl (by kernel_rfl) rfl rfl (by kernel_rfl)) ?_
       refine XR 3 ?_
       refine XL_nil ?_
       subst ht24
       kernel_rfl
      refine V_ret ?_
      obtain rfl := some_inj h
      show PostR _ _ _ _ _ _
      exact ⟨⟨.inr rfl, rfl, rfl, rfl⟩, ⟨rfl, trivial⟩⟩
theorem cf_spec_l1In : ∀ args w, (callFunc 178 args).run Tryz.prog w = .ok (.enter 178 args) w := run_callFunc Tryz.func178 (by kernel_rfl) (by kernel_rfl)
theorem s_spec_l1In {vn1 : Int} {lo2 : Int} {hi3 : Int} {r : Bool} (h : r_spec_l1In vn1 lo2 hi3 = some r) : CallS Tryz.prog 178 [I vn1, I lo2, I hi3] (Bo r) [] := by
  refine CallS_of_text (rs := [.t 6]) (vs := [.tmp 6]) Tryz.func178 rfl rfl (.cons rfl FitsL.nil) (by decide) 15 rfl ?_
  unfold r_spec_l1In at h
  show V _ _ ⟨I vn1 :: I lo2 :: I hi3 :: bt 12 [], []⟩ _
  refine V_e (mb 15 7) [] (s1 := ⟨I vn1 :: I lo2 :: I hi3 :: bt 12 [], []⟩) ?_
  refine V_sreg (mb 15 64) [] (s1 := ⟨bt 6 (Bo (bif (leI lo2 vn1) then (leI vn1 hi3) else false) :: bt 8 []), []⟩) ?_ ?_
  ·refine XR 4 ?_
   refine XL_split (leI lo2 vn1) (fun hc4 => ?_) (fun hc4 => ?_)
   ·refine XL_takeC _ rfl rfl (by kernel_rfl) hc4 (X_of_Y0 rfl (E_move (I vn1) rfl (by kernel_rfl))) ?_
    refine XL_takeC _ rfl rfl (by kernel_rfl) hc4 (X_of_Y0 rfl (E_move (I hi3) rfl (by kernel_rfl))) ?_
    refine XL_takeC _ rfl rfl (by kernel_rfl) hc4 (X_of_Y0 rfl (Y0_lew (k := .i64) (a := vn1) (b := hi3) rfl (by kernel_rfl) (by kernel_rfl))) ?_
    refine XL_cons rfl (X_of_Y0 rfl (Y0_pick1 (b := leI lo2 vn1) (p := leI vn1 hi3) (q := false) rfl (by kernel_rfl) hc4 (by kernel_rfl))) ?_
    exact XE
   ·refine XL_skipT _ rfl rfl (by kernel_rfl) hc4 rfl ?_
    refine XL_skipT _ rfl rfl (by kernel_rfl) hc4 rfl ?_
    refine XL_skipT _ rfl rfl (by kernel_rfl) hc4 rfl ?_
    refine XL_cons rfl (X_of_Y0 rfl (Y0_pick0 (b := leI lo2 vn1) (p := leI vn1 hi3) (q := false) rfl (by kernel_rfl) hc4 (by kernel_rfl))) ?_
    exact XE
  refine V_ret ?_
  obtain rfl := some_inj h
  show Post _ _ _ _ _
  exact ⟨.inr rfl, rfl, rfl, rfl⟩
theorem cf_spec_reDisc : ∀ args w, (callFunc 88 args).run Tryz.prog w = .ok (.enter 88 args) w := run_callFunc Tryz.func88 (by kernel_rfl) (by kernel_rfl)
theorem s_spec_reDisc {d1 : Int} {r : Bool} (h : r_spec_reDisc d1 = some r) : CallS Tryz.prog 88 [I d1] (Bo r) [] := by
  refine CallS_of_text (rs := [.t 2]) (vs := [.tmp 2]) Tryz.func88 rfl rfl (.cons rfl FitsL.nil) (by decide) 10 rfl ?_
  unfold r_spec_reDisc at h
  show V _ _ ⟨I d1 :: bt 9 [], []⟩ _
  refine V_e (mb 10 1) [] (s1 := ⟨I d1 :: bt 9 [], []⟩) ?_
  obtain ⟨y2, hy2, h⟩ := of_bind h
  obtain ⟨b5, hb5, h⟩ := of_bind h
  refine V_sreg (mb 10 4) [] (s1 := ⟨.bot :: .bot :: Bo b5 :: bt 7 [], []⟩) ?_ ?_
  ·refine XR 1 ?_
   refine XC (s_spec_l1In hy2) cf_spec_l1In rfl rfl rfl ?_
   refine XR 1 ?_
   refine XL_split y2 (fun hc3 => ?_) (fun hc3 => ?_)
   ·have hb5 := of_true hb5 hc3
    obtain ⟨y4, hy4, hb5⟩ := of_bind hb5
    have hb5 := some_inj hb5
    refine XL_takeC _ rfl rfl (by kernel_rfl) hc3 (X_of_Y0 rfl (E_move (I d1) rfl (by kernel_rfl))) ?_
    refine XL_takeC _ rfl rfl (by kernel_rfl) hc3 (X_of_Y1 rfl (Y1_call (s_spec_nuMod hy4) cf_spec_nuMod rfl (by kernel_rfl))) ?_
    refine XL_takeC _ rfl rfl (by kernel_rfl) hc3 (X_of_Y0 rfl (Y0_ltw (k := .i64) (a := y4) (b := 2) rfl (by kernel_rfl) (by kernel_rfl))) ?_
    refine XL_cons rfl (X_of_Y0 rfl (Y0_pickTe (b := y2) (p := ltI y4 2) rfl (by kernel_rfl) hc3 (by kernel_rfl) hb5)) ?_
    exact XE
   ·have hb5 := some_inj (of_false hb5 hc3)
    refine XL_skipT _ rfl rfl (by kernel_rfl) hc3 rfl ?_
    refine XL_skipT _ rfl rfl (by kernel_rfl) hc3 rfl ?_
    refine XL_skipT _ rfl rfl (by kernel_rfl) hc3 rfl ?_
    refine XL_cons rfl (X_of_Y0 rfl (Y0_pickFe (b := y2) (p := false) rfl (by kernel_rfl) hc3 (by kernel_rfl) hb5)) ?_
    exact XE
  refine V_ret ?_
  obtain rfl := some_inj h
  show Post _ _ _ _ _
  exact ⟨.inr rfl, rfl, rfl, rfl⟩
theorem cf_spec_l1Cur_goodDisc : ∀ args w, (callFunc 125 args).run Tryz.prog w = .ok (.enter 125 args) w := run_callFunc Tryz.func125 (by kernel_rfl) (by kernel_rfl)
theorem s_spec_l1Cur_goodDisc {c1 : ((List Int) × Int × Int)} {r : (Int × (((List Int) × Int × Int)))} (h : r_spec_l1Cur_goodDisc c1 = some r) : CallR Tryz.prog 125 [.pt 80000 0] [(80000, .box [.sl (c1.1.map c5), Ti c1.2.1, .v (.int .u64 c1.2.2)])] (I r.1) [] [(80000, .box [.sl (r.2.1.map c5), Ti r.2.2.1, .v (.int .u64 r.2.2.2)])] := by
  refine CallR_of_text (rs := [.t 2]) (vs := [.tmp 2]) Tryz.func125 rfl rfl (.cons rfl FitsL.nil) (by decide) 10 rfl rfl fun σ => ?_
  unfold r_spec_l1Cur_goodDisc at h
  show V _ _ ⟨.pt 80000 0 :: bt 9 [], [(80000, .pbox (σ 80000) [.sl (c1.1.map c5), Ti c1.2.1, .v (.int .u64 c1.2.2)])]⟩ _
  refine V_e (mb 10 1) [80000] (s1 := ⟨.pt 80000 0 :: bt 9 [], [(80000, .pbox (σ 80000) [.sl (c1.1.map c5), Ti c1.2.1, .v (.int .u64 c1.2.2)])]⟩) ?_
  obtain ⟨y2, hy2, h⟩ := of_bind h
  refine V_sreg (mb 10 8) [80000] (s1 := ⟨bt 3 (I y2.1 :: bt 6 []), [(80000, .pbox (σ 80000) [.sl (y2.2.1.map c5), Ti y2.2.2.1, .v (.int .u64 y2.2.2.2)])]⟩) ?_ ?_
  ·refine XR 1 ?_
   refine XL_cons rfl (X_callR (E' := [(80000, .pbox (σ 80000) [.sl (y2.2.1.map c5), Ti y2.2.2.1, .v (.int .u64 y2.2.2.2)])]) [(80000, 80000)] 5 (s_spec_l1Cur_disc hy2) cf_spec_l1Cur_disc rfl rfl (by kernel_rfl) rfl (mE_cons (by kernel_rfl) mE_nil) rfl (by kernel_rfl) rfl rfl (by kernel_rfl)) ?_
   exact XE
  refine V_seq ?_
  obtain ⟨y3, hy3, h⟩ := of_bind h
  refine V_sreg (mb 10 264) [80000] (s1 := ⟨bt 3 (I y2.1 :: bt 4 (Bo (!y3) :: .bot :: [])), [(80000, .pbox (σ 80000) [.sl (y2.2.1.map c5), Ti y2.2.2.1, .v (.int .u64 y2.2.2.2)])]⟩) ?_ ?_
  ·refine XR 1 ?_
   refine XC (s_spec_reDisc hy3) cf_spec_reDisc rfl rfl rfl ?_
   exact XE
  refine V_cond rfl (fun hc4 => ?_) (fun hc4 => ?_)
  ·have h := of_true h hc4
   refine V_e (mb 10 4) [80000] (s1 := ⟨.bot :: .bot :: I (-23) :: bt 7 [], [(80000, .pbox (σ 80000) [.sl (y2.2.1.map c5), Ti y2.2.2.1, .v (.int .u64 y2.2.2.2)])]⟩) ?_
   refine V_ret ?_
   obtain rfl := some_inj h
   show PostR _ _ _ _ _ _
   exact ⟨⟨.inr rfl, rfl, rfl, rfl⟩, ⟨rfl, trivial⟩⟩
  ·have h := of_false h hc4
   refine V_skip ?_
   show V _ _ _ _
   refine V_e (mb 10 4) [80000] (s1 := ⟨.bot :: .bot :: I y2.1 :: bt 7 [], [(80000, .pbox (σ 80000) [.sl (y2.2.1.map c5), Ti y2.2.2.1, .v (.int .u64 y2.2.2.2)])]⟩) ?_
   refine V_ret ?_
   obtain rfl := some_inj h
   show PostR _ _ _ _ _ _
   exact ⟨⟨.inr rfl, rfl, rfl, rfl⟩, ⟨rfl, trivial⟩⟩
theorem cf_spec_foDisc : ∀ args w, (callFunc 111 args).run Tryz.prog w = .ok (.enter 111 args) w := run_callFunc Tryz.func111 (by kernel_rfl) (by kernel_rfl)
theorem s_spec_foDisc {f1 : (Int × Int × Int)} {r : Int} (h : r_spec_foDisc f1 = some r) : CallS Tryz.prog 111 [.ag [Ti f1.1, Ti f1.2.1, Ti f1.2.2]] (I r) [] := by
  refine CallS_of_text (rs := [.t 2]) (vs := [.tmp 2]) Tryz.func111 rfl rfl (.cons rfl FitsL.nil) (by decide) 15 rfl ?_
  unfold r_spec_foDisc at h
  show V _ _ ⟨.ag [Ti f1.1, Ti f1.2.1, Ti f1.2.2] :: bt 14 [], []⟩ _
  refine V_e (mb 15 2) [8] (s1 := ⟨.bot :: .pt 8 0 :: bt 13 [], [(8, .box [Ti f1.1, Ti f1.2.1, Ti f1.2.2])]⟩) ?_
  obtain ⟨t2, ht2, h⟩ := of_sI h
  refine V_sreg (mb 15 4) [] (s1 := ⟨.bot :: .bot :: I t2 :: bt 12 [], []⟩) ?_ ?_
  ·refine XR 13 ?_
   refine XL_nil ?_
   subst ht2
   kernel_rfl
  refine V_ret ?_
  obtain rfl := some_inj h
  show Post _ _ _ _ _
  exact ⟨.inr rfl, rfl, rfl, rfl⟩
theorem cf_spec_reIs : ∀ args w, (callFunc 219 args).run Tryz.prog w = .ok (.enter 219 args) w := run_callFunc Tryz.func219 (by kernel_rfl) (by kernel_rfl)
theorem s_spec_reIs {f1 : (Int × Int × Int)} {r : Bool} (h : r_spec_reIs f1 = some r) : CallS Tryz.prog 219 [.ag [Ti f1.1, Ti f1.2.1, Ti f1.2.2]] (Bo r) [] := by
  refine CallS_of_text (rs := [.t 2]) (vs := [.tmp 2]) Tryz.func219 rfl rfl (.cons rfl FitsL.nil) (by decide) 35 rfl ?_
  unfold r_spec_reIs at h
  show V _ _ ⟨.ag [Ti f1.1, Ti f1.2.1, Ti f1.2.2] :: bt 34 [], []⟩ _
  refine V_e (mb 35 2) [8] (s1 := ⟨.bot :: .pt 8 0 :: bt 33 [], [(8, .box [Ti f1.1, Ti f1.2.1, Ti f1.2.2])]⟩) ?_
  obtain ⟨t6, ht6, h⟩ := of_bind h
  have ht6 := some_inj ht6
  refine V_sreg (mb 35 4) [] (s1 := ⟨.bot :: .bot :: Bo t6 :: bt 32 [], []⟩) ?_ ?_
  ·refine XR 7 ?_
   refine XL_split (ltI (w64 (0 - f1.1)) f1.2.1) (fun hc2 => ?_) (fun hc2 => ?_)
   ·refine XL_takeC _ rfl rfl (by kernel_rfl) hc2 (X_of_Y0 rfl (E_field (.pt 8 1) Tryz.underlying25 rfl sz3 rfl (by kernel_rfl) (by intro hh; cases hh))) ?_
    refine XL_takeC _ rfl rfl (by kernel_rfl) hc2 (X_of_Y0 rfl (Y0_load1 (c := Ti f1.2.1) (cs := [Ti f1.2.2]) sc3 rfl (by kernel_rfl))) ?_
    refine XL_takeC _ rfl rfl (by kernel_rfl) hc2 (X_of_Y0 rfl (E_field (.pt 8 0) Tryz.underlying25 rfl sz3 rfl (by kernel_rfl) (by intro hh; cases hh))) ?_
    refine XL_takeC _ rfl rfl (by kernel_rfl) hc2 (X_of_Y0 rfl (Y0_load1 (c := Ti f1.1) (cs := [Ti f1.2.1, Ti f1.2.2]) sc3 rfl (by kernel_rfl))) ?_
    refine XL_takeC _ rfl rfl (by kernel_rfl) hc2 (X_of_Y0 rfl (Y0_lew (k := .i64) (a := f1.2.1) (b := f1.1) rfl (by kernel_rfl) (by kernel_rfl))) ?_
    refine XL_cons rfl (X_of_Y0 rfl (Y0_pick1 (b := ltI (w64 (0 - f1.1)) f1.2.1) (p := leI f1.2.1 f1.1) (q := false) rfl (by kernel_rfl) hc2 (by kernel_rfl))) ?_
    refine XR 1 ?_
    refine XL_split (bif (ltI (w64 (0 - f1.1)) f1.2.1) then (leI f1.2.1 f1.1) else false) (fun hc3 => ?_) (fun hc3 => ?_)
    ·refine XL_takeC _ rfl rfl (by kernel_rfl) hc3 (X_of_Y0 rfl (E_field (.pt 8 0) Tryz.underlying25 rfl sz3 rfl (by kernel_rfl) (by intro hh; cases hh))) ?_
     refine XL_takeC _ rfl rfl (by kernel_rfl) hc3 (X_of_Y0 rfl (Y0_load1 (c := Ti f1.1) (cs := [Ti f1.2.1, Ti f1.2.2]) sc3 rfl (by kernel_rfl))) ?_
     refine XL_takeC _ rfl rfl (by kernel_rfl) hc3 (X_of_Y0 rfl (E_field (.pt 8 2) Tryz.underlying25 rfl sz3 rfl (by kernel_rfl) (by intro hh; cases hh))) ?_
     refine XL_takeC _ rfl rfl (by kernel_rfl) hc3 (X_of_Y0 rfl (Y0_load1 (c := Ti f1.2.2) (cs := []) sc3 rfl (by kernel_rfl))) ?_
     refine XL_takeC _ rfl rfl (by kernel_rfl) hc3 (X_of_Y0 rfl (Y0_ltw (k := .i64) (a := f1.1) (b := f1.2.2) rfl (by kernel_rfl) (by kernel_rfl))) ?_
     refine XL_takeC _ rfl rfl (by kernel_rfl) hc3 (X_of_Y0 rfl (E_move (Bo (ltI f1.1 f1.2.2)) rfl (by kernel_rfl))) ?_
     refine XL_split (ltI f1.1 f1.2.2) (fun hc4 => ?_) (fun hc4 => ?_)
     ·refine XL_skipF _ rfl rfl (by kernel_rfl) hc4 rfl ?_
      refine XL_skipF _ rfl rfl (by kernel_rfl) hc4 rfl ?_
      refine XL_skipF _ rfl rfl (by kernel_rfl) hc4 rfl ?_
      refine XL_skipF _ rfl rfl (by kernel_rfl) hc4 rfl ?_
      refine XL_skipF _ rfl rfl (by kernel_rfl) hc4 rfl ?_
      refine XL_skipF _ rfl rfl (by kernel_rfl) hc4 rfl ?_
      refine XL_skip2 rfl rfl (by kernel_rfl) rfl ?_
      refine XL_skip2 rfl rfl (by kernel_rfl) rfl ?_
      refine XL_skip2 rfl rfl (by kernel_rfl) rfl ?_
      refine XL_skipF _ rfl rfl (by kernel_rfl) hc4 rfl ?_
      refine XL_takeC _ rfl rfl (by kernel_rfl) hc3 (X_of_Y0 rfl (Y0_pick1 (b := ltI f1.1 f1.2.2) (p := true) (q := bif (eqI f1.1 f1.2.2) then (leI 0 f1.2.1) else false) rfl (by kernel_rfl) hc4 (by kernel_rfl))) ?_
      refine XL_cons rfl (X_of_Y0 rfl (Y0_pick1 (b := bif (ltI (w64 (0 - f1.1)) f1.2.1) then (leI f1.2.1 f1.1) else false) (p := bif (ltI f1.1 f1.2.2) then true else (bif (eqI f1.1 f1.2.2) then (leI 0 f1.2.1) else false)) (q := false) rfl (by kernel_rfl) hc3 (by kernel_rfl))) ?_
      refine XR 1 ?_
      refine XL_nil ?_
      subst ht6
      kernel_rfl
     ·refine XL_takeC _ rfl rfl (by kernel_rfl) hc4 (X_of_Y0 rfl (E_field (.pt 8 0) Tryz.underlying25 rfl sz3 rfl (by kernel_rfl) (by intro hh; cases hh))) ?_
      refine XL_takeC _ rfl rfl (by kernel_rfl) hc4 (X_of_Y0 rfl (Y0_load1 (c := Ti f1.1) (cs := [Ti f1.2.1, Ti f1.2.2]) sc3 rfl (by kernel_rfl))) ?_
      refine XL_takeC _ rfl rfl (by kernel_rfl) hc4 (X_of_Y0 rfl (E_field (.pt 8 2) Tryz.underlying25 rfl sz3 rfl (by kernel_rfl) (by intro hh; cases hh))) ?_
      refine XL_takeC _ rfl rfl (by kernel_rfl) hc4 (X_of_Y0 rfl (Y0_load1 (c := Ti f1.2.2) (cs := []) sc3 rfl (by kernel_rfl))) ?_
      refine XL_takeC _ rfl rfl (by kernel_rfl) hc4 (X_of_Y0 rfl (Y0_eqw (k := .i64) (a := f1.1) (b := f1.2.2) rfl (by kernel_rfl) (by kernel_rfl))) ?_
      refine XL_takeC _ rfl rfl (by kernel_rfl) hc4 (X_of_Y0 rfl (E_move (Bo (eqI f1.1 f1.2.2)) rfl (by kernel_rfl))) ?_
      refine XL_split (eqI f1.1 f1.2.2) (fun hc5 => ?_) (fun hc5 => ?_)
      ·refine XL_takeC _ rfl rfl (by kernel_rfl) hc5 (X_of_Y0 rfl (E_field (.pt 8 1) Tryz.underlying25 rfl sz3 rfl (by kernel_rfl) (by intro hh; cases hh))) ?_
       refine XL_takeC _ rfl rfl (by kernel_rfl) hc5 (X_of_Y0 rfl (Y0_load1 (c := Ti f1.2.1) (cs := [Ti f1.2.2]) sc3 rfl (by kernel_rfl))) ?_
       refine XL_takeC _ rfl rfl (by kernel_rfl) hc5 (X_of_Y0 rfl (Y0_gew (k := .i64) (a := f1.2.1) (b := 0) rfl (by kernel_rfl) (by kernel_rfl))) ?_
       refine XL_takeC _ rfl rfl (by kernel_rfl) hc4 (X_of_Y0 rfl (Y0_pick1 (b := eqI f1.1 f1.2.2) (p := leI 0 f1.2.1) (q := false) rfl (by kernel_rfl) hc5 (by kernel_rfl))) ?_
       refine XL_takeC _ rfl rfl (by kernel_rfl) hc3 (X_of_Y0 rfl (Y0_pick0 (b := ltI f1.1 f1.2.2) (p := true) (q := bif (eqI f1.1 f1.2.2) then (leI 0 f1.2.1) else false) rfl (by kernel_rfl) hc4 (by kernel_rfl))) ?_
       refine XL_cons rfl (X_of_Y0 rfl (Y0_pick1 (b := bif (ltI (w64 (0 - f1.1)) f1.2.1) then (leI f1.2.1 f1.1) else false) (p := bif (ltI f1.1 f1.2.2) then true else (bif (eqI f1.1 f1.2.2) then (leI 0 f1.2.1) else false)) (q := false) rfl (by kernel_rfl) hc3 (by kernel_rfl))) ?_
       refine XR 1 ?_
       refine XL_nil ?_
       subst ht6
       kernel_rfl
      ·refine XL_skipT _ rfl rfl (by kernel_rfl) hc5 rfl ?_
       refine XL_skipT _ rfl rfl (by kernel_rfl) hc5 rfl ?_
       refine XL_skipT _ rfl rfl (by kernel_rfl) hc5 rfl ?_
       refine XL_takeC _ rfl rfl (by kernel_rfl) hc4 (X_of_Y0 rfl (Y0_pick0 (b := eqI f1.1 f1.2.2) (p := leI 0 f1.2.1) (q := false) rfl (by kernel_rfl) hc5 (by kernel_rfl))) ?_
       refine XL_takeC _ rfl rfl (by kernel_rfl) hc3 (X_of_Y0 rfl (Y0_pick0 (b := ltI f1.1 f1.2.2) (p := true) (q := bif (eqI f1.1 f1.2.2) then (leI 0 f1.2.1) else false) rfl (by kernel_rfl) hc4 (by kernel_rfl))) ?_
       refine XL_cons rfl (X_of_Y0 rfl (Y0_pick1 (b := bif (ltI (w64 (0 - f1.1)) f1.2.1) then (leI f1.2.1 f1.1) else false) (p := bif (ltI f1.1 f1.2.2) then true else (bif (eqI f1.1 f1.2.2) then (leI 0 f1.2.1) else false)) (q := false) rfl (by kernel_rfl) hc3 (by kernel_rfl))) ?_
       refine XR 1 ?_
       refine XL_nil ?_
       subst ht6
       kernel_rfl
    ·refine XL_skipT _ rfl rfl (by kernel_rfl) hc3 rfl ?_
     refine XL_skipT _ rfl rfl (by kernel_rfl) hc3 rfl ?_
     refine XL_skipT _ rfl rfl (by kernel_rfl) hc3 rfl ?_
     refine XL_skipT _ rfl rfl (by kernel_rfl) hc3 rfl ?_
     refine XL_skipT _ rfl rfl (by kernel_rfl) hc3 rfl ?_
     refine XL_skipT _ rfl rfl (by kernel_rfl) hc3 rfl ?_
     refine XL_skip2 rfl rfl (by kernel_rfl) rfl ?_
     refine XL_skip2 rfl rfl (by kernel_rfl) rfl ?_
     refine XL_skip2 rfl rfl (by kernel_rfl) rfl ?_
     refine XL_skip2 rfl rfl (by kernel_rfl) rfl ?_
     refine XL_skip2 rfl rfl (by kernel_rfl) rfl ?_
     refine XL_skip2 rfl rfl (by kernel_rfl) rfl ?_
     refine XL_skip2 rfl rfl (by kernel_rfl) rfl ?_
     refine XL_skip2 rfl rfl (by kernel_rfl) rfl ?_
     refine XL_skip2 rfl rfl (by kernel_rfl) rfl ?_
     refine XL_skip2 rfl rfl (by kernel_rfl) rfl ?_
     refine XL_skipT _ rfl rfl (by kernel_rfl) hc3 rfl ?_
     refine XL_cons rfl (X_of_Y0 rfl (Y0_pick0 (b := bif (ltI (w64 (0 - f1.1)) f1.2.1) then (leI f1.2.1 f1.1) else false) (p := bif (ltI f1.1 f1.2.2) then true else (bif (eqI f1.1 f1.2.2) then (leI 0 f1.2.1) else false)) (q := false) rfl (by kernel_rfl) hc3 (by kernel_rfl))) ?_
     refine XR 1 ?_
     refine XL_nil ?_
     subst ht6
     kernel_rfl
   ·refine XL_skipT _ rfl rfl (by kernel_rfl) hc2 rfl ?_
    refine XL_skipT _ rfl rfl (by kernel_rfl) hc2 rfl ?_
    refine XL_skipT _ rfl rfl (by kernel_rfl) hc2 rfl ?_
    refine XL_skipT _ rfl rfl (by kernel_rfl) hc2 rfl ?_
    refine XL_skipT _ rfl rfl (by kernel_rfl) hc2 rfl ?_
    refine XL_cons rfl (X_of_Y0 rfl (Y0_pick0 (b := ltI (w64 (0 - f1.1)) f1.2.1) (p := leI f1.2.1 f1.1) (q := false) rfl (by kernel_rfl) hc2 (by kernel_rfl))) ?_
    refine XR 1 ?_
    refine XL_split (bif (ltI (w64 (0 - f1.1)) f1.2.1) then (leI f1.2.1 f1.1) else false) (fun hc3 => ?_) (fun hc3 => ?_)
    ·refine XL_takeC _ rfl rfl (by kernel_rfl) hc3 (X_of_Y0 rfl (E_field (.pt 8 0) Tryz.underlying25 rfl sz3 rfl (by kernel_rfl) (by intro hh; cases hh))) ?_
     refine XL_takeC _ rfl rfl (by kernel_rfl) hc3 (X_of_Y0 rfl (Y0_load1 (c := Ti f1.1) (cs := [Ti f1.2.1, Ti f1.2.2]) sc3 rfl (by kernel_rfl))) ?_
     refine XL_takeC _ rfl rfl (by kernel_rfl) hc3 (X_of_Y0 rfl (E_field (.pt 8 2) Tryz.underlying25 rfl sz3 rfl (by kernel_rfl) (by intro hh; cases hh))) ?_
     refine XL_takeC _ rfl rfl (by kernel_rfl) hc3 (X_of_Y0 rfl (Y0_load1 (c := Ti f1.2.2) (cs := []) sc3 rfl (by kernel_rfl))) ?_
     refine XL_takeC _ rfl rfl (by kernel_rfl) hc3 (X_of_Y0 rfl (Y0_ltw (k := .i64) (a := f1.1) (b := f1.2.2) rfl (by kernel_rfl) (by kernel_rfl))) ?_
     refine XL_takeC _ rfl rfl (by kernel_rfl) hc3 (X_of_Y0 rfl (E_move (Bo (ltI f1.1 f1.2.2)) rfl (by kernel_rfl))) ?_
     refine XL_split (ltI f1.1 f1.2.2) (fun hc4 => ?_) (fun hc4 => ?_)
     ·refine XL_skipF _ rfl rfl (by kernel_rfl) hc4 rfl ?_
      refine XL_skipF _ rfl rfl (by kernel_rfl) hc4 rfl ?_
      refine XL_skipF _ rfl rfl (by kernel_rfl) hc4 rfl ?_
      refine XL_skipF _ rfl rfl (by kernel_rfl) hc4 rfl ?_
      refine XL_skipF _ rfl rfl (by kernel_rfl) hc4 rfl ?_
      refine XL_skipF _ rfl rfl (by kernel_rfl) hc4 rfl ?_
      refine XL_skip2 rfl rfl (by kernel_rfl) rfl ?_
      refine XL_skip2 rfl rfl (by kernel_rfl) rfl ?_
      refine XL_skip2 rfl rfl (by kernel_rfl) rfl ?_
      refine XL_skipF _ rfl rfl (by kernel_rfl) hc4 rfl ?_
      refine XL_takeC _ rfl rfl (by kernel_rfl) hc3 (X_of_Y0 rfl (Y0_pick1 (b := ltI f1.1 f1.2.2) (p := true) (q := bif (eqI f1.1 f1.2.2) then (leI 0 f1.2.1) else false) rfl (by kernel_rfl) hc4 (by kernel_rfl))) ?_
      refine XL_cons rfl (X_of_Y0 rfl (Y0_pick1 (b := bif (ltI (w64 (0 - f1.1)) f1.2.1) then (leI f1.2.1 f1.1) else false) (p := bif (ltI f1.1 f1.2.2) then true else (bif (eqI f1.1 f1.2.2) then (leI 0 f1.2.1) else false)) (q := false) rfl (by kernel_rfl) hc3 (by kernel_rfl))) ?_
      refine XR 1 ?_
      refine XL_nil ?_
      subst ht6
      kernel_rfl
     ·refine XL_takeC _ rfl rfl (by kernel_rfl) hc4 (X_of_Y0 rfl (E_field (.pt 8 0) Tryz.underlying25 rfl sz3 rfl (by kernel_rfl) (by intro hh; cases hh))) ?_
      refine XL_takeC _ rfl rfl (by kernel_rfl) hc4 (X_of_Y0 rfl (Y0_load1 (c := Ti f1.1) (cs := [Ti f1.2.1, Ti f1.2.2]) sc3 rfl (by kernel_rfl))) ?_
      refine XL_takeC _ rfl rfl (by kernel_rfl) hc4 (X_of_Y0 rfl (E_field (.pt 8 2) Tryz.underlying25 rfl sz3 rfl (by kernel_rfl) (by intro hh; cases hh))) ?_
      refine XL_takeC _ rfl rfl (by kernel_rfl) hc4 (X_of_Y0 rfl (Y0_load1 (c := Ti f1.2.2) (cs := []) sc3 rfl (by kernel_rfl))) ?_
      refine XL_takeC _ rfl rfl (by kernel_rfl) hc4 (X_of_Y0 rfl (Y0_eqw (k := .i64) (a := f1.1) (b := f1.2.2) rfl (by kernel_rfl) (by kernel_rfl))) ?_
      refine XL_takeC _ rfl rfl (by kernel_rfl) hc4 (X_of_Y0 rfl (E_move (Bo (eqI f1.1 f1.2.2)) rfl (by kernel_rfl))) ?_
      refine XL_split (eqI f1.1 f1.2.2) (fun hc5 => ?_) (fun hc5 => ?_)
      ·refine XL_takeC _ rfl rfl (by kernel_rfl) hc5 (X_of_Y0 rfl (E_field (.pt 8 1) Tryz.underlying25 rfl sz3 rfl (by kernel_rfl) (by intro hh; cases hh))) ?_
       refine XL_takeC _ rfl rfl (by kernel_rfl) hc5 (X_of_Y0 rfl (Y0_load1 (c := Ti f1.2.1) (cs := [Ti f1.2.2]) sc3 rfl (by kernel_rfl))) ?_
       refine XL_takeC _ rfl rfl (by kernel_rfl) hc5 (X_of_Y0 rfl (Y0_gew (k := .i64) (a := f1.2.1) (b := 0) rfl (by kernel_rfl) (by kernel_rfl))) ?_
       refine XL_takeC _ rfl rfl (by kernel_rfl) hc4 (X_of_Y0 rfl (Y0_pick1 (b := eqI f1.1 f1.2.2) (p := leI 0 f1.2.1) (q := false) rfl (by kernel_rfl) hc5 (by kernel_rfl))) ?_
       refine XL_takeC _ rfl rfl (by kernel_rfl) hc3 (X_of_Y0 rfl (Y0_pick0 (b := ltI f1.1 f1.2.2) (p := true) (q := bif (eqI f1.1 f1.2.2) then (leI 0 f1.2.1) else false) rfl (by kernel_rfl) hc4 (by kernel_rfl))) ?_
       refine XL_cons rfl (X_of_Y0 rfl (Y0_pick1 (b := bif (ltI (w64 (0 - f1.1)) f1.2.1) then (leI f1.2.1 f1.1) else false) (p := bif (ltI f1.1 f1.2.2) then true else (bif (eqI f1.1 f1.2.2) then (leI 0 f1.2.1) else false)) (q := false) rfl (by kernel_rfl) hc3 (by kernel_rfl))) ?_
       refine XR 1 ?_
       refine XL_nil ?_
       subst ht6
       kernel_rfl
      ·refine XL_skipT _ rfl rfl (by kernel_rfl) hc5 rfl ?_
       refine XL_skipT _ rfl rfl (by kernel_rfl) hc5 rfl ?_
       refine XL_skipT _ rfl rfl (by kernel_rfl) hc5 rfl ?_
       refine XL_takeC _ rfl rfl (by kernel_rfl) hc4 (X_of_Y0 rfl (Y0_pick0 (b := eqI f1.1 f1.2.2) (p := leI 0 f1.2.1) (q := false) rfl (by kernel_rfl) hc5 (by kernel_rfl))) ?_
       refine XL_takeC _ rfl rfl (by kernel_rfl) hc3 (X_of_Y0 rfl (Y0_pick0 (b := ltI f1.1 f1.2.2) (p := true) (q := bif (eqI f1.1 f1.2.2) then (leI 0 f1.2.1) else false) rfl (by kernel_rfl) hc4 (by kernel_rfl))) ?_
       refine XL_cons rfl (X_of_Y0 rfl (Y0_pick1 (b := bif (ltI (w64 (0 - f1.1)) f1.2.1) then (leI f1.2.1 f1.1) else false) (p := bif (ltI f1.1 f1.2.2) then true else (bif (eqI f1.1 f1.2.2) then (leI 0 f1.2.1) else false)) (q := false) rfl (by kernel_rfl) hc3 (by kernel_rfl))) ?_
       refine XR 1 ?_
       refine XL_nil ?_
       subst ht6
       kernel_rfl
    ·refine XL_skipT _ rfl rfl (by kernel_rfl) hc3 rfl ?_
     refine XL_skipT _ rfl rfl (by kernel_rfl) hc3 rfl ?_
     refine XL_skipT _ rfl rfl (by kernel_rfl) hc3 rfl ?_
     refine XL_skipT _ rfl rfl (by kernel_rfl) hc3 rfl ?_
     refine XL_skipT _ rfl rfl (by kernel_rfl) hc3 rfl ?_
     refine XL_skipT _ rfl rfl (by kernel_rfl) hc3 rfl ?_
     refine XL_skip2 rfl rfl (by kernel_rfl) rfl ?_
     refine XL_skip2 rfl rfl (by kernel_rfl) rfl ?_
     refine XL_skip2 rfl rfl (by kernel_rfl) rfl ?_
     refine XL_skip2 rfl rfl (by kernel_rfl) rfl ?_
     refine XL_skip2 rfl rfl (by kernel_rfl) rfl ?_
     refine XL_skip2 rfl rfl (by kernel_rfl) rfl ?_
     refine XL_skip2 rfl rfl (by kernel_rfl) rfl ?_
     refine XL_skip2 rfl rfl (by kernel_rfl) rfl ?_
     refine XL_skip2 rfl rfl (by kernel_rfl) rfl ?_
     refine XL_skip2 rfl rfl (by kernel_rfl) rfl ?_
     refine XL_skipT _ rfl rfl (by kernel_rfl) hc3 rfl ?_
     refine XL_cons rfl (X_of_Y0 rfl (Y0_pick0 (b := bif (ltI (w64 (0 - f1.1)) f1.2.1) then (leI f1.2.1 f1.1) else false) (p := bif (ltI f1.1 f1.2.2) then true else (bif (eqI f1.1 f1.2.2) then (leI 0 f1.2.1) else false)) (q := false) rfl (by kernel_rfl) hc3 (by kernel_rfl))) ?_
     refine XR 1 ?_
     refine XL_nil ?_
     subst ht6
     kernel_rfl
  refine V_ret ?_
  obtain rfl := some_inj h
  show Post _ _ _ _ _
  exact ⟨.inr rfl, rfl, rfl, rfl⟩
theorem cf_spec_reAll : ∀ args w, (callFunc 194 args).run Tryz.prog w = .ok (.enter 194 args) w := run_callFunc Tryz.func194 (by kernel_rfl) (by kernel_rfl)
theorem s_spec_reAll {d1 : Int} {r : List ((Int × Int × Int))} (h : r_spec_reAll d1 = some r) : CallS Tryz.prog 194 [I d1] (.ow 0) [(0, .arr 25 3 (r.map c25))] := by
  refine CallS_of_text (rs := [.t 2]) (vs := [.tmp 2]) Tryz.func194 rfl rfl (.cons rfl FitsL.nil) (by decide) 47 rfl ?_
  unfold r_spec_reAll at h
  show V _ _ ⟨I d1 :: bt 46 [], []⟩ _
  refine V_sreg (mb 47 1) [] (s1 := ⟨I d1 :: bt 46 [], []⟩) ?_ ?_
  ·refine L1 rfl rfl (Y1_nil (e := 25) 3 (by decide) (.inl rfl)) ?_
   exact XE
  refine V_sreg (mb 47 9) [24] (s1 := ⟨I d1 :: .bot :: .bot :: .ow 24 :: bt 43 [], [(24, .arr 25 3 ((([] : List ((Int × Int × Int)))).map c25))]⟩) ?_ ?_
  ·refine L1 rfl rfl (Y1_nil (e := 25) 3 (by decide) (.inl rfl)) ?_
   exact XE
  refine V_seq ?_
  refine V_e (mb 47 25) [24] (s1 := ⟨I d1 :: .bot :: .bot :: .ow 24 :: I 1 :: bt 42 [], [(24, .arr 25 3 ((([] : List ((Int × Int × Int)))).map c25))]⟩) ?_
  obtain ⟨o5, hLo5, h⟩ := of_bind h
  refine V_toK (mb 47 8) [24] (s1 := ⟨bt 3 (.ow 24 :: bt 43 []), [(24, .arr 25 3 (o5.map c25))]⟩) ?_ ?_
  ·clear h
   refine V_block (V_loop (fun n s => ∃ (a2 : Int) (l3 : List ((Int × Int × Int))), s.keep (mb 47 25) [24] = (⟨I d1 :: .bot :: .bot :: .ow 24 :: I a2 :: bt 42 [], [(24, .arr 25 3 (l3.map c25))]⟩ : St) ∧ r_spec_reAll_L4 d1 n a2 l3 = some o5) FU ⟨_, _,  by rfl, hLo5⟩ ?_)
   clear hLo5
   rintro n s ⟨a2, l3, hs, h⟩
   refine V_keep _ _ hs ?_
   clear hs
   cases n with
   | zero => cases h
   | succ n =>
    rw [r_spec_reAll_L4] at h
    refine V_seq ?_
    refine V_e (mb 47 8217) [24] (s1 := ⟨I d1 :: .bot :: .bot :: .ow 24 :: I a2 :: bt 8 (Bo (leI (w64 ((w64 (3 * a2)) * a2)) (w64 (0 - d1))) :: bt 33 []), [(24, .arr 25 3 (l3.map c25))]⟩) ?_
    refine V_cond rfl (fun hc6 => ?_) (fun hc6 => ?_)
    ·have h := of_true h hc6
     refine V_skip ?_
     show V _ _ _ _
     refine V_seq ?_
     refine V_block ?_
     obtain ⟨b7, hb7, h⟩ := of_sI h
     refine V_sreg (mb 47 57) [24] (s1 := ⟨I d1 :: .bot :: .bot :: .ow 24 :: I a2 :: I b7 :: bt 41 [], [(24, .arr 25 3 (l3.map c25))]⟩) ?_ ?_
     ·refine XR 3 ?_
      refine XL_nil ?_
      subst hb7
      kernel_rfl
     obtain ⟨o11, hLo11, h⟩ := of_bind h
     refine V_toK (mb 47 25) [24] (s1 := ⟨I d1 :: .bot :: .bot :: .ow 24 :: I a2 :: bt 42 [], [(24, .arr 25 3 (o11.map c25))]⟩) ?_ ?_
     ·clear h
      refine V_block (V_loop (fun n s => ∃ (b8 : Int) (l9 : List ((Int × Int × Int))), s.keep (mb 47 57) [24] = (⟨I d1 :: .bot :: .bot :: .ow 24 :: I a2 :: I b8 :: bt 41 [], [(24, .arr 25 3 (l9.map c25))]⟩ : St) ∧ r_spec_reAll_L10 a2 d1 n b8 l9 = some o11) FU ⟨_, _,  by rfl, hLo11⟩ ?_)
      clear hLo11
      rintro n s ⟨b8, l9, hs, h⟩
      refine V_keep _ _ hs ?_
      clear hs
      cases n with
      | zero => cases h
      | succ n =>
       rw [r_spec_reAll_L10] at h
       refine V_seq ?_
       refine V_e (mb 47 1048633) [24] (s1 := ⟨I d1 :: .bot :: .bot :: .ow 24 :: I a2 :: I b8 :: bt 14 (Bo (leI b8 a2) :: bt 26 []), [(24, .arr 25 3 (l9.map c25))]⟩) ?_
       refine V_cond rfl (fun hc12 => ?_) (fun hc12 => ?_)
       ·have h := of_true h hc12
        refine V_skip ?_
        show V _ _ _ _
        refine V_seq ?_
        refine V_block ?_
        obtain ⟨z13, hz13, h⟩ := of_bind h
        obtain ⟨f14, hf14, h⟩ := of_sI h
        refine V_sreg (mb 47 121) [48, 24] (s1 := ⟨I d1 :: .bot :: .bot :: .ow 24 :: I a2 :: I b8 :: .pt 48 0 :: bt 40 [], [(48, .box [Ti a2, Ti b8, Ti f14]), (24, .arr 25 3 (l9.map c25))]⟩) ?_ ?_
        ·refine XR 9 ?_
         refine L0 rfl rfl (Y0_quo64 (a := w64 ((w64 (b8 * b8)) - d1)) (b := w64 (4 * a2)) rfl (by kernel_rfl) (by kernel_rfl) (nz_some hz13)) ?_
         refine L0 rfl rfl (Y0_build (cs := [Ti a2, Ti b8, Ti (w64 (Int.tdiv (w64 ((w64 (b8 * b8)) - d1)) (w64 (4 * a2))))]) pl25 bt25 rfl rfl (by kernel_rfl)) ?_
         refine XR 2 ?_
         refine XL_nil ?_
         subst hf14
         kernel_rfl
        obtain ⟨y15, hy15, h⟩ := of_bind h
        obtain ⟨b18, hb18, h⟩ := of_bind h
        refine V_sreg (mb 47 2199023255673) [48, 24] (s1 := ⟨I d1 :: .bot :: .bot :: .ow 24 :: I a2 :: I b8 :: .pt 48 0 :: bt 34 (Bo b18 :: bt 5 []), [(48, .box [Ti a2, Ti b8, Ti f14]), (24, .arr 25 3 (l9.map c25))]⟩) ?_ ?_
        ·refine XR 1 ?_
         refine XC (s_spec_foDisc hy15) cf_spec_foDisc rfl rfl rfl ?_
         refine XR 3 ?_
         refine XL_split (eqI y15 d1) (fun hc16 => ?_) (fun hc16 => ?_)
         ·have hb18 := of_true hb18 hc16
          obtain ⟨y17, hy17, hb18⟩ := of_bind hb18
          have hb18 := some_inj hb18
          refine XL_takeC _ rfl rfl (by kernel_rfl) hc16 (X_of_Y0 rfl (E_loadn (cs := [Ti a2, Ti b8, Ti f14]) [Ti a2, Ti b8, Ti f14] wd25 rfl (by kernel_rfl) (Nat.le_of_ble_eq_true rfl) (by kernel_rfl))) ?_
          refine XL_takeC _ rfl rfl (by kernel_rfl) hc16 (X_of_Y1 rfl (Y1_call (s_spec_reIs hy17) cf_spec_reIs rfl (by kernel_rfl))) ?_
          refine XL_cons rfl (X_of_Y0 rfl (Y0_pickTe (b := eqI y15 d1) (p := y17) rfl (by kernel_rfl) hc16 (by kernel_rfl) hb18)) ?_
          exact XE
         ·have hb18 := some_inj (of_false hb18 hc16)
          refine XL_skipT _ rfl rfl (by kernel_rfl) hc16 rfl ?_
          refine XL_skipT _ rfl rfl (by kernel_rfl) hc16 rfl ?_
          refine XL_cons rfl (X_of_Y0 rfl (Y0_pickFe (b := eqI y15 d1) (p := false) rfl (by kernel_rfl) hc16 (by kernel_rfl) hb18)) ?_
          exact XE
        refine V_cond rfl (fun hc19 => ?_) (fun hc19 => ?_)
        ·have h := of_true h hc19
         obtain ⟨u20, hu20, h⟩ := of_bind h
         refine V_reg (mb 47 57) [24] (s1 := ⟨I d1 :: .bot :: .bot :: .ow 24 :: I a2 :: I b8 :: bt 41 [], [(24, .arr 25 3 ((l9 ++ ([(a2, b8, f14)])).map c25))]⟩) ?_ ?_
         ·refine XR 2 ?_
          refine L1 rfl rfl (Y1_bslice (z := zv25) (els := [(a2, b8, f14)].map c25) Tryz.underlying38 iz25 rfl (by decide) rfl (by kernel_rfl) rfl (by simp [c25]) (by decide) (by decide)) ?_
          refine XL_cons rfl (X_appendM (c := c25) (xs := l9) (ys := [(a2, b8, f14)]) (id := 24) (z := zv25) rfl rfl Tryz.underlying38 izb25 rfl (by kernel_rfl) (by kernel_rfl) (by kernel_rfl) (fun _ => rfl) (by simp) (room_some hu20) (by decide)) ?_
          exact XE
         show V _ _ _ _
         obtain ⟨b21, hb21, h⟩ := of_sI h
         refine V_reg (mb 47 57) [24] (s1 := ⟨I d1 :: .bot :: .bot :: .ow 24 :: I a2 :: I b21 :: bt 41 [], [(24, .arr 25 3 ((l9 ++ ([(a2, b8, f14)])).map c25))]⟩) ?_ ?_
         ·refine XR 3 ?_
          refine XL_nil ?_
          subst hb21
          kernel_rfl
         exact ⟨n, Nat.lt_succ_self n, _, _,  by rfl, h⟩
        ·have h := of_false h hc19
         refine V_skip ?_
         show V _ _ _ _
         obtain ⟨b22, hb22, h⟩ := of_sI h
         refine V_reg (mb 47 57) [24] (s1 := ⟨I d1 :: .bot :: .bot :: .ow 24 :: I a2 :: I b22 :: bt 41 [], [(24, .arr 25 3 (l9.map c25))]⟩) ?_ ?_
         ·refine XR 3 ?_
          refine XL_nil ?_
          subst hb22
          kernel_rfl
         exact ⟨n, Nat.lt_succ_self n, _, _,  by rfl, h⟩
       ·have h := of_false h hc12
        refine V_exit ?_
        obtain rfl := some_inj h
        show St.keep _ _ _ = _
        rfl
     show V _ _ _ _
     obtain ⟨a23, ha23, h⟩ := of_sI h
     refine V_reg (mb 47 25) [24] (s1 := ⟨I d1 :: .bot :: .bot :: .ow 24 :: I a23 :: bt 42 [], [(24, .arr 25 3 (o11.map c25))]⟩) ?_ ?_
     ·refine XR 3 ?_
      refine XL_nil ?_
      subst ha23
      kernel_rfl
     exact ⟨n, Nat.lt_succ_self n, _, _,  by rfl, h⟩
    ·have h := of_false h hc6
     refine V_exit ?_
     obtain rfl := some_inj h
     show St.keep _ _ _ = _
     rfl
  show V _ _ _ _
  refine V_e (mb 47 4) [24] (s1 := ⟨.bot :: .bot :: .ow 24 :: bt 44 [], [(24, .arr 25 3 (o5.map c25))]⟩) ?_
  refine V_ret ?_
  obtain rfl := some_inj h
  show Post _ _ _ _ _
  exact ⟨.inr rfl, rfl, rfl, rfl⟩
theorem cf_spec_l1Abs : ∀ args w, (callFunc 231 args).run Tryz.prog w = .ok (.enter 231 args) w := run_callFunc Tryz.func231 (by kernel_rfl) (by kernel_rfl)
theorem s_spec_l1Abs {vn1 : Int} {r : Int} (h : r_spec_l1Abs vn1 = some r) : CallS Tryz.prog 231 [I vn1] (I r) [] := by
  refine CallS_of_text (rs := [.t 2]) (vs := [.tmp 2]) Tryz.func231 rfl rfl (.cons rfl FitsL.nil) (by decide) 7 rfl ?_
  unfold r_spec_l1Abs at h
  show V _ _ ⟨I vn1 :: bt 6 [], []⟩ _
  refine V_e (mb 7 1) [] (s1 := ⟨I vn1 :: bt 6 [], []⟩) ?_
  obtain ⟨y2, hy2, h⟩ := of_bind h
  refine V_sreg (mb 7 4) [] (s1 := ⟨.bot :: .bot :: I y2 :: bt 4 [], []⟩) ?_ ?_
  ·refine XR 3 ?_
   refine XC (s_spec_l1Most hy2) cf_spec_l1Most rfl rfl rfl ?_
   exact XE
  refine V_ret ?_
  obtain rfl := some_inj h
  show Post _ _ _ _ _
  exact ⟨.inr rfl, rfl, rfl, rfl⟩
theorem cf_spec_nuGcd : ∀ args w, (callFunc 196 args).run Tryz.prog w = .ok (.enter 196 args) w := run_callFunc Tryz.func196 (by kernel_rfl) (by kernel_rfl)
theorem s_spec_nuGcd {a1 : Int} {b2 : Int} {r : Int} (h : r_spec_nuGcd a1 b2 = some r) : CallS Tryz.prog 196 [I a1, I b2] (I r) [] := by
  refine CallS_of_text (rs := [.t 4]) (vs := [.tmp 4]) Tryz.func196 rfl rfl (.cons rfl FitsL.nil) (by decide) 16 rfl ?_
  unfold r_spec_nuGcd at h
  show V _ _ ⟨I a1 :: I b2 :: bt 14 [], []⟩ _
  refine V_e (mb 16 3) [] (s1 := ⟨I a1 :: I b2 :: bt 14 [], []⟩) ?_
  obtain ⟨y3, hy3, h⟩ := of_bind h
  obtain ⟨y4, hy4, h⟩ := of_bind h
  refine V_sreg (mb 16 3) [] (s1 := ⟨I y3 :: I y4 :: bt 14 [], []⟩) ?_ ?_
  ·refine XR 1 ?_
   refine XC (s_spec_l1Abs hy3) cf_spec_l1Abs rfl rfl rfl ?_
   refine XR 1 ?_
   refine XC (s_spec_l1Abs hy4) cf_spec_l1Abs rfl rfl rfl ?_
   exact XE
  refine V_seq ?_
  obtain ⟨o8, hLo8, h⟩ := of_bind h
  refine V_toK (mb 16 1) [] (s1 := ⟨I o8 :: bt 15 [], []⟩) ?_ ?_
  ·clear h
   refine V_block (V_loop (fun n s => ∃ (a5 : Int) (b6 : Int), s.keep (mb 16 3) [] = (⟨I a5 :: I b6 :: bt 14 [], []⟩ : St) ∧ r_spec_nuGcd_L7 n a5 b6 = some o8) FU ⟨_, _,  by rfl, hLo8⟩ ?_)
   clear hLo8
   rintro n s ⟨a5, b6, hs, h⟩
   refine V_keep _ _ hs ?_
   clear hs
   cases n with
   | zero => cases h
   | succ n =>
    rw [r_spec_nuGcd_L7] at h
    refine V_seq ?_
    refine V_e (mb 16 1027) [] (s1 := ⟨I a5 :: I b6 :: bt 8 (Bo (!eqI b6 0) :: bt 5 []), []⟩) ?_
    refine V_cond rfl (fun hc9 => ?_) (fun hc9 => ?_)
    ·have h := of_true h hc9
     refine V_skip ?_
     show V _ _ _ _
     refine V_block ?_
     obtain ⟨z10, hz10, h⟩ := of_bind h
     obtain ⟨b11, hb11, h⟩ := of_sI h
     refine V_dreg [0, 0, 0, 6, 3, 31] 6 (cdm 6 [168, 34, 522, 534, 165, 341]) (mb 16 3) [] (s1 := ⟨I b6 :: I b11 :: bt 14 [], []⟩) (by kernel_rfl) (by kernel_rfl) ?_ ?_
     ·refine DR 3 ?_
      refine DE_0 3 (I (Int.tmod a5 b6)) (by kernel_rfl) rfl rfl rfl (gsat_none rfl) (by kernel_rfl) (Y0_rem (k := .i64) (a := a5) (b := b6) rfl (by kernel_rfl) (by kernel_rfl) (nz_some hz10)) 14 rfl ?_
      refine DA 2 ?_
      refine XL_nil ?_
      subst hb11
      kernel_rfl
     exact ⟨n, Nat.lt_succ_self n, _, _,  by rfl, h⟩
    ·have h := of_false h hc9
     refine V_exit ?_
     obtain rfl := some_inj h
     show St.keep _ _ _ = _
     rfl
  show V _ _ _ _
  refine V_e (mb 16 16) [] (s1 := ⟨bt 4 (I o8 :: bt 11 []), []⟩) ?_
  refine V_ret ?_
  obtain rfl := some_inj h
  show Post _ _ _ _ _
  exact ⟨.inr rfl, rfl, rfl, rfl⟩
theorem cf_spec_foContent : ∀ args w, (callFunc 116 args).run Tryz.prog w = .ok (.enter 116 args) w := run_callFunc Tryz.func116 (by kernel_rfl) (by kernel_rfl)
theorem s_spec_foContent {f1 : (Int × Int × Int)} {r : Int} (h : r_spec_foContent f1 = some r) : CallS Tryz.prog 116 [.ag [Ti f1.1, Ti f1.2.1, Ti f1.2.2]] (I r) [] := by
  refine CallS_of_text (rs := [.t 2]) (vs := [.tmp 2]) Tryz.func116 rfl rfl (.cons rfl FitsL.nil) (by decide) 11 rfl ?_
  unfold r_spec_foContent at h
  show V _ _ ⟨.ag [Ti f1.1, Ti f1.2.1, Ti f1.2.2] :: bt 10 [], []⟩ _
  refine V_e (mb 11 2) [8] (s1 := ⟨.bot :: .pt 8 0 :: bt 9 [], [(8, .box [Ti f1.1, Ti f1.2.1, Ti f1.2.2])]⟩) ?_
  obtain ⟨y2, hy2, h⟩ := of_bind h
  obtain ⟨y3, hy3, h⟩ := of_bind h
  refine V_sdreg [0, 1, 0, 4, 15, 0, 32, 127, 255] 9 (cdm 9 [10400, 10401, 10250, 10266, 10325, 682, 1706, 5461, 21845]) (mb 11 4) [] (s1 := ⟨.bot :: .bot :: I y3 :: bt 8 [], []⟩) (by kernel_rfl) (by kernel_rfl) ?_ ?_
  ·refine DR 4 ?_
   refine DC 4 (s_spec_nuGcd hy2) cf_spec_nuGcd rfl rfl rfl rfl 7 rfl ?_
   refine DR 2 ?_
   refine DC 7 (s_spec_nuGcd hy3) cf_spec_nuGcd rfl rfl rfl rfl 10 rfl ?_
   refine DA 1 ?_
   exact XE
  refine V_ret ?_
  obtain rfl := some_inj h
  show Post _ _ _ _ _
  exact ⟨.inr rfl, rfl, rfl, rfl⟩
theorem cf_spec_reList : ∀ args w, (callFunc 112 args).run Tryz.prog w = .ok (.enter 112 args) w := run_callFunc Tryz.func112 (by kernel_rfl) (by kernel_rfl)
theorem s_spec_reList {d1 : Int} {r : List ((Int × Int × Int))} (h : r_spec_reList d1 = some r) : CallS Tryz.prog 112 [I d1] (.ow 0) [(0, .arr 25 3 (r.map c25))] := by
  refine CallS_of_text (rs := [.t 2]) (vs := [.tmp 2]) Tryz.func112 rfl rfl (.cons rfl FitsL.nil) (by decide) 22 rfl ?_
  unfold r_spec_reList at h
  show V _ _ ⟨I d1 :: bt 21 [], []⟩ _
  refine V_sreg (mb 22 1) [] (s1 := ⟨I d1 :: bt 21 [], []⟩) ?_ ?_
  ·refine L1 rfl rfl (Y1_nil (e := 25) 3 (by decide) (.inl rfl)) ?_
   exact XE
  refine V_sreg (mb 22 9) [24] (s1 := ⟨I d1 :: .bot :: .bot :: .ow 24 :: bt 18 [], [(24, .arr 25 3 ((([] : List ((Int × Int × Int)))).map c25))]⟩) ?_ ?_
  ·refine L1 rfl rfl (Y1_nil (e := 25) 3 (by decide) (.inl rfl)) ?_
   exact XE
  refine V_seq ?_
  obtain ⟨y2, hy2, h⟩ := of_bind h
  refine V_sreg (mb 22 904) [56, 24] (s1 := ⟨bt 3 (.ow 24 :: bt 3 (.ow 56 :: I ((y2.length : Int)) :: I 0 :: bt 12 [])), [(56, .arr 25 3 (y2.map c25)), (24, .arr 25 3 ((([] : List ((Int × Int × Int)))).map c25))]⟩) ?_ ?_
  ·refine XR 1 ?_
   refine XC (s_spec_reAll hy2) cf_spec_reAll rfl rfl rfl ?_
   refine L0 rfl rfl (Y0_lenM (c := c25) (xs := y2) Tryz.underlying38 rfl (by kernel_rfl)) ?_
   exact XE
  obtain ⟨o6, hLo6, h⟩ := of_bind h
  refine V_toK (mb 22 8) [24] (s1 := ⟨bt 3 (.ow 24 :: bt 18 []), [(24, .arr 25 3 (o6.map c25))]⟩) ?_ ?_
  ·clear h
   refine V_block (V_loop (fun n s => ∃ (t3 : Int) (l4 : List ((Int × Int × Int))), s.keep (mb 22 904) [56, 24] = (⟨bt 3 (.ow 24 :: bt 3 (.ow 56 :: I ((y2.length : Int)) :: I t3 :: bt 12 [])), [(56, .arr 25 3 (y2.map c25)), (24, .arr 25 3 (l4.map c25))]⟩ : St) ∧ r_spec_reList_L5 y2 n t3 l4 = some o6) FU ⟨_, _,  by rfl, hLo6⟩ ?_)
   clear hLo6
   rintro n s ⟨t3, l4, hs, h⟩
   refine V_keep _ _ hs ?_
   clear hs
   cases n with
   | zero => cases h
   | succ n =>
    rw [r_spec_reList_L5] at h
    refine V_e (mb 22 1928) [56, 24] (s1 := ⟨bt 3 (.ow 24 :: bt 3 (.ow 56 :: I ((y2.length : Int)) :: I t3 :: Bo (ltI t3 ((y2.length : Int))) :: bt 11 [])), [(56, .arr 25 3 (y2.map c25)), (24, .arr 25 3 (l4.map c25))]⟩) ?_
    refine V_seq ?_
    refine V_cond rfl (fun hc7 => ?_) (fun hc7 => ?_)
    ·have h := of_true h hc7
     refine V_skip ?_
     show V _ _ _ _
     refine V_seq ?_
     refine V_block ?_
     obtain ⟨e8, he8, h⟩ := of_bind h
     obtain ⟨e9, he9, h⟩ := of_bind h
     refine V_sreg (mb 22 936) [40, 56, 24] (s1 := ⟨bt 3 (.ow 24 :: .bot :: .pt 40 0 :: .bot :: .ow 56 :: I ((y2.length : Int)) :: I t3 :: bt 12 []), [(40, .box [Ti e9.1, Ti e9.2.1, Ti e9.2.2]), (56, .arr 25 3 (y2.map c25)), (24, .arr 25 3 (l4.map c25))]⟩) ?_ ?_
     ·refine L0 rfl rfl (Y0_idxoM (c := c25) (xs := y2) (v := e8) (id := 56) (T := 25) (sz := 3) (n := t3) Tryz.underlying38 sz25 rfl (by kernel_rfl) (by kernel_rfl) (by kernel_rfl) he8) ?_
      refine L0 rfl rfl (E_loadon (c := c25) (xs := y2) (v := e9) (id := 56) (sz := 3) (T := 25) (off := 0) (n := t3) [Ti e9.1, Ti e9.2.1, Ti e9.2.2] wd25 rfl (by kernel_rfl) (by kernel_rfl) he9 (Nat.le_of_ble_eq_true rfl) (by kernel_rfl)) ?_
      exact XE
     obtain ⟨y10, hy10, h⟩ := of_bind h
     refine V_sreg (mb 22 33704) [40, 56, 24] (s1 := ⟨bt 3 (.ow 24 :: .bot :: .pt 40 0 :: .bot :: .ow 56 :: I ((y2.length : Int)) :: I t3 :: bt 5 (Bo (eqI y10 1) :: bt 6 [])), [(40, .box [Ti e9.1, Ti e9.2.1, Ti e9.2.2]), (56, .arr 25 3 (y2.map c25)), (24, .arr 25 3 (l4.map c25))]⟩) ?_ ?_
     ·refine XR 1 ?_
      refine XC (s_spec_foContent hy10) cf_spec_foContent rfl rfl rfl ?_
      exact XE
     refine V_cond rfl (fun hc11 => ?_) (fun hc11 => ?_)
     ·have h := of_true h hc11
      obtain ⟨u12, hu12, h⟩ := of_bind h
      refine V_reg (mb 22 904) [56, 24] (s1 := ⟨bt 3 (.ow 24 :: bt 3 (.ow 56 :: I ((y2.length : Int)) :: I t3 :: bt 12 [])), [(56, .arr 25 3 (y2.map c25)), (24, .arr 25 3 ((l4 ++ ([e9])).map c25))]⟩) ?_ ?_
      ·refine XR 2 ?_
       refine L1 rfl rfl (Y1_bslice (z := zv25) (els := [e9].map c25) Tryz.underlying38 iz25 rfl (by decide) rfl (by kernel_rfl) rfl (by simp [c25]) (by decide) (by decide)) ?_
       refine XL_cons rfl (X_appendM (c := c25) (xs := l4) (ys := [e9]) (id := 24) (z := zv25) rfl rfl Tryz.underlying38 izb25 rfl (by kernel_rfl) (by kernel_rfl) (by kernel_rfl) (fun _ => rfl) (by simp) (room_some hu12) (by decide)) ?_
       exact XE
      show V _ _ _ _
      obtain ⟨t13, ht13, h⟩ := of_sI h
      refine V_reg (mb 22 904) [56, 24] (s1 := ⟨bt 3 (.ow 24 :: bt 3 (.ow 56 :: I ((y2.length : Int)) :: I t13 :: bt 12 [])), [(56, .arr 25 3 (y2.map c25)), (24, .arr 25 3 ((l4 ++ ([e9])).map c25))]⟩) ?_ ?_
      ·refine XR 2 ?_
       refine XL_nil ?_
       subst ht13
       kernel_rfl
      exact ⟨n, Nat.lt_succ_self n, _, _,  by rfl, h⟩
     ·have h := of_false h hc11
      refine V_skip ?_
      show V _ _ _ _
      obtain ⟨t14, ht14, h⟩ := of_sI h
      refine V_reg (mb 22 904) [56, 24] (s1 := ⟨bt 3 (.ow 24 :: bt 3 (.ow 56 :: I ((y2.length : Int)) :: I t14 :: bt 12 [])), [(56, .arr 25 3 (y2.map c25)), (24, .arr 25 3 (l4.map c25))]⟩) ?_ ?_
      ·refine XR 2 ?_
       refine XL_nil ?_
       subst ht14
       kernel_rfl
      exact ⟨n, Nat.lt_succ_self n, _, _,  by rfl, h⟩
    ·have h := of_false h hc7
     refine V_exit ?_
     obtain rfl := some_inj h
     show St.keep _ _ _ = _
     rfl
  show V _ _ _ _
  refine V_e (mb 22 4) [24] (s1 := ⟨.bot :: .bot :: .ow 24 :: bt 19 [], [(24, .arr 25 3 (o6.map c25))]⟩) ?_
  refine V_ret ?_
  obtain rfl := some_inj h
  show Post _ _ _ _ _
  exact ⟨.inr rfl, rfl, rfl, rfl⟩
theorem cf_spec_l1Cur_reduced : ∀ args w, (callFunc 149 args).run Tryz.prog w = .ok (.enter 149 args) w := run_callFunc Tryz.func149 (by kernel_rfl) (by kernel_rfl)
theorem s_spec_l1Cur_reduced {c1 : ((List Int) × Int × Int)} {d2 : Int} {r : (((Int × Int × Int)) × (((List Int) × Int × Int)))} (h : r_spec_l1Cur_reduced c1 d2 = some r) : CallR Tryz.prog 149 [.pt 80000 0, I d2] [(80000, .box [.sl (c1.1.map c5), Ti c1.2.1, .v (.int .u64 c1.2.2)])] (.ag [Ti r.1.1, Ti r.1.2.1, Ti r.1.2.2]) [] [(80000, .box [.sl (r.2.1.map c5), Ti r.2.2.1, .v (.int .u64 r.2.2.2)])] := by
  refine CallR_of_text (rs := [.w 4 3]) (vs := [.cell 4 25]) Tryz.func149 rfl rfl (.cons ⟨rfl, wd25⟩ FitsL.nil) (by decide) 15 rfl rfl fun σ => ?_
  unfold r_spec_l1Cur_reduced at h
  show V _ _ ⟨.pt 80000 0 :: I d2 :: bt 13 [], [(80000, .pbox (σ 80000) [.sl (c1.1.map c5), Ti c1.2.1, .v (.int .u64 c1.2.2)])]⟩ _
  refine V_e (mb 15 19) [32, 80000] (s1 := ⟨.pt 80000 0 :: I d2 :: .bot :: .bot :: .pt 32 0 :: bt 10 [], [(32, .box [Ti 0, Ti 0, Ti 0]), (80000, .pbox (σ 80000) [.sl (c1.1.map c5), Ti c1.2.1, .v (.int .u64 c1.2.2)])]⟩) ?_
  obtain ⟨y3, hy3, h⟩ := of_bind h
  refine V_sreg (mb 15 49) [56, 32, 80000] (s1 := ⟨.pt 80000 0 :: bt 3 (.pt 32 0 :: .ow 56 :: bt 9 []), [(56, .arr 25 3 (y3.map c25)), (32, .box [Ti 0, Ti 0, Ti 0]), (80000, .pbox (σ 80000) [.sl (c1.1.map c5), Ti c1.2.1, .v (.int .u64 c1.2.2)])]⟩) ?_ ?_
  ·refine XR 1 ?_
   refine XC (s_spec_reList hy3) cf_spec_reList rfl rfl rfl ?_
   exact XE
  obtain ⟨y4, hy4, h⟩ := of_bind h
  obtain ⟨e5, he5, h⟩ := of_bind h
  obtain ⟨e6, he6, h⟩ := of_bind h
  refine V_sreg (mb 15 16) [32, 80000] (s1 := ⟨bt 4 (.pt 32 0 :: bt 10 []), [(32, .box [Ti e6.1, Ti e6.2.1, Ti e6.2.2]), (80000, .pbox (σ 80000) [.sl (y4.2.1.map c5), Ti y4.2.2.1, .v (.int .u64 y4.2.2.2)])]⟩) ?_ ?_
  ·refine XR 3 ?_
   refine L0 rfl rfl (Y0_lenM (c := c25) (xs := y3) Tryz.underlying38 rfl (by kernel_rfl)) ?_
   refine XL_cons rfl (X_callR (E' := [(56, .arr 25 3 (y3.map c25)), (32, .box [Ti 0, Ti 0, Ti 0]), (80000, .pbox (σ 80000) [.sl (y4.2.1.map c5), Ti y4.2.2.1, .v (.int .u64 y4.2.2.2)])]) [(80000, 80000)] 12 (s_spec_l1Cur_pick hy4) cf_spec_l1Cur_pick rfl rfl (by kernel_rfl) rfl (mE_cons (by kernel_rfl) mE_nil) rfl (by kernel_rfl) rfl rfl (by kernel_rfl)) ?_
   refine L0 rfl rfl (Y0_idxoM (c := c25) (xs := y3) (v := e5) (id := 56) (T := 25) (sz := 3) (n := y4.1) Tryz.underlying38 sz25 rfl (by kernel_rfl) (by kernel_rfl) (by kernel_rfl) he5) ?_
   refine L0 rfl rfl (E_loadon (c := c25) (xs := y3) (v := e6) (id := 56) (sz := 3) (T := 25) (off := 0) (n := y4.1) [Ti e6.1, Ti e6.2.1, Ti e6.2.2] wd25 rfl (by kernel_rfl) (by kernel_rfl) he6 (Nat.le_of_ble_eq_true rfl) (by kernel_rfl)) ?_
   exact XE
  refine V_ret ?_
  obtain rfl := some_inj h
  show PostR _ _ _ _ _ _
  exact ⟨⟨.inr rfl, rfl, rfl, rfl⟩, ⟨rfl, trivial⟩⟩
theorem cf_spec_foMul : ∀ args w, (callFunc 163 args).run Tryz.prog w = .ok (.enter 163 args) w := run_callFunc Tryz.func163 (by kernel_rfl) (by kernel_rfl)
theorem s_spec_foMul {vm1 : (Int × Int × Int × Int)} {vn2 : (Int × Int × Int × Int)} {r : (Int × Int × Int × Int)} (h : r_spec_foMul vm1 vn2 = some r) : CallS Tryz.prog 163 [.ag [Ti vm1.1, Ti vm1.2.1, Ti vm1.2.2.1, Ti vm1.2.2.2], .ag [Ti vn2.1, Ti vn2.2.1, Ti vn2.2.2.1, Ti vn2.2.2.2]] (.ag [Ti r.1, Ti r.2.1, Ti r.2.2.1, Ti r.2.2.2]) [] := by
  refine CallS_of_text (rs := [.w 4 4]) (vs := [.cell 4 31]) Tryz.func163 rfl rfl (.cons ⟨rfl, wd31⟩ FitsL.nil) (by decide) 50 rfl ?_
  unfold r_spec_foMul at h
  show V _ _ ⟨.ag [Ti vm1.1, Ti vm1.2.1, Ti vm1.2.2.1, Ti vm1.2.2.2] :: .ag [Ti vn2.1, Ti vn2.2.1, Ti vn2.2.2.1, Ti vn2.2.2.2] :: bt 48 [], []⟩ _
  refine V_e (mb 50 28) [32, 24, 16] (s1 := ⟨.bot :: .bot :: .pt 16 0 :: .pt 24 0 :: .pt 32 0 :: bt 45 [], [(32, .box [Ti 0, Ti 0, Ti 0, Ti 0]), (24, .box [Ti vn2.1, Ti vn2.2.1, Ti vn2.2.2.1, Ti vn2.2.2.2]), (16, .box [Ti vm1.1, Ti vm1.2.1, Ti vm1.2.2.1, Ti vm1.2.2.2])]⟩) ?_
  obtain ⟨f3, hf3, h⟩ := of_sI h
  obtain ⟨f4, hf4, h⟩ := of_sI h
  obtain ⟨f5, hf5, h⟩ := of_sI h
  obtain ⟨f6, hf6, h⟩ := of_sI h
  refine V_sreg (mb 50 16) [32] (s1 := ⟨bt 4 (.pt 32 0 :: bt 45 []), [(32, .box [Ti f3, Ti f4, Ti f5, Ti f6])]⟩) ?_ ?_
  ·refine XR 44 ?_
   refine L0 rfl rfl (Y0_build (cs := [Ti (w64 ((w64 (vm1.1 * vn2.1)) + (w64 (vm1.2.1 * vn2.2.2.1)))), Ti (w64 ((w64 (vm1.1 * vn2.2.1)) + (w64 (vm1.2.1 * vn2.2.2.2)))), Ti (w64 ((w64 (vm1.2.2.1 * vn2.1)) + (w64 (vm1.2.2.2 * vn2.2.2.1)))), Ti (w64 ((w64 (vm1.2.2.1 * vn2.2.1)) + (w64 (vm1.2.2.2 * vn2.2.2.2))))]) pl31 bt31 rfl rfl (by kernel_rfl)) ?_
   refine XR 1 ?_
   refine XL_nil ?_
   subst hf3 hf4 hf5 hf6
   kernel_rfl
  refine V_ret ?_
  obtain rfl := some_inj h
  show Post _ _ _ _ _
  exact ⟨.inr rfl, rfl, rfl, rfl⟩
theorem cf_spec_l1Cur_proper : ∀ args w, (callFunc 213 args).run Tryz.prog w = .ok (.enter 213 args) w := run_callFunc Tryz.func213 (by kernel_rfl) (by kernel_rfl)
theorem s_spec_l1Cur_proper {c1 : ((List Int) × Int × Int)} {r : (((Int × Int × Int × Int)) × (((List Int) × Int × Int)))} (h : r_spec_l1Cur_proper c1 = some r) : CallR Tryz.prog 213 [.pt 80000 0] [(80000, .box [.sl (c1.1.map c5), Ti c1.2.1, .v (.int .u64 c1.2.2)])] (.ag [Ti r.1.1, Ti r.1.2.1, Ti r.1.2.2.1, Ti r.1.2.2.2]) [] [(80000, .box [.sl (r.2.1.map c5), Ti r.2.2.1, .v (.int .u64 r.2.2.2)])] := by
  refine CallR_of_text (rs := [.w 2 4]) (vs := [.cell 2 31]) Tryz.func213 rfl rfl (.cons ⟨rfl, wd31⟩ FitsL.nil) (by decide) 34 rfl rfl fun σ => ?_
  unfold r_spec_l1Cur_proper at h
  show V _ _ ⟨.pt 80000 0 :: bt 33 [], [(80000, .pbox (σ 80000) [.sl (c1.1.map c5), Ti c1.2.1, .v (.int .u64 c1.2.2)])]⟩ _
  refine V_e (mb 34 5) [16, 80000] (s1 := ⟨.pt 80000 0 :: .bot :: .pt 16 0 :: bt 31 [], [(16, .box [Ti 0, Ti 0, Ti 0, Ti 0]), (80000, .pbox (σ 80000) [.sl (c1.1.map c5), Ti c1.2.1, .v (.int .u64 c1.2.2)])]⟩) ?_
  refine V_sreg (mb 34 13) [24, 16, 80000] (s1 := ⟨.pt 80000 0 :: .bot :: .pt 16 0 :: .pt 24 0 :: bt 30 [], [(24, .box [Ti 1, Ti 0, Ti 0, Ti 1]), (16, .box [Ti 0, Ti 0, Ti 0, Ti 0]), (80000, .pbox (σ 80000) [.sl (c1.1.map c5), Ti c1.2.1, .v (.int .u64 c1.2.2)])]⟩) ?_ ?_
  ·refine L0 rfl rfl (Y0_build (cs := [Ti 1, Ti 0, Ti 0, Ti 1]) pl31 bt31 rfl rfl (by kernel_rfl)) ?_
   exact XE
  refine V_seq ?_
  obtain ⟨y2, hy2, h⟩ := of_bind h
  refine V_sreg (mb 34 29) [24, 16, 80000] (s1 := ⟨.pt 80000 0 :: .bot :: .pt 16 0 :: .pt 24 0 :: I y2.1 :: bt 29 [], [(24, .box [Ti 1, Ti 0, Ti 0, Ti 1]), (16, .box [Ti 0, Ti 0, Ti 0, Ti 0]), (80000, .pbox (σ 80000) [.sl (y2.2.1.map c5), Ti y2.2.2.1, .v (.int .u64 y2.2.2.2)])]⟩) ?_ ?_
  ·refine XR 1 ?_
   refine XL_cons rfl (X_callR (E' := [(24, .box [Ti 1, Ti 0, Ti 0, Ti 1]), (16, .box [Ti 0, Ti 0, Ti 0, Ti 0]), (80000, .pbox (σ 80000) [.sl (y2.2.1.map c5), Ti y2.2.2.1, .v (.int .u64 y2.2.2.2)])]) [(80000, 80000)] 8 (s_spec_l1Cur_pick hy2) cf_spec_l1Cur_pick rfl rfl (by kernel_rfl) rfl (mE_cons (by kernel_rfl) mE_nil) rfl (by kernel_rfl) rfl rfl (by kernel_rfl)) ?_
   exact XE
  obtain ⟨o12, hLo12, h⟩ := of_bind h
  refine V_toK (mb 34 12) [24, 16, 80000] (s1 := ⟨.bot :: .bot :: .pt 16 0 :: .pt 24 0 :: bt 30 [], [(24, .box [Ti o12.1, Ti o12.2.1, Ti o12.2.2.1, Ti o12.2.2.2.1]), (16, .box [Ti 0, Ti 0, Ti 0, Ti 0]), (80000, .pbox (σ 80000) [.sl (o12.2.2.2.2.1.map c5), Ti o12.2.2.2.2.2.1, .v (.int .u64 o12.2.2.2.2.2.2)])]⟩) ?_ ?_
  ·clear h
   refine V_block (V_loop (fun n s => ∃ (k3 : Int) (f4 : Int) (f5 : Int) (f6 : Int) (f7 : Int) (f8 : List Int) (f9 : Int) (f10 : Int), s.keep (mb 34 29) [24, 16, 80000] = (⟨.pt 80000 0 :: .bot :: .pt 16 0 :: .pt 24 0 :: I k3 :: bt 29 [], [(24, .box [Ti f4, Ti f5, Ti f6, Ti f7]), (16, .box [Ti 0, Ti 0, Ti 0, Ti 0]), (80000, .pbox (σ 80000) [.sl (f8.map c5), Ti f9, .v (.int .u64 f10)])]⟩ : St) ∧ r_spec_l1Cur_proper_L11 n k3 f4 f5 f6 f7 f8 f9 f10 = some o12) FU ⟨_, _, _, _, _, _, _, _,  by rfl, hLo12⟩ ?_)
   clear hLo12
   rintro n s ⟨k3, f4, f5, f6, f7, f8, f9, f10, hs, h⟩
   refine V_keep _ _ hs ?_
   clear hs
   cases n with
   | zero => cases h
   | succ n =>
    rw [r_spec_l1Cur_proper_L11] at h
    refine V_seq ?_
    refine V_e (mb 34 1053) [24, 16, 80000] (s1 := ⟨.pt 80000 0 :: .bot :: .pt 16 0 :: .pt 24 0 :: I k3 :: bt 5 (Bo (ltI 0 k3) :: bt 23 []), [(24, .box [Ti f4, Ti f5, Ti f6, Ti f7]), (16, .box [Ti 0, Ti 0, Ti 0, Ti 0]), (80000, .pbox (σ 80000) [.sl (f8.map c5), Ti f9, .v (.int .u64 f10)])]⟩) ?_
    refine V_cond rfl (fun hc13 => ?_) (fun hc13 => ?_)
    ·have h := of_true h hc13
     refine V_skip ?_
     show V _ _ _ _
     refine V_seq ?_
     refine V_block ?_
     obtain ⟨y14, hy14, h⟩ := of_bind h
     obtain ⟨t15, ht15, h⟩ := of_sI h
     refine V_sreg (mb 34 61) [24, 16, 80000] (s1 := ⟨.pt 80000 0 :: .bot :: .pt 16 0 :: .pt 24 0 :: I k3 :: I t15 :: bt 28 [], [(24, .box [Ti f4, Ti f5, Ti f6, Ti f7]), (16, .box [Ti 0, Ti 0, Ti 0, Ti 0]), (80000, .pbox (σ 80000) [.sl (y14.2.1.map c5), Ti y14.2.2.1, .v (.int .u64 y14.2.2.2)])]⟩) ?_ ?_
     ·refine XR 1 ?_
      refine XL_cons rfl (X_callR (E' := [(24, .box [Ti f4, Ti f5, Ti f6, Ti f7]), (16, .box [Ti 0, Ti 0, Ti 0, Ti 0]), (80000, .pbox (σ 80000) [.sl (y14.2.1.map c5), Ti y14.2.2.1, .v (.int .u64 y14.2.2.2)])]) [(80000, 80000)] 14 (s_spec_l1Cur_pick hy14) cf_spec_l1Cur_pick rfl rfl (by kernel_rfl) rfl (mE_cons (by kernel_rfl) mE_nil) rfl (by kernel_rfl) rfl rfl (by kernel_rfl)) ?_
      refine XR 2 ?_
      refine XL_nil ?_
      subst ht15
      kernel_rfl
     obtain ⟨y16, hy16, h⟩ := of_bind h
     refine V_sreg (mb 34 131133) [24, 16, 80000] (s1 := ⟨.pt 80000 0 :: .bot :: .pt 16 0 :: .pt 24 0 :: I k3 :: I t15 :: bt 11 (I y16.1 :: bt 16 []), [(24, .box [Ti f4, Ti f5, Ti f6, Ti f7]), (16, .box [Ti 0, Ti 0, Ti 0, Ti 0]), (80000, .pbox (σ 80000) [.sl (y16.2.1.map c5), Ti y16.2.2.1, .v (.int .u64 y16.2.2.2)])]⟩) ?_ ?_
     ·refine XR 1 ?_
      refine XL_cons rfl (X_callR (E' := [(24, .box [Ti f4, Ti f5, Ti f6, Ti f7]), (16, .box [Ti 0, Ti 0, Ti 0, Ti 0]), (80000, .pbox (σ 80000) [.sl (y16.2.1.map c5), Ti y16.2.2.1, .v (.int .u64 y16.2.2.2)])]) [(80000, 80000)] 17 (s_spec_l1Cur_pick hy16) cf_spec_l1Cur_pick rfl rfl (by kernel_rfl) rfl (mE_cons (by kernel_rfl) mE_nil) rfl (by kernel_rfl) rfl rfl (by kernel_rfl)) ?_
      exact XE
     refine V_block ?_
     refine V_e (mb 34 2228285) [24, 16, 80000] (s1 := ⟨.pt 80000 0 :: .bot :: .pt 16 0 :: .pt 24 0 :: I k3 :: I t15 :: bt 11 (I y16.1 :: bt 3 (Bo (eqI y16.1 0) :: bt 12 [])), [(24, .box [Ti f4, Ti f5, Ti f6, Ti f7]), (16, .box [Ti 0, Ti 0, Ti 0, Ti 0]), (80000, .pbox (σ 80000) [.sl (y16.2.1.map c5), Ti y16.2.2.1, .v (.int .u64 y16.2.2.2)])]⟩) ?_
     refine V_cond rfl (fun hc17 => ?_) (fun hc17 => ?_)
     ·have h := of_true h hc17
      obtain ⟨y18, hy18, h⟩ := of_bind h
      refine V_reg (mb 34 29) [24, 16, 80000] (s1 := ⟨.pt 80000 0 :: .bot :: .pt 16 0 :: .pt 24 0 :: I k3 :: bt 29 [], [(24, .box [Ti y18.1, Ti y18.2.1, Ti y18.2.2.1, Ti y18.2.2.2]), (16, .box [Ti 0, Ti 0, Ti 0, Ti 0]), (80000, .pbox (σ 80000) [.sl (y16.2.1.map c5), Ti y16.2.2.1, .v (.int .u64 y16.2.2.2)])]⟩) ?_ ?_
      ·refine XR 2 ?_
       refine L0 rfl rfl (Y0_build (cs := [Ti 1, Ti t15, Ti 0, Ti 1]) pl31 bt31 rfl rfl (by kernel_rfl)) ?_
       refine XC (s_spec_foMul hy18) cf_spec_foMul rfl rfl rfl ?_
       exact XE
      show V _ _ _ _
      obtain ⟨k19, hk19, h⟩ := of_sI h
      refine V_reg (mb 34 29) [24, 16, 80000] (s1 := ⟨.pt 80000 0 :: .bot :: .pt 16 0 :: .pt 24 0 :: I k19 :: bt 29 [], [(24, .box [Ti y18.1, Ti y18.2.1, Ti y18.2.2.1, Ti y18.2.2.2]), (16, .box [Ti 0, Ti 0, Ti 0, Ti 0]), (80000, .pbox (σ 80000) [.sl (y16.2.1.map c5), Ti y16.2.2.1, .v (.int .u64 y16.2.2.2)])]⟩) ?_ ?_
      ·refine XR 3 ?_
       refine XL_nil ?_
       subst hk19
       kernel_rfl
      exact ⟨n, Nat.lt_succ_self n, _, _, _, _, _, _, _, _,  by rfl, h⟩
     ·have h := of_false h hc17
      refine V_e (mb 34 134217789) [24, 16, 80000] (s1 := ⟨.pt 80000 0 :: .bot :: .pt 16 0 :: .pt 24 0 :: I k3 :: I t15 :: bt 21 (Bo (eqI y16.1 1) :: bt 6 []), [(24, .box [Ti f4, Ti f5, Ti f6, Ti f7]), (16, .box [Ti 0, Ti 0, Ti 0, Ti 0]), (80000, .pbox (σ 80000) [.sl (y16.2.1.map c5), Ti y16.2.2.1, .v (.int .u64 y16.2.2.2)])]⟩) ?_
      refine V_cond rfl (fun hc20 => ?_) (fun hc20 => ?_)
      ·have h := of_true h hc20
       obtain ⟨y21, hy21, h⟩ := of_bind h
       refine V_reg (mb 34 29) [24, 16, 80000] (s1 := ⟨.pt 80000 0 :: .bot :: .pt 16 0 :: .pt 24 0 :: I k3 :: bt 29 [], [(24, .box [Ti y21.1, Ti y21.2.1, Ti y21.2.2.1, Ti y21.2.2.2]), (16, .box [Ti 0, Ti 0, Ti 0, Ti 0]), (80000, .pbox (σ 80000) [.sl (y16.2.1.map c5), Ti y16.2.2.1, .v (.int .u64 y16.2.2.2)])]⟩) ?_ ?_
       ·refine XR 2 ?_
        refine L0 rfl rfl (Y0_build (cs := [Ti 1, Ti 0, Ti t15, Ti 1]) pl31 bt31 rfl rfl (by kernel_rfl)) ?_
        refine XC (s_spec_foMul hy21) cf_spec_foMul rfl rfl rfl ?_
        exact XE
       show V _ _ _ _
       obtain ⟨k22, hk22, h⟩ := of_sI h
       refine V_reg (mb 34 29) [24, 16, 80000] (s1 := ⟨.pt 80000 0 :: .bot :: .pt 16 0 :: .pt 24 0 :: I k22 :: bt 29 [], [(24, .box [Ti y21.1, Ti y21.2.1, Ti y21.2.2.1, Ti y21.2.2.2]), (16, .box [Ti 0, Ti 0, Ti 0, Ti 0]), (80000, .pbox (σ 80000) [.sl (y16.2.1.map c5), Ti y16.2.2.1, .v (.int .u64 y16.2.2.2)])]⟩) ?_ ?_
       ·refine XR 3 ?_
        refine XL_nil ?_
        subst hk22
        kernel_rfl
       exact ⟨n, Nat.lt_succ_self n, _, _, _, _, _, _, _, _,  by rfl, h⟩
      ·have h := of_false h hc20
       obtain ⟨y23, hy23, h⟩ := of_bind h
       refine V_reg (mb 34 29) [24, 16, 80000] (s1 := ⟨.pt 80000 0 :: .bot :: .pt 16 0 :: .pt 24 0 :: I k3 :: bt 29 [], [(24, .box [Ti y23.1, Ti y23.2.1, Ti y23.2.2.1, Ti y23.2.2.2]), (16, .box [Ti 0, Ti 0, Ti 0, Ti 0]), (80000, .pbox (σ 80000) [.sl (y16.2.1.map c5), Ti y16.2.2.1, .v (.int .u64 y16.2.2.2)])]⟩) ?_ ?_
       ·refine XR 1 ?_
        refine L0 rfl rfl (Y0_build (cs := [Ti 0, Ti (-1), Ti 1, Ti 0]) pl31 bt31 rfl rfl (by kernel_rfl)) ?_
        refine XC (s_spec_foMul hy23) cf_spec_foMul rfl rfl rfl ?_
        exact XE
       show V _ _ _ _
       obtain ⟨k24, hk24, h⟩ := of_sI h
       refine V_reg (mb 34 29) [24, 16, 80000] (s1 := ⟨.pt 80000 0 :: .bot :: .pt 16 0 :: .pt 24 0 :: I k24 :: bt 29 [], [(24, .box [Ti y23.1, Ti y23.2.1, Ti y23.2.2.1, Ti y23.2.2.2]), (16, .box [Ti 0, Ti 0, Ti 0, Ti 0]), (80000, .pbox (σ 80000) [.sl (y16.2.1.map c5), Ti y16.2.2.1, .v (.int .u64 y16.2.2.2)])]⟩) ?_ ?_
       ·refine XR 3 ?_
        refine XL_nil ?_
        subst hk24
        kernel_rfl
       exact ⟨n, Nat.lt_succ_self n, _, _, _, _, _, _, _, _,  by rfl, h⟩
    ·have h := of_false h hc13
     refine V_exit ?_
     obtain rfl := some_inj h
     show St.keep _ _ _ = _
     rfl
  show V _ _ _ _
  refine V_e (mb 34 4) [16, 80000] (s1 := ⟨.bot :: .bot :: .pt 16 0 :: bt 31 [], [(16, .box [Ti o12.1, Ti o12.2.1, Ti o12.2.2.1, Ti o12.2.2.2.1]), (80000, .pbox (σ 80000) [.sl (o12.2.2.2.2.1.map c5), Ti o12.2.2.2.2.2.1, .v (.int .u64 o12.2.2.2.2.2.2)])]⟩) ?_
  refine V_ret ?_
  obtain rfl := some_inj h
  show PostR _ _ _ _ _ _
  exact ⟨⟨.inr rfl, rfl, rfl, rfl⟩, ⟨rfl, trivial⟩⟩
theorem cf_spec_foValue : ∀ args w, (callFunc 221 args).run Tryz.prog w = .ok (.enter 221 args) w := run_callFunc Tryz.func221 (by kernel_rfl) (by kernel_rfl)
theorem s_spec_foValue {f1 : (Int × Int × Int)} {x2 : Int} {y3 : Int} {r : Int} (h : r_spec_foValue f1 x2 y3 = some r) : CallS Tryz.prog 221 [.ag [Ti f1.1, Ti f1.2.1, Ti f1.2.2], I x2, I y3] (I r) [] := by
  refine CallS_of_text (rs := [.t 6]) (vs := [.tmp 6]) Tryz.func221 rfl rfl (.cons rfl FitsL.nil) (by decide) 27 rfl ?_
  unfold r_spec_foValue at h
  show V _ _ ⟨.ag [Ti f1.1, Ti f1.2.1, Ti f1.2.2] :: I x2 :: I y3 :: bt 24 [], []⟩ _
  refine V_e (mb 27 14) [24] (s1 := ⟨.bot :: I x2 :: I y3 :: .pt 24 0 :: bt 23 [], [(24, .box [Ti f1.1, Ti f1.2.1, Ti f1.2.2])]⟩) ?_
  obtain ⟨t4, ht4, h⟩ := of_sI h
  refine V_sreg (mb 27 64) [] (s1 := ⟨bt 6 (I t4 :: bt 20 []), []⟩) ?_ ?_
  ·refine XR 21 ?_
   refine XL_nil ?_
   subst ht4
   kernel_rfl
  refine V_ret ?_
  obtain rfl := some_inj h
  show Post _ _ _ _ _
  exact ⟨.inr rfl, rfl, rfl, rfl⟩
theorem cf_spec_foPolar : ∀ args w, (callFunc 223 args).run Tryz.prog w = .ok (.enter 223 args) w := run_callFunc Tryz.func223 (by kernel_rfl) (by kernel_rfl)
theorem s_spec_foPolar {f1 : (Int × Int × Int)} {x2 : Int} {y3 : Int} {u4 : Int} {v5 : Int} {r : Int} (h : r_spec_foPolar f1 x2 y3 u4 v5 = some r) : CallS Tryz.prog 223 [.ag [Ti f1.1, Ti f1.2.1, Ti f1.2.2], I x2, I y3, I u4, I v5] (I r) [] := by
  refine CallS_of_text (rs := [.t 10]) (vs := [.tmp 10]) Tryz.func223 rfl rfl (.cons rfl FitsL.nil) (by decide) 37 rfl ?_
  unfold r_spec_foPolar at h
  show V _ _ ⟨.ag [Ti f1.1, Ti f1.2.1, Ti f1.2.2] :: I x2 :: I y3 :: I u4 :: I v5 :: bt 32 [], []⟩ _
  refine V_e (mb 37 62) [40] (s1 := ⟨.bot :: I x2 :: I y3 :: I u4 :: I v5 :: .pt 40 0 :: bt 31 [], [(40, .box [Ti f1.1, Ti f1.2.1, Ti f1.2.2])]⟩) ?_
  obtain ⟨t6, ht6, h⟩ := of_sI h
  refine V_sreg (mb 37 1024) [] (s1 := ⟨bt 10 (I t6 :: bt 26 []), []⟩) ?_ ?_
  ·refine XR 27 ?_
   refine XL_nil ?_
   subst ht6
   kernel_rfl
  refine V_ret ?_
  obtain rfl := some_inj h
  show Post _ _ _ _ _
  exact ⟨.inr rfl, rfl, rfl, rfl⟩
theorem cf_spec_foAct : ∀ args w, (callFunc 164 args).run Tryz.prog w = .ok (.enter 164 args) w := run_callFunc Tryz.func164 (by kernel_rfl) (by kernel_rfl)
theorem s_spec_foAct {f1 : (Int × Int × Int)} {vm2 : (Int × Int × Int × Int)} {r : (Int × Int × Int)} (h : r_spec_foAct f1 vm2 = some r) : CallS Tryz.prog 164 [.ag [Ti f1.1, Ti f1.2.1, Ti f1.2.2], .ag [Ti vm2.1, Ti vm2.2.1, Ti vm2.2.2.1, Ti vm2.2.2.2]] (.ag [Ti r.1, Ti r.2.1, Ti r.2.2]) [] := by
  refine CallS_of_text (rs := [.w 4 3]) (vs := [.cell 4 25]) Tryz.func164 rfl rfl (.cons ⟨rfl, wd25⟩ FitsL.nil) (by decide) 28 rfl ?_
  unfold r_spec_foAct at h
  show V _ _ ⟨.ag [Ti f1.1, Ti f1.2.1, Ti f1.2.2] :: .ag [Ti vm2.1, Ti vm2.2.1, Ti vm2.2.2.1, Ti vm2.2.2.2] :: bt 26 [], []⟩ _
  refine V_e (mb 28 28) [32, 24, 16] (s1 := ⟨.bot :: .bot :: .pt 16 0 :: .pt 24 0 :: .pt 32 0 :: bt 23 [], [(32, .box [Ti 0, Ti 0, Ti 0]), (24, .box [Ti vm2.1, Ti vm2.2.1, Ti vm2.2.2.1, Ti vm2.2.2.2]), (16, .box [Ti f1.1, Ti f1.2.1, Ti f1.2.2])]⟩) ?_
  obtain ⟨y3, hy3, h⟩ := of_bind h
  obtain ⟨y4, hy4, h⟩ := of_bind h
  obtain ⟨y5, hy5, h⟩ := of_bind h
  refine V_sdreg [0, 0, 2, 0, 8, 31, 0, 0, 128, 0, 512, 0, 2048, 0, 8192, 32767, 0, 0, 131072, 0, 524288, 2097151, 4194303, 8388607] 23 (cdm 23 [2929883521704, 2929883521666, 2929883521670, 2929883521066, 2929883521130, 2929883521365, 2929883515562, 2929883359914, 2929883376298, 2929880902314, 2929881164458, 2929841580714, 2929845775018, 2929212435114, 2929279543978, 2929525609813, 2923441072810, 2760232315562, 2777412184746, 183251937962, 458129844906, 1466015503701, 5864062014805]) (mb 28 16) [32] (s1 := ⟨bt 4 (.pt 32 0 :: bt 23 []), [(32, .box [Ti y3, Ti y4, Ti y5])]⟩) (by kernel_rfl) (by kernel_rfl) ?_ ?_
  ·refine DR 5 ?_
   refine DC 5 (s_spec_foValue hy3) cf_spec_foValue rfl rfl rfl rfl 10 rfl ?_
   refine DR 9 ?_
   refine DC 15 (s_spec_foPolar hy4) cf_spec_foPolar rfl rfl rfl rfl 20 rfl ?_
   refine DR 5 ?_
   refine DC 21 (s_spec_foValue hy5) cf_spec_foValue rfl rfl rfl rfl 26 rfl ?_
   refine DE_0 22 (.ag [Ti y3, Ti y4, Ti y5]) (by kernel_rfl) rfl rfl rfl (gsat_none rfl) (by kernel_rfl) (Y0_build (cs := [Ti y3, Ti y4, Ti y5]) pl25 bt25 rfl rfl (by kernel_rfl)) 27 rfl ?_
   refine DA 0 ?_
   exact XE
  refine V_ret ?_
  obtain rfl := some_inj h
  show Post _ _ _ _ _
  exact ⟨.inr rfl, rfl, rfl, rfl⟩
theorem cf_spec_nuGood : ∀ args w, (callFunc 247 args).run Tryz.prog w = .ok (.enter 247 args) w := run_callFunc Tryz.func247 (by kernel_rfl) (by kernel_rfl)
theorem s_spec_nuGood {vn1 : Int} {r : Bool} (h : r_spec_nuGood vn1 = some r) : CallS Tryz.prog 247 [I vn1] (Bo r) [] := by
  refine CallS_of_text (rs := [.t 2]) (vs := [.tmp 2]) Tryz.func247 rfl rfl (.cons rfl FitsL.nil) (by decide) 5 rfl ?_
  unfold r_spec_nuGood at h
  show V _ _ ⟨I vn1 :: bt 4 [], []⟩ _
  refine V_e (mb 5 1) [] (s1 := ⟨I vn1 :: bt 4 [], []⟩) ?_
  obtain ⟨y2, hy2, h⟩ := of_bind h
  refine V_sreg (mb 5 4) [] (s1 := ⟨.bot :: .bot :: Bo y2 :: .bot :: .bot :: [], []⟩) ?_ ?_
  ·refine XR 1 ?_
   refine XC (s_spec_l1In hy2) cf_spec_l1In rfl rfl rfl ?_
   exact XE
  refine V_ret ?_
  obtain rfl := some_inj h
  show Post _ _ _ _ _
  exact ⟨.inr rfl, rfl, rfl, rfl⟩
theorem cf_spec_foGood : ∀ args w, (callFunc 214 args).run Tryz.prog w = .ok (.enter 214 args) w := run_callFunc Tryz.func214 (by kernel_rfl) (by kernel_rfl)
theorem s_spec_foGood {f1 : (Int × Int × Int)} {r : Bool} (h : r_spec_foGood f1 = some r) : CallS Tryz.prog 214 [.ag [Ti f1.1, Ti f1.2.1, Ti f1.2.2]] (Bo r) [] := by
  refine CallS_of_text (rs := [.t 2]) (vs := [.tmp 2]) Tryz.func214 rfl rfl (.cons rfl FitsL.nil) (by decide) 16 rfl ?_
  unfold r_spec_foGood at h
  show V _ _ ⟨.ag [Ti f1.1, Ti f1.2.1, Ti f1.2.2] :: bt 15 [], []⟩ _
  refine V_e (mb 16 2) [8] (s1 := ⟨.bot :: .pt 8 0 :: bt 14 [], [(8, .box [Ti f1.1, Ti f1.2.1, Ti f1.2.2])]⟩) ?_
  obtain ⟨y2, hy2, h⟩ := of_bind h
  obtain ⟨b5, hb5, h⟩ := of_bind h
  obtain ⟨b8, hb8, h⟩ := of_bind h
  refine V_sreg (mb 16 4) [] (s1 := ⟨.bot :: .bot :: Bo b8 :: bt 13 [], []⟩) ?_ ?_
  ·refine XR 2 ?_
   refine XC (s_spec_nuGood hy2) cf_spec_nuGood rfl rfl rfl ?_
   refine XR 1 ?_
   refine XL_split y2 (fun hc3 => ?_) (fun hc3 => ?_)
   ·have hb5 := of_true hb5 hc3
    obtain ⟨y4, hy4, hb5⟩ := of_bind hb5
    have hb5 := some_inj hb5
    refine XL_takeC _ rfl rfl (by kernel_rfl) hc3 (X_of_Y0 rfl (E_field (.pt 8 1) Tryz.underlying25 rfl sz3 rfl (by kernel_rfl) (by intro hh; cases hh))) ?_
    refine XL_takeC _ rfl rfl (by kernel_rfl) hc3 (X_of_Y0 rfl (Y0_load1 (c := Ti f1.2.1) (cs := [Ti f1.2.2]) sc3 rfl (by kernel_rfl))) ?_
    refine XL_takeC _ rfl rfl (by kernel_rfl) hc3 (X_of_Y1 rfl (Y1_call (s_spec_nuGood hy4) cf_spec_nuGood rfl (by kernel_rfl))) ?_
    refine XL_cons rfl (X_of_Y0 rfl (Y0_pickTe (b := y2) (p := y4) rfl (by kernel_rfl) hc3 (by kernel_rfl) hb5)) ?_
    refine XR 1 ?_
    refine XL_split b5 (fun hc6 => ?_) (fun hc6 => ?_)
    ·have hb8 := of_true hb8 hc6
     obtain ⟨y7, hy7, hb8⟩ := of_bind hb8
     have hb8 := some_inj hb8
     refine XL_takeC _ rfl rfl (by kernel_rfl) hc6 (X_of_Y0 rfl (E_field (.pt 8 2) Tryz.underlying25 rfl sz3 rfl (by kernel_rfl) (by intro hh; cases hh))) ?_
     refine XL_takeC _ rfl rfl (by kernel_rfl) hc6 (X_of_Y0 rfl (Y0_load1 (c := Ti f1.2.2) (cs := []) sc3 rfl (by kernel_rfl))) ?_
     refine XL_takeC _ rfl rfl (by kernel_rfl) hc6 (X_of_Y1 rfl (Y1_call (s_spec_nuGood hy7) cf_spec_nuGood rfl (by kernel_rfl))) ?_
     refine XL_cons rfl (X_of_Y0 rfl (Y0_pickTe (b := b5) (p := y7) rfl (by kernel_rfl) hc6 (by kernel_rfl) hb8)) ?_
     exact XE
    ·have hb8 := some_inj (of_false hb8 hc6)
     refine XL_skipT _ rfl rfl (by kernel_rfl) hc6 rfl ?_
     refine XL_skipT _ rfl rfl (by kernel_rfl) hc6 rfl ?_
     refine XL_skipT _ rfl rfl (by kernel_rfl) hc6 rfl ?_
     refine XL_cons rfl (X_of_Y0 rfl (Y0_pickFe (b := b5) (p := false) rfl (by kernel_rfl) hc6 (by kernel_rfl) hb8)) ?_
     exact XE
   ·have hb5 := some_inj (of_false hb5 hc3)
    refine XL_skipT _ rfl rfl (by kernel_rfl) hc3 rfl ?_
    refine XL_skipT _ rfl rfl (by kernel_rfl) hc3 rfl ?_
    refine XL_skipT _ rfl rfl (by kernel_rfl) hc3 rfl ?_
    refine XL_cons rfl (X_of_Y0 rfl (Y0_pickFe (b := y2) (p := false) rfl (by kernel_rfl) hc3 (by kernel_rfl) hb5)) ?_
    refine XR 1 ?_
    refine XL_split b5 (fun hc6 => ?_) (fun hc6 => ?_)
    ·have hb8 := of_true hb8 hc6
     obtain ⟨y7, hy7, hb8⟩ := of_bind hb8
     have hb8 := some_inj hb8
     refine XL_takeC _ rfl rfl (by kernel_rfl) hc6 (X_of_Y0 rfl (E_field (.pt 8 2) Tryz.underlying25 rfl sz3 rfl (by kernel_rfl) (by intro hh; cases hh))) ?_
     refine XL_takeC _ rfl rfl (by kernel_rfl) hc6 (X_of_Y0 rfl (Y0_load1 (c := Ti f1.2.2) (cs := []) sc3 rfl (by kernel_rfl))) ?_
     refine XL_takeC _ rfl rfl (by kernel_rfl) hc6 (X_of_Y1 rfl (Y1_call (s_spec_nuGood hy7) cf_spec_nuGood rfl (by kernel_rfl))) ?_
     refine XL_cons rfl (X_of_Y0 rfl (Y0_pickTe (b := b5) (p := y7) rfl (by kernel_rfl) hc6 (by kernel_rfl) hb8)) ?_
     exact XE
    ·have hb8 := some_inj (of_false hb8 hc6)
     refine XL_skipT _ rfl rfl (by kernel_rfl) hc6 rfl ?_
     refine XL_skipT _ rfl rfl (by kernel_rfl) hc6 rfl ?_
     refine XL_skipT _ rfl rfl (by kernel_rfl) hc6 rfl ?_
     refine XL_cons rfl (X_of_Y0 rfl (Y0_pickFe (b := b5) (p := false) rfl (by kernel_rfl) hc6 (by kernel_rfl) hb8)) ?_
     exact XE
  refine V_ret ?_
  obtain rfl := some_inj h
  show Post _ _ _ _ _
  exact ⟨.inr rfl, rfl, rfl, rfl⟩
theorem cf_spec_l1Cur_moved : ∀ args w, (callFunc 148 args).run Tryz.prog w = .ok (.enter 148 args) w := run_callFunc Tryz.func148 (by kernel_rfl) (by kernel_rfl)
theorem s_spec_l1Cur_moved {c1 : ((List Int) × Int × Int)} {f2 : (Int × Int × Int)} {r : (((Int × Int × Int)) × (((List Int) × Int × Int)))} (h : r_spec_l1Cur_moved c1 f2 = some r) : CallR Tryz.prog 148 [.pt 80000 0, .ag [Ti f2.1, Ti f2.2.1, Ti f2.2.2]] [(80000, .box [.sl (c1.1.map c5), Ti c1.2.1, .v (.int .u64 c1.2.2)])] (.ag [Ti r.1.1, Ti r.1.2.1, Ti r.1.2.2]) [] [(80000, .box [.sl (r.2.1.map c5), Ti r.2.2.1, .v (.int .u64 r.2.2.2)])] := by
  refine CallR_of_text (rs := [.w 4 3]) (vs := [.cell 4 25]) Tryz.func148 rfl rfl (.cons ⟨rfl, wd25⟩ FitsL.nil) (by decide) 15 rfl rfl fun σ => ?_
  unfold r_spec_l1Cur_moved at h
  show V _ _ ⟨.pt 80000 0 :: .ag [Ti f2.1, Ti f2.2.1, Ti f2.2.2] :: bt 13 [], [(80000, .pbox (σ 80000) [.sl (c1.1.map c5), Ti c1.2.1, .v (.int .u64 c1.2.2)])]⟩ _
  refine V_e (mb 15 25) [32, 24, 80000] (s1 := ⟨.pt 80000 0 :: .bot :: .bot :: .pt 24 0 :: .pt 32 0 :: bt 10 [], [(32, .box [Ti 0, Ti 0, Ti 0]), (24, .box [Ti f2.1, Ti f2.2.1, Ti f2.2.2]), (80000, .pbox (σ 80000) [.sl (c1.1.map c5), Ti c1.2.1, .v (.int .u64 c1.2.2)])]⟩) ?_
  obtain ⟨y3, hy3, h⟩ := of_bind h
  obtain ⟨y4, hy4, h⟩ := of_bind h
  refine V_sdagK (mb 15 56) [40, 32, 24, 80000] [0, 0, 2, 7, 0, 31] [(0, ⟨.pt 80000 0 :: .bot :: .bot :: .pt 24 0 :: .pt 32 0 :: bt 10 [], [(32, .box [Ti 0, Ti 0, Ti 0]), (24, .box [Ti f2.1, Ti f2.2.1, Ti f2.2.2]), (80000, .pbox (σ 80000) [.sl (c1.1.map c5), Ti c1.2.1, .v (.int .u64 c1.2.2)])]⟩), (1, ⟨.pt 80000 0 :: .bot :: .bot :: .pt 24 0 :: .pt 32 0 :: .bot :: .ag [Ti f2.1, Ti f2.2.1, Ti f2.2.2] :: bt 8 [], [(32, .box [Ti 0, Ti 0, Ti 0]), (24, .box [Ti f2.1, Ti f2.2.1, Ti f2.2.2]), (80000, .pbox (σ 80000) [.sl (c1.1.map c5), Ti c1.2.1, .v (.int .u64 c1.2.2)])]⟩), (2, ⟨.pt 80000 0 :: .bot :: .bot :: .pt 24 0 :: .pt 32 0 :: .bot :: .bot :: .pt 80000 0 :: bt 7 [], [(32, .box [Ti 0, Ti 0, Ti 0]), (24, .box [Ti f2.1, Ti f2.2.1, Ti f2.2.2]), (80000, .pbox (σ 80000) [.sl (c1.1.map c5), Ti c1.2.1, .v (.int .u64 c1.2.2)])]⟩), (3, ⟨.pt 80000 0 :: .bot :: .bot :: .pt 24 0 :: .pt 32 0 :: .bot :: .ag [Ti f2.1, Ti f2.2.1, Ti f2.2.2] :: .pt 80000 0 :: bt 7 [], [(32, .box [Ti 0, Ti 0, Ti 0]), (24, .box [Ti f2.1, Ti f2.2.1, Ti f2.2.2]), (80000, .pbox (σ 80000) [.sl (c1.1.map c5), Ti c1.2.1, .v (.int .u64 c1.2.2)])]⟩), (6, ⟨.pt 80000 0 :: .bot :: .bot :: .pt 24 0 :: .pt 32 0 :: .bot :: .bot :: .pt 80000 0 :: .ag [Ti y3.1.1, Ti y3.1.2.1, Ti y3.1.2.2.1, Ti y3.1.2.2.2] :: bt 6 [], [(32, .box [Ti 0, Ti 0, Ti 0]), (24, .box [Ti f2.1, Ti f2.2.1, Ti f2.2.2]), (80000, .pbox (σ 80000) [.sl (y3.2.1.map c5), Ti y3.2.2.1, .v (.int .u64 y3.2.2.2)])]⟩), (7, ⟨.pt 80000 0 :: .bot :: .bot :: .pt 24 0 :: .pt 32 0 :: .bot :: .ag [Ti f2.1, Ti f2.2.1, Ti f2.2.2] :: .pt 80000 0 :: .ag [Ti y3.1.1, Ti y3.1.2.1, Ti y3.1.2.2.1, Ti y3.1.2.2.2] :: bt 6 [], [(32, .box [Ti 0, Ti 0, Ti 0]), (24, .box [Ti f2.1, Ti f2.2.1, Ti f2.2.2]), (80000, .pbox (σ 80000) [.sl (y3.2.1.map c5), Ti y3.2.2.1, .v (.int .u64 y3.2.2.2)])]⟩), (15, ⟨.pt 80000 0 :: .bot :: .bot :: .pt 24 0 :: .pt 32 0 :: .bot :: .ag [Ti f2.1, Ti f2.2.1, Ti f2.2.2] :: .pt 80000 0 :: .ag [Ti y3.1.1, Ti y3.1.2.1, Ti y3.1.2.2.1, Ti y3.1.2.2.2] :: .ag [Ti y4.1, Ti y4.2.1, Ti y4.2.2] :: bt 5 [], [(32, .box [Ti 0, Ti 0, Ti 0]), (24, .box [Ti f2.1, Ti f2.2.1, Ti f2.2.2]), (80000, .pbox (σ 80000) [.sl (y3.2.1.map c5), Ti y3.2.2.1, .v (.int .u64 y3.2.2.2)])]⟩), (16, ⟨.pt 80000 0 :: .bot :: .bot :: .pt 24 0 :: .pt 32 0 :: .pt 40 0 :: bt 9 [], [(40, .box [Ti 0, Ti 0, Ti 0]), (32, .box [Ti 0, Ti 0, Ti 0]), (24, .box [Ti f2.1, Ti f2.2.1, Ti f2.2.2]), (80000, .pbox (σ 80000) [.sl (c1.1.map c5), Ti c1.2.1, .v (.int .u64 c1.2.2)])]⟩), (17, ⟨.pt 80000 0 :: .bot :: .bot :: .pt 24 0 :: .pt 32 0 :: .pt 40 0 :: .ag [Ti f2.1, Ti f2.2.1, Ti f2.2.2] :: bt 8 [], [(40, .box [Ti 0, Ti 0, Ti 0]), (32, .box [Ti 0, Ti 0, Ti 0]), (24, .box [Ti f2.1, Ti f2.2.1, Ti f2.2.2]), (80000, .pbox (σ 80000) [.sl (c1.1.map c5), Ti c1.2.1, .v (.int .u64 c1.2.2)])]⟩), (18, ⟨.pt 80000 0 :: .bot :: .bot :: .pt 24 0 :: .pt 32 0 :: .pt 40 0 :: .bot :: .pt 80000 0 :: bt 7 [], [(40, .box [Ti 0, Ti 0, Ti 0]), (32, .box [Ti 0, Ti 0, Ti 0]), (24, .box [Ti f2.1, Ti f2.2.1, Ti f2.2.2]), (80000, .pbox (σ 80000) [.sl (c1.1.map c5), Ti c1.2.1, .v (.int .u64 c1.2.2)])]⟩), (19, ⟨.pt 80000 0 :: .bot :: .bot :: .pt 24 0 :: .pt 32 0 :: .pt 40 0 :: .ag [Ti f2.1, Ti f2.2.1, Ti f2.2.2] :: .pt 80000 0 :: bt 7 [], [(40, .box [Ti 0, Ti 0, Ti 0]), (32, .box [Ti 0, Ti 0, Ti 0]), (24, .box [Ti f2.1, Ti f2.2.1, Ti f2.2.2]), (80000, .pbox (σ 80000) [.sl (c1.1.map c5), Ti c1.2.1, .v (.int .u64 c1.2.2)])]⟩), (22, ⟨.pt 80000 0 :: .bot :: .bot :: .pt 24 0 :: .pt 32 0 :: .pt 40 0 :: .bot :: .pt 80000 0 :: .ag [Ti y3.1.1, Ti y3.1.2.1, Ti y3.1.2.2.1, Ti y3.1.2.2.2] :: bt 6 [], [(40, .box [Ti 0, Ti 0, Ti 0]), (32, .box [Ti 0, Ti 0, Ti 0]), (24, .box [Ti f2.1, Ti f2.2.1, Ti f2.2.2]), (80000, .pbox (σ 80000) [.sl (y3.2.1.map c5), Ti y3.2.2.1, .v (.int .u64 y3.2.2.2)])]⟩), (23, ⟨.pt 80000 0 :: .bot :: .bot :: .pt 24 0 :: .pt 32 0 :: .pt 40 0 :: .ag [Ti f2.1, Ti f2.2.1, Ti f2.2.2] :: .pt 80000 0 :: .ag [Ti y3.1.1, Ti y3.1.2.1, Ti y3.1.2.2.1, Ti y3.1.2.2.2] :: bt 6 [], [(40, .box [Ti 0, Ti 0, Ti 0]), (32, .box [Ti 0, Ti 0, Ti 0]), (24, .box [Ti f2.1, Ti f2.2.1, Ti f2.2.2]), (80000, .pbox (σ 80000) [.sl (y3.2.1.map c5), Ti y3.2.2.1, .v (.int .u64 y3.2.2.2)])]⟩), (31, ⟨.pt 80000 0 :: .bot :: .bot :: .pt 24 0 :: .pt 32 0 :: .pt 40 0 :: .ag [Ti f2.1, Ti f2.2.1, Ti f2.2.2] :: .pt 80000 0 :: .ag [Ti y3.1.1, Ti y3.1.2.1, Ti y3.1.2.2.1, Ti y3.1.2.2.2] :: .ag [Ti y4.1, Ti y4.2.1, Ti y4.2.2] :: bt 5 [], [(40, .box [Ti 0, Ti 0, Ti 0]), (32, .box [Ti 0, Ti 0, Ti 0]), (24, .box [Ti f2.1, Ti f2.2.1, Ti f2.2.2]), (80000, .pbox (σ 80000) [.sl (y3.2.1.map c5), Ti y3.2.2.1, .v (.int .u64 y3.2.2.2)])]⟩), (63, ⟨.pt 80000 0 :: .bot :: .bot :: .pt 24 0 :: .pt 32 0 :: .pt 40 0 :: .ag [Ti f2.1, Ti f2.2.1, Ti f2.2.2] :: .pt 80000 0 :: .ag [Ti y3.1.1, Ti y3.1.2.1, Ti y3.1.2.2.1, Ti y3.1.2.2.2] :: .ag [Ti y4.1, Ti y4.2.1, Ti y4.2.2] :: bt 5 [], [(40, .box [Ti y4.1, Ti y4.2.1, Ti y4.2.2]), (32, .box [Ti 0, Ti 0, Ti 0]), (24, .box [Ti f2.1, Ti f2.2.1, Ti f2.2.2]), (80000, .pbox (σ 80000) [.sl (y3.2.1.map c5), Ti y3.2.2.1, .v (.int .u64 y3.2.2.2)])]⟩)] (s1 := ⟨bt 3 (.pt 24 0 :: .pt 32 0 :: .pt 40 0 :: bt 9 []), [(40, .box [Ti y4.1, Ti y4.2.1, Ti y4.2.2]), (32, .box [Ti 0, Ti 0, Ti 0]), (24, .box [Ti f2.1, Ti f2.2.1, Ti f2.2.2]), (80000, .pbox (σ 80000) [.sl (y3.2.1.map c5), Ti y3.2.2.1, .v (.int .u64 y3.2.2.2)])]⟩) (by kernel_rfl) (by kernel_rfl) (by kernel_rfl) ?_ ?_
  ·refine tab_row [4, 1, 0] (by kernel_rfl) (by kernel_rfl) ?_ ?_
   ·refine step_cons (s2 := ⟨.pt 80000 0 :: .bot :: .bot :: .pt 24 0 :: .pt 32 0 :: .pt 40 0 :: bt 9 [], [(40, .box [Ti 0, Ti 0, Ti 0]), (32, .box [Ti 0, Ti 0, Ti 0]), (24, .box [Ti f2.1, Ti f2.2.1, Ti f2.2.2]), (80000, .pbox (σ 80000) [.sl (c1.1.map c5), Ti c1.2.1, .v (.int .u64 c1.2.2)])]⟩) rfl rfl (X_of_Y1 rfl (Y1_alloc (z := zv25) rfl zf25 rfl)) (by kernel_rfl) rfl (hE_cons (by kernel_rfl) (hE_cons (by kernel_rfl) (hE_cons (by kernel_rfl) (hE_cons (by kernel_rfl) hE_nil)))) ?_
    refine step_cons (s2 := ⟨.pt 80000 0 :: .bot :: .bot :: .pt 24 0 :: .pt 32 0 :: .bot :: .bot :: .pt 80000 0 :: bt 7 [], [(32, .box [Ti 0, Ti 0, Ti 0]), (24, .box [Ti f2.1, Ti f2.2.1, Ti f2.2.2]), (80000, .pbox (σ 80000) [.sl (c1.1.map c5), Ti c1.2.1, .v (.int .u64 c1.2.2)])]⟩) rfl rfl (X_of_Y0 rfl (E_move (.pt 80000 0) rfl (by kernel_rfl))) (by kernel_rfl) rfl (hE_cons (by kernel_rfl) (hE_cons (by kernel_rfl) (hE_cons (by kernel_rfl) hE_nil))) ?_
    refine step_cons (s2 := ⟨.pt 80000 0 :: .bot :: .bot :: .pt 24 0 :: .pt 32 0 :: .bot :: .ag [Ti f2.1, Ti f2.2.1, Ti f2.2.2] :: bt 8 [], [(32, .box [Ti 0, Ti 0, Ti 0]), (24, .box [Ti f2.1, Ti f2.2.1, Ti f2.2.2]), (80000, .pbox (σ 80000) [.sl (c1.1.map c5), Ti c1.2.1, .v (.int .u64 c1.2.2)])]⟩) rfl rfl (X_of_Y0 rfl (E_loadn (cs := [Ti f2.1, Ti f2.2.1, Ti f2.2.2]) [Ti f2.1, Ti f2.2.1, Ti f2.2.2] wd25 rfl (by kernel_rfl) (Nat.le_of_ble_eq_true rfl) (by kernel_rfl))) (by kernel_rfl) rfl (hE_cons (by kernel_rfl) (hE_cons (by kernel_rfl) (hE_cons (by kernel_rfl) hE_nil))) ?_
    exact step_nil
   refine tab_row [4, 1] (by kernel_rfl) (by kernel_rfl) ?_ ?_
   ·refine step_cons (s2 := ⟨.pt 80000 0 :: .bot :: .bot :: .pt 24 0 :: .pt 32 0 :: .pt 40 0 :: .ag [Ti f2.1, Ti f2.2.1, Ti f2.2.2] :: bt 8 [], [(40, .box [Ti 0, Ti 0, Ti 0]), (32, .box [Ti 0, Ti 0, Ti 0]), (24, .box [Ti f2.1, Ti f2.2.1, Ti f2.2.2]), (80000, .pbox (σ 80000) [.sl (c1.1.map c5), Ti c1.2.1, .v (.int .u64 c1.2.2)])]⟩) rfl rfl (X_of_Y1 rfl (Y1_alloc (z := zv25) rfl zf25 rfl)) (by kernel_rfl) rfl (hE_cons (by kernel_rfl) (hE_cons (by kernel_rfl) (hE_cons (by kernel_rfl) (hE_cons (by kernel_rfl) hE_nil)))) ?_
    refine step_cons (s2 := ⟨.pt 80000 0 :: .bot :: .bot :: .pt 24 0 :: .pt 32 0 :: .bot :: .ag [Ti f2.1, Ti f2.2.1, Ti f2.2.2] :: .pt 80000 0 :: bt 7 [], [(32, .box [Ti 0, Ti 0, Ti 0]), (24, .box [Ti f2.1, Ti f2.2.1, Ti f2.2.2]), (80000, .pbox (σ 80000) [.sl (c1.1.map c5), Ti c1.2.1, .v (.int .u64 c1.2.2)])]⟩) rfl rfl (X_of_Y0 rfl (E_move (.pt 80000 0) rfl (by kernel_rfl))) (by kernel_rfl) rfl (hE_cons (by kernel_rfl) (hE_cons (by kernel_rfl) (hE_cons (by kernel_rfl) hE_nil))) ?_
    exact step_nil
   refine tab_row [4, 2, 0] (by kernel_rfl) (by kernel_rfl) ?_ ?_
   ·refine step_cons (s2 := ⟨.pt 80000 0 :: .bot :: .bot :: .pt 24 0 :: .pt 32 0 :: .pt 40 0 :: .bot :: .pt 80000 0 :: bt 7 [], [(40, .box [Ti 0, Ti 0, Ti 0]), (32, .box [Ti 0, Ti 0, Ti 0]), (24, .box [Ti f2.1, Ti f2.2.1, Ti f2.2.2]), (80000, .pbox (σ 80000) [.sl (c1.1.map c5), Ti c1.2.1, .v (.int .u64 c1.2.2)])]⟩) rfl rfl (X_of_Y1 rfl (Y1_alloc (z := zv25) rfl zf25 rfl)) (by kernel_rfl) rfl (hE_cons (by kernel_rfl) (hE_cons (by kernel_rfl) (hE_cons (by kernel_rfl) (hE_cons (by kernel_rfl) hE_nil)))) ?_
    refine step_cons (s2 := ⟨.pt 80000 0 :: .bot :: .bot :: .pt 24 0 :: .pt 32 0 :: .bot :: .bot :: .pt 80000 0 :: .ag [Ti y3.1.1, Ti y3.1.2.1, Ti y3.1.2.2.1, Ti y3.1.2.2.2] :: bt 6 [], [(32, .box [Ti 0, Ti 0, Ti 0]), (24, .box [Ti f2.1, Ti f2.2.1, Ti f2.2.2]), (80000, .pbox (σ 80000) [.sl (y3.2.1.map c5), Ti y3.2.2.1, .v (.int .u64 y3.2.2.2)])]⟩) rfl rfl (X_callR (E' := [(32, .box [Ti 0, Ti 0, Ti 0]), (24, .box [Ti f2.1, Ti f2.2.1, Ti f2.2.2]), (80000, .pbox (σ 80000) [.sl (y3.2.1.map c5), Ti y3.2.2.1, .v (.int .u64 y3.2.2.2)])]) [(80000, 80000)] 8 (s_spec_l1Cur_proper hy3) cf_spec_l1Cur_proper rfl rfl (by kernel_rfl) rfl (mE_cons (by kernel_rfl) mE_nil) rfl (by kernel_rfl) rfl rfl (by kernel_rfl)) (by kernel_rfl) rfl (hE_cons (by kernel_rfl) (hE_cons (by kernel_rfl) (hE_cons (by kernel_rfl) hE_nil))) ?_
    refine step_cons (s2 := ⟨.pt 80000 0 :: .bot :: .bot :: .pt 24 0 :: .pt 32 0 :: .bot :: .ag [Ti f2.1, Ti f2.2.1, Ti f2.2.2] :: .pt 80000 0 :: bt 7 [], [(32, .box [Ti 0, Ti 0, Ti 0]), (24, .box [Ti f2.1, Ti f2.2.1, Ti f2.2.2]), (80000, .pbox (σ 80000) [.sl (c1.1.map c5), Ti c1.2.1, .v (.int .u64 c1.2.2)])]⟩) rfl rfl (X_of_Y0 rfl (E_loadn (cs := [Ti f2.1, Ti f2.2.1, Ti f2.2.2]) [Ti f2.1, Ti f2.2.1, Ti f2.2.2] wd25 rfl (by kernel_rfl) (Nat.le_of_ble_eq_true rfl) (by kernel_rfl))) (by kernel_rfl) rfl (hE_cons (by kernel_rfl) (hE_cons (by kernel_rfl) (hE_cons (by kernel_rfl) hE_nil))) ?_
    exact step_nil
   refine tab_row [4, 2] (by kernel_rfl) (by kernel_rfl) ?_ ?_
   ·refine step_cons (s2 := ⟨.pt 80000 0 :: .bot :: .bot :: .pt 24 0 :: .pt 32 0 :: .pt 40 0 :: .ag [Ti f2.1, Ti f2.2.1, Ti f2.2.2] :: .pt 80000 0 :: bt 7 [], [(40, .box [Ti 0, Ti 0, Ti 0]), (32, .box [Ti 0, Ti 0, Ti 0]), (24, .box [Ti f2.1, Ti f2.2.1, Ti f2.2.2]), (80000, .pbox (σ 80000) [.sl (c1.1.map c5), Ti c1.2.1, .v (.int .u64 c1.2.2)])]⟩) rfl rfl (X_of_Y1 rfl (Y1_alloc (z := zv25) rfl zf25 rfl)) (by kernel_rfl) rfl (hE_cons (by kernel_rfl) (hE_cons (by kernel_rfl) (hE_cons (by kernel_rfl) (hE_cons (by kernel_rfl) hE_nil)))) ?_
    refine step_cons (s2 := ⟨.pt 80000 0 :: .bot :: .bot :: .pt 24 0 :: .pt 32 0 :: .bot :: .ag [Ti f2.1, Ti f2.2.1, Ti f2.2.2] :: .pt 80000 0 :: .ag [Ti y3.1.1, Ti y3.1.2.1, Ti y3.1.2.2.1, Ti y3.1.2.2.2] :: bt 6 [], [(32, .box [Ti 0, Ti 0, Ti 0]), (24, .box [Ti f2.1, Ti f2.2.1, Ti f2.2.2]), (80000, .pbox (σ 80000) [.sl (y3.2.1.map c5), Ti y3.2.2.1, .v (.int .u64 y3.2.2.2)])]⟩) rfl rfl (X_callR (E' := [(32, .box [Ti 0, Ti 0, Ti 0]), (24, .box [Ti f2.1, Ti f2.2.1, Ti f2.2.2]), (80000, .pbox (σ 80000) [.sl (y3.2.1.map c5), Ti y3.2.2.1, .v (.int .u64 y3.2.2.2)])]) [(80000, 80000)] 8 (s_spec_l1Cur_proper hy3) cf_spec_l1Cur_proper rfl rfl (by kernel_rfl) rfl (mE_cons (by kernel_rfl) mE_nil) rfl (by kernel_rfl) rfl rfl (by kernel_rfl)) (by kernel_rfl) rfl (hE_cons (by kernel_rfl) (hE_cons (by kernel_rfl) (hE_cons (by kernel_rfl) hE_nil))) ?_
    exact step_nil
   refine tab_row [4, 0] (by kernel_rfl) (by kernel_rfl) ?_ ?_
   ·refine step_cons (s2 := ⟨.pt 80000 0 :: .bot :: .bot :: .pt 24 0 :: .pt 32 0 :: .pt 40 0 :: .bot :: .pt 80000 0 :: .ag [Ti y3.1.1, Ti y3.1.2.1, Ti y3.1.2.2.1, Ti y3.1.2.2.2] :: bt 6 [], [(40, .box [Ti 0, Ti 0, Ti 0]), (32, .box [Ti 0, Ti 0, Ti 0]), (24, .box [Ti f2.1, Ti f2.2.1, Ti f2.2.2]), (80000, .pbox (σ 80000) [.sl (y3.2.1.map c5), Ti y3.2.2.1, .v (.int .u64 y3.2.2.2)])]⟩) rfl rfl (X_of_Y1 rfl (Y1_alloc (z := zv25) rfl zf25 rfl)) (by kernel_rfl) rfl (hE_cons (by kernel_rfl) (hE_cons (by kernel_rfl) (hE_cons (by kernel_rfl) (hE_cons (by kernel_rfl) hE_nil)))) ?_
    refine step_cons (s2 := ⟨.pt 80000 0 :: .bot :: .bot :: .pt 24 0 :: .pt 32 0 :: .bot :: .ag [Ti f2.1, Ti f2.2.1, Ti f2.2.2] :: .pt 80000 0 :: .ag [Ti y3.1.1, Ti y3.1.2.1, Ti y3.1.2.2.1, Ti y3.1.2.2.2] :: bt 6 [], [(32, .box [Ti 0, Ti 0, Ti 0]), (24, .box [Ti f2.1, Ti f2.2.1, Ti f2.2.2]), (80000, .pbox (σ 80000) [.sl (y3.2.1.map c5), Ti y3.2.2.1, .v (.int .u64 y3.2.2.2)])]⟩) rfl rfl (X_of_Y0 rfl (E_loadn (cs := [Ti f2.1, Ti f2.2.1, Ti f2.2.2]) [Ti f2.1, Ti f2.2.1, Ti f2.2.2] wd25 rfl (by kernel_rfl) (Nat.le_of_ble_eq_true rfl) (by kernel_rfl))) (by kernel_rfl) rfl (hE_cons (by kernel_rfl) (hE_cons (by kernel_rfl) (hE_cons (by kernel_rfl) hE_nil))) ?_
    exact step_nil
   refine tab_row [4, 3] (by kernel_rfl) (by kernel_rfl) ?_ ?_
   ·refine step_cons (s2 := ⟨.pt 80000 0 :: .bot :: .bot :: .pt 24 0 :: .pt 32 0 :: .pt 40 0 :: .ag [Ti f2.1, Ti f2.2.1, Ti f2.2.2] :: .pt 80000 0 :: .ag [Ti y3.1.1, Ti y3.1.2.1, Ti y3.1.2.2.1, Ti y3.1.2.2.2] :: bt 6 [], [(40, .box [Ti 0, Ti 0, Ti 0]), (32, .box [Ti 0, Ti 0, Ti 0]), (24, .box [Ti f2.1, Ti f2.2.1, Ti f2.2.2]), (80000, .pbox (σ 80000) [.sl (y3.2.1.map c5), Ti y3.2.2.1, .v (.int .u64 y3.2.2.2)])]⟩) rfl rfl (X_of_Y1 rfl (Y1_alloc (z := zv25) rfl zf25 rfl)) (by kernel_rfl) rfl (hE_cons (by kernel_rfl) (hE_cons (by kernel_rfl) (hE_cons (by kernel_rfl) (hE_cons (by kernel_rfl) hE_nil)))) ?_
    refine step_cons (s2 := ⟨.pt 80000 0 :: .bot :: .bot :: .pt 24 0 :: .pt 32 0 :: .bot :: .ag [Ti f2.1, Ti f2.2.1, Ti f2.2.2] :: .pt 80000 0 :: .ag [Ti y3.1.1, Ti y3.1.2.1, Ti y3.1.2.2.1, Ti y3.1.2.2.2] :: .ag [Ti y4.1, Ti y4.2.1, Ti y4.2.2] :: bt 5 [], [(32, .box [Ti 0, Ti 0, Ti 0]), (24, .box [Ti f2.1, Ti f2.2.1, Ti f2.2.2]), (80000, .pbox (σ 80000) [.sl (y3.2.1.map c5), Ti y3.2.2.1, .v (.int .u64 y3.2.2.2)])]⟩) rfl rfl (X_of_Y1 rfl (Y1_call (s_spec_foAct hy4) cf_spec_foAct rfl (by kernel_rfl))) (by kernel_rfl) rfl (hE_cons (by kernel_rfl) (hE_cons (by kernel_rfl) (hE_cons (by kernel_rfl) hE_nil))) ?_
    exact step_nil
   refine tab_row [4] (by kernel_rfl) (by kernel_rfl) ?_ ?_
   ·refine step_cons (s2 := ⟨.pt 80000 0 :: .bot :: .bot :: .pt 24 0 :: .pt 32 0 :: .pt 40 0 :: .ag [Ti f2.1, Ti f2.2.1, Ti f2.2.2] :: .pt 80000 0 :: .ag [Ti y3.1.1, Ti y3.1.2.1, Ti y3.1.2.2.1, Ti y3.1.2.2.2] :: .ag [Ti y4.1, Ti y4.2.1, Ti y4.2.2] :: bt 5 [], [(40, .box [Ti 0, Ti 0, Ti 0]), (32, .box [Ti 0, Ti 0, Ti 0]), (24, .box [Ti f2.1, Ti f2.2.1, Ti f2.2.2]), (80000, .pbox (σ 80000) [.sl (y3.2.1.map c5), Ti y3.2.2.1, .v (.int .u64 y3.2.2.2)])]⟩) rfl rfl (X_of_Y1 rfl (Y1_alloc (z := zv25) rfl zf25 rfl)) (by kernel_rfl) rfl (hE_cons (by kernel_rfl) (hE_cons (by kernel_rfl) (hE_cons (by kernel_rfl) (hE_cons (by kernel_rfl) hE_nil)))) ?_
    exact step_nil
   refine tab_row [1, 0] (by kernel_rfl) (by kernel_rfl) ?_ ?_
   ·refine step_cons (s2 := ⟨.pt 80000 0 :: .bot :: .bot :: .pt 24 0 :: .pt 32 0 :: .pt 40 0 :: .bot :: .pt 80000 0 :: bt 7 [], [(40, .box [Ti 0, Ti 0, Ti 0]), (32, .box [Ti 0, Ti 0, Ti 0]), (24, .box [Ti f2.1, Ti f2.2.1, Ti f2.2.2]), (80000, .pbox (σ 80000) [.sl (c1.1.map c5), Ti c1.2.1, .v (.int .u64 c1.2.2)])]⟩) rfl rfl (X_of_Y0 rfl (E_move (.pt 80000 0) rfl (by kernel_rfl))) (by kernel_rfl) rfl (hE_cons (by kernel_rfl) (hE_cons (by kernel_rfl) (hE_cons (by kernel_rfl) (hE_cons (by kernel_rfl) hE_nil)))) ?_
    refine step_cons (s2 := ⟨.pt 80000 0 :: .bot :: .bot :: .pt 24 0 :: .pt 32 0 :: .pt 40 0 :: .ag [Ti f2.1, Ti f2.2.1, Ti f2.2.2] :: bt 8 [], [(40, .box [Ti 0, Ti 0, Ti 0]), (32, .box [Ti 0, Ti 0, Ti 0]), (24, .box [Ti f2.1, Ti f2.2.1, Ti f2.2.2]), (80000, .pbox (σ 80000) [.sl (c1.1.map c5), Ti c1.2.1, .v (.int .u64 c1.2.2)])]⟩) rfl rfl (X_of_Y0 rfl (E_loadn (cs := [Ti f2.1, Ti f2.2.1, Ti f2.2.2]) [Ti f2.1, Ti f2.2.1, Ti f2.2.2] wd25 rfl (by kernel_rfl) (Nat.le_of_ble_eq_true rfl) (by kernel_rfl))) (by kernel_rfl) rfl (hE_cons (by kernel_rfl) (hE_cons (by kernel_rfl) (hE_cons (by kernel_rfl) (hE_cons (by kernel_rfl) hE_nil)))) ?_
    exact step_nil
   refine tab_row [1] (by kernel_rfl) (by kernel_rfl) ?_ ?_
   ·refine step_cons (s2 := ⟨.pt 80000 0 :: .bot :: .bot :: .pt 24 0 :: .pt 32 0 :: .pt 40 0 :: .ag [Ti f2.1, Ti f2.2.1, Ti f2.2.2] :: .pt 80000 0 :: bt 7 [], [(40, .box [Ti 0, Ti 0, Ti 0]), (32, .box [Ti 0, Ti 0, Ti 0]), (24, .box [Ti f2.1, Ti f2.2.1, Ti f2.2.2]), (80000, .pbox (σ 80000) [.sl (c1.1.map c5), Ti c1.2.1, .v (.int .u64 c1.2.2)])]⟩) rfl rfl (X_of_Y0 rfl (E_move (.pt 80000 0) rfl (by kernel_rfl))) (by kernel_rfl) rfl (hE_cons (by kernel_rfl) (hE_cons (by kernel_rfl) (hE_cons (by kernel_rfl) (hE_cons (by kernel_rfl) hE_nil)))) ?_
    exact step_nil
   refine tab_row [2, 0] (by kernel_rfl) (by kernel_rfl) ?_ ?_
   ·refine step_cons (s2 := ⟨.pt 80000 0 :: .bot :: .bot :: .pt 24 0 :: .pt 32 0 :: .pt 40 0 :: .bot :: .pt 80000 0 :: .ag [Ti y3.1.1, Ti y3.1.2.1, Ti y3.1.2.2.1, Ti y3.1.2.2.2] :: bt 6 [], [(40, .box [Ti 0, Ti 0, Ti 0]), (32, .box [Ti 0, Ti 0, Ti 0]), (24, .box [Ti f2.1, Ti f2.2.1, Ti f2.2.2]), (80000, .pbox (σ 80000) [.sl (y3.2.1.map c5), Ti y3.2.2.1, .v (.int .u64 y3.2.2.2)])]⟩) rfl rfl (X_callR (E' := [(40, .box [Ti 0, Ti 0, Ti 0]), (32, .box [Ti 0, Ti 0, Ti 0]), (24, .box [Ti f2.1, Ti f2.2.1, Ti f2.2.2]), (80000, .pbox (σ 80000) [.sl (y3.2.1.map c5), Ti y3.2.2.1, .v (.int .u64 y3.2.2.2)])]) [(80000, 80000)] 8 (s_spec_l1Cur_proper hy3) cf_spec_l1Cur_proper rfl rfl (by kernel_rfl) rfl (mE_cons (by kernel_rfl) mE_nil) rfl (by kernel_rfl) rfl rfl (by kernel_rfl)) (by kernel_rfl) rfl (hE_cons (by kernel_rfl) (hE_cons (by kernel_rfl) (hE_cons (by kernel_rfl) (hE_cons (by kernel_rfl) hE_nil)))) ?_
    refine step_cons (s2 := ⟨.pt 80000 0 :: .bot :: .bot :: .pt 24 0 :: .pt 32 0 :: .pt 40 0 :: .ag [Ti f2.1, Ti f2.2.1, Ti f2.2.2] :: .pt 80000 0 :: bt 7 [], [(40, .box [Ti 0, Ti 0, Ti 0]), (32, .box [Ti 0, Ti 0, Ti 0]), (24, .box [Ti f2.1, Ti f2.2.1, Ti f2.2.2]), (80000, .pbox (σ 80000) [.sl (c1.1.map c5), Ti c1.2.1, .v (.int .u64 c1.2.2)])]⟩) rfl rfl (X_of_Y0 rfl (E_loadn (cs := [Ti f2.1, Ti f2.2.1, Ti f2.2.2]) [Ti f2.1, Ti f2.2.1, Ti f2.2.2] wd25 rfl (by kernel_rfl) (Nat.le_of_ble_eq_true rfl) (by kernel_rfl))) (by kernel_rfl) rfl (hE_cons (by kernel_rfl) (hE_cons (by kernel_rfl) (hE_cons (by kernel_rfl) (hE_cons (by kernel_rfl) hE_nil)))) ?_
    exact step_nil
   refine tab_row [2] (by kernel_rfl) (by kernel_rfl) ?_ ?_
   ·refine step_cons (s2 := ⟨.pt 80000 0 :: .bot :: .bot :: .pt 24 0 :: .pt 32 0 :: .pt 40 0 :: .ag [Ti f2.1, Ti f2.2.1, Ti f2.2.2] :: .pt 80000 0 :: .ag [Ti y3.1.1, Ti y3.1.2.1, Ti y3.1.2.2.1, Ti y3.1.2.2.2] :: bt 6 [], [(40, .box [Ti 0, Ti 0, Ti 0]), (32, .box [Ti 0, Ti 0, Ti 0]), (24, .box [Ti f2.1, Ti f2.2.1, Ti f2.2.2]), (80000, .pbox (σ 80000) [.sl (y3.2.1.map c5), Ti y3.2.2.1, .v (.int .u64 y3.2.2.2)])]⟩) rfl rfl (X_callR (E' := [(40, .box [Ti 0, Ti 0, Ti 0]), (32, .box [Ti 0, Ti 0, Ti 0]), (24, .box [Ti f2.1, Ti f2.2.1, Ti f2.2.2]), (80000, .pbox (σ 80000) [.sl (y3.2.1.map c5), Ti y3.2.2.1, .v (.int .u64 y3.2.2.2)])]) [(80000, 80000)] 8 (s_spec_l1Cur_proper hy3) cf_spec_l1Cur_proper rfl rfl (by kernel_rfl) rfl (mE_cons (by kernel_rfl) mE_nil) rfl (by kernel_rfl) rfl rfl (by kernel_rfl)) (by kernel_rfl) rfl (hE_cons (by kernel_rfl) (hE_cons (by kernel_rfl) (hE_cons (by kernel_rfl) (hE_cons (by kernel_rfl) hE_nil)))) ?_
    exact step_nil
   refine tab_row [0] (by kernel_rfl) (by kernel_rfl) ?_ ?_
   ·refine step_cons (s2 := ⟨.pt 80000 0 :: .bot :: .bot :: .pt 24 0 :: .pt 32 0 :: .pt 40 0 :: .ag [Ti f2.1, Ti f2.2.1, Ti f2.2.2] :: .pt 80000 0 :: .ag [Ti y3.1.1, Ti y3.1.2.1, Ti y3.1.2.2.1, Ti y3.1.2.2.2] :: bt 6 [], [(40, .box [Ti 0, Ti 0, Ti 0]), (32, .box [Ti 0, Ti 0, Ti 0]), (24, .box [Ti f2.1, Ti f2.2.1, Ti f2.2.2]), (80000, .pbox (σ 80000) [.sl (y3.2.1.map c5), Ti y3.2.2.1, .v (.int .u64 y3.2.2.2)])]⟩) rfl rfl (X_of_Y0 rfl (E_loadn (cs := [Ti f2.1, Ti f2.2.1, Ti f2.2.2]) [Ti f2.1, Ti f2.2.1, Ti f2.2.2] wd25 rfl (by kernel_rfl) (Nat.le_of_ble_eq_true rfl) (by kernel_rfl))) (by kernel_rfl) rfl (hE_cons (by kernel_rfl) (hE_cons (by kernel_rfl) (hE_cons (by kernel_rfl) (hE_cons (by kernel_rfl) hE_nil)))) ?_
    exact step_nil
   refine tab_row [3] (by kernel_rfl) (by kernel_rfl) ?_ ?_
   ·refine step_cons (s2 := ⟨.pt 80000 0 :: .bot :: .bot :: .pt 24 0 :: .pt 32 0 :: .pt 40 0 :: .ag [Ti f2.1, Ti f2.2.1, Ti f2.2.2] :: .pt 80000 0 :: .ag [Ti y3.1.1, Ti y3.1.2.1, Ti y3.1.2.2.1, Ti y3.1.2.2.2] :: .ag [Ti y4.1, Ti y4.2.1, Ti y4.2.2] :: bt 5 [], [(40, .box [Ti 0, Ti 0, Ti 0]), (32, .box [Ti 0, Ti 0, Ti 0]), (24, .box [Ti f2.1, Ti f2.2.1, Ti f2.2.2]), (80000, .pbox (σ 80000) [.sl (y3.2.1.map c5), Ti y3.2.2.1, .v (.int .u64 y3.2.2.2)])]⟩) rfl rfl (X_of_Y1 rfl (Y1_call (s_spec_foAct hy4) cf_spec_foAct rfl (by kernel_rfl))) (by kernel_rfl) rfl (hE_cons (by kernel_rfl) (hE_cons (by kernel_rfl) (hE_cons (by kernel_rfl) (hE_cons (by kernel_rfl) hE_nil)))) ?_
    exact step_nil
   refine tab_row [5] (by kernel_rfl) (by kernel_rfl) ?_ ?_
   ·refine step_cons (s2 := ⟨.pt 80000 0 :: .bot :: .bot :: .pt 24 0 :: .pt 32 0 :: .pt 40 0 :: .ag [Ti f2.1, Ti f2.2.1, Ti f2.2.2] :: .pt 80000 0 :: .ag [Ti y3.1.1, Ti y3.1.2.1, Ti y3.1.2.2.1, Ti y3.1.2.2.2] :: .ag [Ti y4.1, Ti y4.2.1, Ti y4.2.2] :: bt 5 [], [(40, .box [Ti y4.1, Ti y4.2.1, Ti y4.2.2]), (32, .box [Ti 0, Ti 0, Ti 0]), (24, .box [Ti f2.1, Ti f2.2.1, Ti f2.2.2]), (80000, .pbox (σ 80000) [.sl (y3.2.1.map c5), Ti y3.2.2.1, .v (.int .u64 y3.2.2.2)])]⟩) rfl rfl (E_store (id := 40) (off := 0) (cs := [Ti 0, Ti 0, Ti 0]) (vc := [Ti y4.1, Ti y4.2.1, Ti y4.2.2]) [Ti y4.1, Ti y4.2.1, Ti y4.2.2] rfl rfl (by kernel_rfl) (by kernel_rfl) (by kernel_rfl) sz25 (Nat.le_of_ble_eq_true rfl) (by kernel_rfl)) (by kernel_rfl) rfl (hE_cons (by kernel_rfl) (hE_cons (by kernel_rfl) (hE_cons (by kernel_rfl) (hE_cons (by kernel_rfl) hE_nil)))) ?_
    exact step_nil
   refine tab_last (by kernel_rfl) ?_ tab_nil
   kernel_rfl
  refine V_seq ?_
  obtain ⟨y5, hy5, h⟩ := of_bind h
  refine V_sreg (mb 15 4152) [40, 32, 24, 80000] (s1 := ⟨bt 3 (.pt 24 0 :: .pt 32 0 :: .pt 40 0 :: bt 6 (Bo (!y5) :: .bot :: .bot :: [])), [(40, .box [Ti y4.1, Ti y4.2.1, Ti y4.2.2]), (32, .box [Ti 0, Ti 0, Ti 0]), (24, .box [Ti f2.1, Ti f2.2.1, Ti f2.2.2]), (80000, .pbox (σ 80000) [.sl (y3.2.1.map c5), Ti y3.2.2.1, .v (.int .u64 y3.2.2.2)])]⟩) ?_ ?_
  ·refine XR 1 ?_
   refine XC (s_spec_foGood hy5) cf_spec_foGood rfl rfl rfl ?_
   exact XE
  refine V_cond rfl (fun hc6 => ?_) (fun hc6 => ?_)
  ·have h := of_true h hc6
   refine V_e (mb 15 16) [32, 80000] (s1 := ⟨bt 4 (.pt 32 0 :: bt 10 []), [(32, .box [Ti f2.1, Ti f2.2.1, Ti f2.2.2]), (80000, .pbox (σ 80000) [.sl (y3.2.1.map c5), Ti y3.2.2.1, .v (.int .u64 y3.2.2.2)])]⟩) ?_
   refine V_ret ?_
   obtain rfl := some_inj h
   show PostR _ _ _ _ _ _
   exact ⟨⟨.inr rfl, rfl, rfl, rfl⟩, ⟨rfl, trivial⟩⟩
  ·have h := of_false h hc6
   refine V_skip ?_
   show V _ _ _ _
   refine V_e (mb 15 16) [32, 80000] (s1 := ⟨bt 4 (.pt 32 0 :: bt 10 []), [(32, .box [Ti y4.1, Ti y4.2.1, Ti y4.2.2]), (80000, .pbox (σ 80000) [.sl (y3.2.1.map c5), Ti y3.2.2.1, .v (.int .u64 y3.2.2.2)])]⟩) ?_
   refine V_ret ?_
   obtain rfl := some_inj h
   show PostR _ _ _ _ _ _
   exact ⟨⟨.inr rfl, rfl, rfl, rfl⟩, ⟨rfl, trivial⟩⟩
theorem cf_spec_l1Cur_definite : ∀ args w, (callFunc 212 args).run Tryz.prog w = .ok (.enter 212 args) w := run_callFunc Tryz.func212 (by kernel_rfl) (by kernel_rfl)
theorem s_spec_l1Cur_definite {c1 : ((List Int) × Int × Int)} {r : (((Int × Int × Int)) × (((List Int) × Int × Int)))} (h : r_spec_l1Cur_definite c1 = some r) : CallR Tryz.prog 212 [.pt 80000 0] [(80000, .box [.sl (c1.1.map c5), Ti c1.2.1, .v (.int .u64 c1.2.2)])] (.ag [Ti r.1.1, Ti r.1.2.1, Ti r.1.2.2]) [] [(80000, .box [.sl (r.2.1.map c5), Ti r.2.2.1, .v (.int .u64 r.2.2.2)])] := by
  refine CallR_of_text (rs := [.w 2 3]) (vs := [.cell 2 25]) Tryz.func212 rfl rfl (.cons ⟨rfl, wd25⟩ FitsL.nil) (by decide) 52 rfl rfl fun σ => ?_
  unfold r_spec_l1Cur_definite at h
  show V _ _ ⟨.pt 80000 0 :: bt 51 [], [(80000, .pbox (σ 80000) [.sl (c1.1.map c5), Ti c1.2.1, .v (.int .u64 c1.2.2)])]⟩ _
  refine V_e (mb 52 5) [16, 80000] (s1 := ⟨.pt 80000 0 :: .bot :: .pt 16 0 :: bt 49 [], [(16, .box [Ti 0, Ti 0, Ti 0]), (80000, .pbox (σ 80000) [.sl (c1.1.map c5), Ti c1.2.1, .v (.int .u64 c1.2.2)])]⟩) ?_
  refine V_seq ?_
  obtain ⟨y2, hy2, h⟩ := of_bind h
  refine V_sreg (mb 52 69) [16, 80000] (s1 := ⟨.pt 80000 0 :: .bot :: .pt 16 0 :: bt 3 (I y2.1 :: bt 45 []), [(16, .box [Ti 0, Ti 0, Ti 0]), (80000, .pbox (σ 80000) [.sl (y2.2.1.map c5), Ti y2.2.2.1, .v (.int .u64 y2.2.2.2)])]⟩) ?_ ?_
  ·refine XR 1 ?_
   refine XL_cons rfl (X_callR (E' := [(16, .box [Ti 0, Ti 0, Ti 0]), (80000, .pbox (σ 80000) [.sl (y2.2.1.map c5), Ti y2.2.2.1, .v (.int .u64 y2.2.2.2)])]) [(80000, 80000)] 6 (s_spec_l1Cur_pick hy2) cf_spec_l1Cur_pick rfl rfl (by kernel_rfl) rfl (mE_cons (by kernel_rfl) mE_nil) rfl (by kernel_rfl) rfl rfl (by kernel_rfl)) ?_
   exact XE
  refine V_block ?_
  refine V_e (mb 52 197) [16, 80000] (s1 := ⟨.pt 80000 0 :: .bot :: .pt 16 0 :: bt 3 (I y2.1 :: Bo (eqI y2.1 0) :: bt 44 []), [(16, .box [Ti 0, Ti 0, Ti 0]), (80000, .pbox (σ 80000) [.sl (y2.2.1.map c5), Ti y2.2.2.1, .v (.int .u64 y2.2.2.2)])]⟩) ?_
  refine V_cond rfl (fun hc3 => ?_) (fun hc3 => ?_)
  ·have h := of_true h hc3
   obtain ⟨y4, hy4, h⟩ := of_bind h
   refine V_sreg (mb 52 4) [16, 80000] (s1 := ⟨.bot :: .bot :: .pt 16 0 :: bt 49 [], [(16, .box [Ti y4.1.1, Ti y4.1.2.1, Ti y4.1.2.2]), (80000, .pbox (σ 80000) [.sl (y4.2.1.map c5), Ti y4.2.2.1, .v (.int .u64 y4.2.2.2)])]⟩) ?_ ?_
   ·refine XR 1 ?_
    refine XL_cons rfl (X_callR (E' := [(16, .box [Ti 0, Ti 0, Ti 0]), (80000, .pbox (σ 80000) [.sl (y4.2.1.map c5), Ti y4.2.2.1, .v (.int .u64 y4.2.2.2)])]) [(80000, 80000)] 10 (s_spec_l1Cur_form hy4) cf_spec_l1Cur_form rfl rfl (by kernel_rfl) rfl (mE_cons (by kernel_rfl) mE_nil) rfl (by kernel_rfl) rfl rfl (by kernel_rfl)) ?_
    exact XE
   refine V_ret ?_
   obtain rfl := some_inj h
   show PostR _ _ _ _ _ _
   exact ⟨⟨.inr rfl, rfl, rfl, rfl⟩, ⟨rfl, trivial⟩⟩
  ·have h := of_false h hc3
   refine V_e (mb 52 2117) [16, 80000] (s1 := ⟨.pt 80000 0 :: .bot :: .pt 16 0 :: bt 3 (I y2.1 :: bt 4 (Bo (eqI y2.1 1) :: bt 40 [])), [(16, .box [Ti 0, Ti 0, Ti 0]), (80000, .pbox (σ 80000) [.sl (y2.2.1.map c5), Ti y2.2.2.1, .v (.int .u64 y2.2.2.2)])]⟩) ?_
   refine V_cond rfl (fun hc5 => ?_) (fun hc5 => ?_)
   ·have h := of_true h hc5
    obtain ⟨y6, hy6, h⟩ := of_bind h
    obtain ⟨y7, hy7, h⟩ := of_bind h
    refine V_sreg (mb 52 13) [24, 16, 80000] (s1 := ⟨.pt 80000 0 :: .bot :: .pt 16 0 :: .pt 24 0 :: bt 48 [], [(24, .box [Ti y7.1.1, Ti y7.1.2.1, Ti y7.1.2.2]), (16, .box [Ti 0, Ti 0, Ti 0]), (80000, .pbox (σ 80000) [.sl (y7.2.1.map c5), Ti y7.2.2.1, .v (.int .u64 y7.2.2.2)])]⟩) ?_ ?_
    ·refine XR 2 ?_
     refine XL_cons rfl (X_callR (E' := [(16, .box [Ti 0, Ti 0, Ti 0]), (80000, .pbox (σ 80000) [.sl (y6.2.1.map c5), Ti y6.2.2.1, .v (.int .u64 y6.2.2.2)])]) [(80000, 80000)] 15 (s_spec_l1Cur_goodDisc hy6) cf_spec_l1Cur_goodDisc rfl rfl (by kernel_rfl) rfl (mE_cons (by kernel_rfl) mE_nil) rfl (by kernel_rfl) rfl rfl (by kernel_rfl)) ?_
     refine XL_cons rfl (X_callR (E' := [(16, .box [Ti 0, Ti 0, Ti 0]), (80000, .pbox (σ 80000) [.sl (y7.2.1.map c5), Ti y7.2.2.1, .v (.int .u64 y7.2.2.2)])]) [(80000, 80000)] 16 (s_spec_l1Cur_reduced hy7) cf_spec_l1Cur_reduced rfl rfl (by kernel_rfl) rfl (mE_cons (by kernel_rfl) mE_nil) rfl (by kernel_rfl) rfl rfl (by kernel_rfl)) ?_
     exact XE
    obtain ⟨y8, hy8, h⟩ := of_bind h
    obtain ⟨k9, hk9, h⟩ := of_sI h
    refine V_sreg (mb 52 29) [24, 16, 80000] (s1 := ⟨.pt 80000 0 :: .bot :: .pt 16 0 :: .pt 24 0 :: I k9 :: bt 47 [], [(24, .box [Ti y7.1.1, Ti y7.1.2.1, Ti y7.1.2.2]), (16, .box [Ti 0, Ti 0, Ti 0]), (80000, .pbox (σ 80000) [.sl (y8.2.1.map c5), Ti y8.2.2.1, .v (.int .u64 y8.2.2.2)])]⟩) ?_ ?_
    ·refine XR 1 ?_
     refine XL_cons rfl (X_callR (E' := [(24, .box [Ti y7.1.1, Ti y7.1.2.1, Ti y7.1.2.2]), (16, .box [Ti 0, Ti 0, Ti 0]), (80000, .pbox (σ 80000) [.sl (y8.2.1.map c5), Ti y8.2.2.1, .v (.int .u64 y8.2.2.2)])]) [(80000, 80000)] 18 (s_spec_l1Cur_pick hy8) cf_spec_l1Cur_pick rfl rfl (by kernel_rfl) rfl (mE_cons (by kernel_rfl) mE_nil) rfl (by kernel_rfl) rfl rfl (by kernel_rfl)) ?_
     refine XR 2 ?_
     refine XL_nil ?_
     subst hk9
     kernel_rfl
    obtain ⟨y10, hy10, h⟩ := of_bind h
    refine V_sreg (mb 52 4) [16, 80000] (s1 := ⟨.bot :: .bot :: .pt 16 0 :: bt 49 [], [(16, .box [Ti y10.1.1, Ti y10.1.2.1, Ti y10.1.2.2]), (80000, .pbox (σ 80000) [.sl (y10.2.1.map c5), Ti y10.2.2.1, .v (.int .u64 y10.2.2.2)])]⟩) ?_ ?_
    ·refine XR 13 ?_
     refine L0 rfl rfl (Y0_build (cs := [Ti (w64 (k9 * y7.1.1)), Ti (w64 (k9 * y7.1.2.1)), Ti (w64 (k9 * y7.1.2.2))]) pl25 bt25 rfl rfl (by kernel_rfl)) ?_
     refine XL_cons rfl (X_callR (E' := [(24, .box [Ti y7.1.1, Ti y7.1.2.1, Ti y7.1.2.2]), (16, .box [Ti 0, Ti 0, Ti 0]), (80000, .pbox (σ 80000) [.sl (y10.2.1.map c5), Ti y10.2.2.1, .v (.int .u64 y10.2.2.2)])]) [(80000, 80000)] 34 (s_spec_l1Cur_moved hy10) cf_spec_l1Cur_moved rfl rfl (by kernel_rfl) rfl (mE_cons (by kernel_rfl) mE_nil) rfl (by kernel_rfl) rfl rfl (by kernel_rfl)) ?_
     exact XE
    refine V_ret ?_
    obtain rfl := some_inj h
    show PostR _ _ _ _ _ _
    exact ⟨⟨.inr rfl, rfl, rfl, rfl⟩, ⟨rfl, trivial⟩⟩
   ·have h := of_false h hc5
    refine V_e (mb 52 34359738373) [16, 80000] (s1 := ⟨.pt 80000 0 :: .bot :: .pt 16 0 :: bt 32 (Bo (eqI y2.1 2) :: bt 16 []), [(16, .box [Ti 0, Ti 0, Ti 0]), (80000, .pbox (σ 80000) [.sl (y2.2.1.map c5), Ti y2.2.2.1, .v (.int .u64 y2.2.2.2)])]⟩) ?_
    refine V_cond rfl (fun hc11 => ?_) (fun hc11 => ?_)
    ·have h := of_true h hc11
     obtain ⟨y12, hy12, h⟩ := of_bind h
     obtain ⟨y13, hy13, h⟩ := of_bind h
     obtain ⟨y14, hy14, h⟩ := of_bind h
     obtain ⟨f15, hf15, h⟩ := of_sI h
     obtain ⟨f16, hf16, h⟩ := of_sI h
     refine V_sreg (mb 52 4) [16, 80000] (s1 := ⟨.bot :: .bot :: .pt 16 0 :: bt 49 [], [(16, .box [Ti f15, Ti y13.1, Ti f16]), (80000, .pbox (σ 80000) [.sl (y14.2.1.map c5), Ti y14.2.2.1, .v (.int .u64 y14.2.2.2)])]⟩) ?_ ?_
     ·refine XR 1 ?_
      refine XL_cons rfl (X_callR (E' := [(16, .box [Ti 0, Ti 0, Ti 0]), (80000, .pbox (σ 80000) [.sl (y12.2.1.map c5), Ti y12.2.2.1, .v (.int .u64 y12.2.2.2)])]) [(80000, 80000)] 38 (s_spec_l1Cur_pick hy12) cf_spec_l1Cur_pick rfl rfl (by kernel_rfl) rfl (mE_cons (by kernel_rfl) mE_nil) rfl (by kernel_rfl) rfl rfl (by kernel_rfl)) ?_
      refine XR 2 ?_
      refine XL_cons rfl (X_callR (E' := [(16, .box [Ti 0, Ti 0, Ti 0]), (80000, .pbox (σ 80000) [.sl (y13.2.1.map c5), Ti y13.2.2.1, .v (.int .u64 y13.2.2.2)])]) [(80000, 80000)] 41 (s_spec_l1Cur_pick hy13) cf_spec_l1Cur_pick rfl rfl (by kernel_rfl) rfl (mE_cons (by kernel_rfl) mE_nil) rfl (by kernel_rfl) rfl rfl (by kernel_rfl)) ?_
      refine XR 1 ?_
      refine XL_cons rfl (X_callR (E' := [(16, .box [Ti 0, Ti 0, Ti 0]), (80000, .pbox (σ 80000) [.sl (y14.2.1.map c5), Ti y14.2.2.1, .v (.int .u64 y14.2.2.2)])]) [(80000, 80000)] 43 (s_spec_l1Cur_pick hy14) cf_spec_l1Cur_pick rfl rfl (by kernel_rfl) rfl (mE_cons (by kernel_rfl) mE_nil) rfl (by kernel_rfl) rfl rfl (by kernel_rfl)) ?_
      refine XR 1 ?_
      refine L0 rfl rfl (Y0_build (cs := [Ti (w64 (1 + y12.1)), Ti y13.1, Ti (w64 (250000 + y14.1))]) pl25 bt25 rfl rfl (by kernel_rfl)) ?_
      refine XR 1 ?_
      refine XL_nil ?_
      subst hf15 hf16
      kernel_rfl
     refine V_ret ?_
     obtain rfl := some_inj h
     show PostR _ _ _ _ _ _
     exact ⟨⟨.inr rfl, rfl, rfl, rfl⟩, ⟨rfl, trivial⟩⟩
    ·have h := of_false h hc11
     refine V_skip ?_
     show V _ _ _ _
     obtain ⟨y17, hy17, h⟩ := of_bind h
     obtain ⟨y18, hy18, h⟩ := of_bind h
     obtain ⟨y19, hy19, h⟩ := of_bind h
     refine V_sreg (mb 52 4) [16, 80000] (s1 := ⟨.bot :: .bot :: .pt 16 0 :: bt 49 [], [(16, .box [Ti y19.1.1, Ti y19.1.2.1, Ti y19.1.2.2]), (80000, .pbox (σ 80000) [.sl (y19.2.1.map c5), Ti y19.2.2.1, .v (.int .u64 y19.2.2.2)])]⟩) ?_ ?_
     ·refine XR 3 ?_
      refine XL_cons rfl (X_callR (E' := [(16, .box [Ti 0, Ti 0, Ti 0]), (80000, .pbox (σ 80000) [.sl (y17.2.1.map c5), Ti y17.2.2.1, .v (.int .u64 y17.2.2.2)])]) [(80000, 80000)] 49 (s_spec_l1Cur_goodDisc hy17) cf_spec_l1Cur_goodDisc rfl rfl (by kernel_rfl) rfl (mE_cons (by kernel_rfl) mE_nil) rfl (by kernel_rfl) rfl rfl (by kernel_rfl)) ?_
      refine XL_cons rfl (X_callR (E' := [(16, .box [Ti 0, Ti 0, Ti 0]), (80000, .pbox (σ 80000) [.sl (y18.2.1.map c5), Ti y18.2.2.1, .v (.int .u64 y18.2.2.2)])]) [(80000, 80000)] 50 (s_spec_l1Cur_reduced hy18) cf_spec_l1Cur_reduced rfl rfl (by kernel_rfl) rfl (mE_cons (by kernel_rfl) mE_nil) rfl (by kernel_rfl) rfl rfl (by kernel_rfl)) ?_
      refine XL_cons rfl (X_callR (E' := [(16, .box [Ti 0, Ti 0, Ti 0]), (80000, .pbox (σ 80000) [.sl (y19.2.1.map c5), Ti y19.2.2.1, .v (.int .u64 y19.2.2.2)])]) [(80000, 80000)] 51 (s_spec_l1Cur_moved hy19) cf_spec_l1Cur_moved rfl rfl (by kernel_rfl) rfl (mE_cons (by kernel_rfl) mE_nil) rfl (by kernel_rfl) rfl rfl (by kernel_rfl)) ?_
      exact XE
     refine V_ret ?_
     obtain rfl := some_inj h
     show PostR _ _ _ _ _ _
     exact ⟨⟨.inr rfl, rfl, rfl, rfl⟩, ⟨rfl, trivial⟩⟩
theorem cf_spec_l1Cur_classForm : ∀ args w, (callFunc 147 args).run Tryz.prog w = .ok (.enter 147 args) w := run_callFunc Tryz.func147 (by kernel_rfl) (by kernel_rfl)
theorem s_spec_l1Cur_classForm {c1 : ((List Int) × Int × Int)} {r : (((Int × Int × Int)) × (((List Int) × Int × Int)))} (h : r_spec_l1Cur_classForm c1 = some r) : CallR Tryz.prog 147 [.pt 80000 0] [(80000, .box [.sl (c1.1.map c5), Ti c1.2.1, .v (.int .u64 c1.2.2)])] (.ag [Ti r.1.1, Ti r.1.2.1, Ti r.1.2.2]) [] [(80000, .box [.sl (r.2.1.map c5), Ti r.2.2.1, .v (.int .u64 r.2.2.2)])] := by
  refine CallR_of_text (rs := [.w 2 3]) (vs := [.cell 2 25]) Tryz.func147 rfl rfl (.cons ⟨rfl, wd25⟩ FitsL.nil) (by decide) 18 rfl rfl fun σ => ?_
  unfold r_spec_l1Cur_classForm at h
  show V _ _ ⟨.pt 80000 0 :: bt 17 [], [(80000, .pbox (σ 80000) [.sl (c1.1.map c5), Ti c1.2.1, .v (.int .u64 c1.2.2)])]⟩ _
  refine V_e (mb 18 5) [16, 80000] (s1 := ⟨.pt 80000 0 :: .bot :: .pt 16 0 :: bt 15 [], [(16, .box [Ti 0, Ti 0, Ti 0]), (80000, .pbox (σ 80000) [.sl (c1.1.map c5), Ti c1.2.1, .v (.int .u64 c1.2.2)])]⟩) ?_
  refine V_seq ?_
  obtain ⟨y2, hy2, h⟩ := of_bind h
  refine V_sreg (mb 18 37) [16, 80000] (s1 := ⟨.pt 80000 0 :: .bot :: .pt 16 0 :: .bot :: .bot :: Bo y2.1 :: bt 12 [], [(16, .box [Ti 0, Ti 0, Ti 0]), (80000, .pbox (σ 80000) [.sl (y2.2.1.map c5), Ti y2.2.2.1, .v (.int .u64 y2.2.2.2)])]⟩) ?_ ?_
  ·refine XR 1 ?_
   refine XL_cons rfl (X_callR (E' := [(16, .box [Ti 0, Ti 0, Ti 0]), (80000, .pbox (σ 80000) [.sl (y2.2.1.map c5), Ti y2.2.2.1, .v (.int .u64 y2.2.2.2)])]) [(80000, 80000)] 5 (s_spec_l1Cur_one hy2) cf_spec_l1Cur_one rfl rfl (by kernel_rfl) rfl (mE_cons (by kernel_rfl) mE_nil) rfl (by kernel_rfl) rfl rfl (by kernel_rfl)) ?_
   exact XE
  refine V_cond rfl (fun hc3 => ?_) (fun hc3 => ?_)
  ·have h := of_true h hc3
   obtain ⟨y4, hy4, h⟩ := of_bind h
   refine V_sreg (mb 18 4) [16, 80000] (s1 := ⟨.bot :: .bot :: .pt 16 0 :: bt 15 [], [(16, .box [Ti y4.1.1, Ti y4.1.2.1, Ti y4.1.2.2]), (80000, .pbox (σ 80000) [.sl (y4.2.1.map c5), Ti y4.2.2.1, .v (.int .u64 y4.2.2.2)])]⟩) ?_ ?_
   ·refine XR 1 ?_
    refine XL_cons rfl (X_callR (E' := [(16, .box [Ti 0, Ti 0, Ti 0]), (80000, .pbox (σ 80000) [.sl (y4.2.1.map c5), Ti y4.2.2.1, .v (.int .u64 y4.2.2.2)])]) [(80000, 80000)] 7 (s_spec_l1Cur_definite hy4) cf_spec_l1Cur_definite rfl rfl (by kernel_rfl) rfl (mE_cons (by kernel_rfl) mE_nil) rfl (by kernel_rfl) rfl rfl (by kernel_rfl)) ?_
    exact XE
   refine V_ret ?_
   obtain rfl := some_inj h
   show PostR _ _ _ _ _ _
   exact ⟨⟨.inr rfl, rfl, rfl, rfl⟩, ⟨rfl, trivial⟩⟩
  ·have h := of_false h hc3
   refine V_skip ?_
   show V _ _ _ _
   obtain ⟨y5, hy5, h⟩ := of_bind h
   obtain ⟨y6, hy6, h⟩ := of_bind h
   refine V_sreg (mb 18 13) [24, 16, 80000] (s1 := ⟨.pt 80000 0 :: .bot :: .pt 16 0 :: .pt 24 0 :: bt 14 [], [(24, .box [Ti y6.1.1, Ti y6.1.2.1, Ti y6.1.2.2]), (16, .box [Ti 0, Ti 0, Ti 0]), (80000, .pbox (σ 80000) [.sl (y6.2.1.map c5), Ti y6.2.2.1, .v (.int .u64 y6.2.2.2)])]⟩) ?_ ?_
   ·refine XR 2 ?_
    refine XL_cons rfl (X_callR (E' := [(16, .box [Ti 0, Ti 0, Ti 0]), (80000, .pbox (σ 80000) [.sl (y5.2.1.map c5), Ti y5.2.2.1, .v (.int .u64 y5.2.2.2)])]) [(80000, 80000)] 10 (s_spec_l1Cur_goodDisc hy5) cf_spec_l1Cur_goodDisc rfl rfl (by kernel_rfl) rfl (mE_cons (by kernel_rfl) mE_nil) rfl (by kernel_rfl) rfl rfl (by kernel_rfl)) ?_
    refine XL_cons rfl (X_callR (E' := [(16, .box [Ti 0, Ti 0, Ti 0]), (80000, .pbox (σ 80000) [.sl (y6.2.1.map c5), Ti y6.2.2.1, .v (.int .u64 y6.2.2.2)])]) [(80000, 80000)] 11 (s_spec_l1Cur_reduced hy6) cf_spec_l1Cur_reduced rfl rfl (by kernel_rfl) rfl (mE_cons (by kernel_rfl) mE_nil) rfl (by kernel_rfl) rfl rfl (by kernel_rfl)) ?_
    exact XE
   refine V_seq ?_
   obtain ⟨y7, hy7, h⟩ := of_bind h
   refine V_sreg (mb 18 8205) [24, 16, 80000] (s1 := ⟨.pt 80000 0 :: .bot :: .pt 16 0 :: .pt 24 0 :: bt 9 (Bo y7.1 :: bt 4 []), [(24, .box [Ti y6.1.1, Ti y6.1.2.1, Ti y6.1.2.2]), (16, .box [Ti 0, Ti 0, Ti 0]), (80000, .pbox (σ 80000) [.sl (y7.2.1.map c5), Ti y7.2.2.1, .v (.int .u64 y7.2.2.2)])]⟩) ?_ ?_
   ·refine XR 1 ?_
    refine XL_cons rfl (X_callR (E' := [(24, .box [Ti y6.1.1, Ti y6.1.2.1, Ti y6.1.2.2]), (16, .box [Ti 0, Ti 0, Ti 0]), (80000, .pbox (σ 80000) [.sl (y7.2.1.map c5), Ti y7.2.2.1, .v (.int .u64 y7.2.2.2)])]) [(80000, 80000)] 13 (s_spec_l1Cur_one hy7) cf_spec_l1Cur_one rfl rfl (by kernel_rfl) rfl (mE_cons (by kernel_rfl) mE_nil) rfl (by kernel_rfl) rfl rfl (by kernel_rfl)) ?_
    exact XE
   refine V_cond rfl (fun hc8 => ?_) (fun hc8 => ?_)
   ·have h := of_true h hc8
    obtain ⟨y9, hy9, h⟩ := of_bind h
    refine V_sreg (mb 18 4) [16, 80000] (s1 := ⟨.bot :: .bot :: .pt 16 0 :: bt 15 [], [(16, .box [Ti y9.1.1, Ti y9.1.2.1, Ti y9.1.2.2]), (80000, .pbox (σ 80000) [.sl (y9.2.1.map c5), Ti y9.2.2.1, .v (.int .u64 y9.2.2.2)])]⟩) ?_ ?_
    ·refine XR 2 ?_
     refine XL_cons rfl (X_callR (E' := [(24, .box [Ti y6.1.1, Ti y6.1.2.1, Ti y6.1.2.2]), (16, .box [Ti 0, Ti 0, Ti 0]), (80000, .pbox (σ 80000) [.sl (y9.2.1.map c5), Ti y9.2.2.1, .v (.int .u64 y9.2.2.2)])]) [(80000, 80000)] 16 (s_spec_l1Cur_moved hy9) cf_spec_l1Cur_moved rfl rfl (by kernel_rfl) rfl (mE_cons (by kernel_rfl) mE_nil) rfl (by kernel_rfl) rfl rfl (by kernel_rfl)) ?_
     exact XE
    refine V_ret ?_
    obtain rfl := some_inj h
    show PostR _ _ _ _ _ _
    exact ⟨⟨.inr rfl, rfl, rfl, rfl⟩, ⟨rfl, trivial⟩⟩
   ·have h := of_false h hc8
    refine V_skip ?_
    show V _ _ _ _
    refine V_e (mb 18 4) [16, 80000] (s1 := ⟨.bot :: .bot :: .pt 16 0 :: bt 15 [], [(16, .box [Ti y6.1.1, Ti y6.1.2.1, Ti y6.1.2.2]), (80000, .pbox (σ 80000) [.sl (y7.2.1.map c5), Ti y7.2.2.1, .v (.int .u64 y7.2.2.2)])]⟩) ?_
    refine V_ret ?_
    obtain rfl := some_inj h
    show PostR _ _ _ _ _ _
    exact ⟨⟨.inr rfl, rfl, rfl, rfl⟩, ⟨rfl, trivial⟩⟩
theorem cf_spec_l1Cur_index : ∀ args w, (callFunc 85 args).run Tryz.prog w = .ok (.enter 85 args) w := run_callFunc Tryz.func85 (by kernel_rfl) (by kernel_rfl)
theorem s_spec_l1Cur_index {c1 : ((List Int) × Int × Int)} {r : (Int × (((List Int) × Int × Int)))} (h : r_spec_l1Cur_index c1 = some r) : CallR Tryz.prog 85 [.pt 80000 0] [(80000, .box [.sl (c1.1.map c5), Ti c1.2.1, .v (.int .u64 c1.2.2)])] (I r.1) [] [(80000, .box [.sl (r.2.1.map c5), Ti r.2.2.1, .v (.int .u64 r.2.2.2)])] := by
  refine CallR_of_text (rs := [.t 2]) (vs := [.tmp 2]) Tryz.func85 rfl rfl (.cons rfl FitsL.nil) (by decide) 6 rfl rfl fun σ => ?_
  unfold r_spec_l1Cur_index at h
  show V _ _ ⟨.pt 80000 0 :: bt 5 [], [(80000, .pbox (σ 80000) [.sl (c1.1.map c5), Ti c1.2.1, .v (.int .u64 c1.2.2)])]⟩ _
  refine V_e (mb 6 1) [80000] (s1 := ⟨.pt 80000 0 :: bt 5 [], [(80000, .pbox (σ 80000) [.sl (c1.1.map c5), Ti c1.2.1, .v (.int .u64 c1.2.2)])]⟩) ?_
  obtain ⟨y2, hy2, h⟩ := of_bind h
  refine V_sreg (mb 6 4) [80000] (s1 := ⟨.bot :: .bot :: I y2.1 :: bt 3 [], [(80000, .pbox (σ 80000) [.sl (y2.2.1.map c5), Ti y2.2.2.1, .v (.int .u64 y2.2.2.2)])]⟩) ?_ ?_
  ·refine XR 1 ?_
   refine L1 rfl rfl (Y1_bslice (z := zv3) (els := [2, 2, 3, 3, 5, 5, 7, 11, 13, 17, 23, 41, 43, 47, 4, 1, 0, -2].map c3) Tryz.underlying51 iz3 rfl (by decide) rfl (by kernel_rfl) rfl (by simp [c3]) (by decide) (by decide)) ?_
   refine XL_freeze 32 (T := 3) (sz := 1) (els := ([2, 2, 3, 3, 5, 5, 7, 11, 13, 17, 23, 41, 43, 47, 4, 1, 0, -2]).map c3) (s1 := ⟨.pt 80000 0 :: .bot :: .bot :: .pt 80000 0 :: .c (.sl (([2, 2, 3, 3, 5, 5, 7, 11, 13, 17, 23, 41, 43, 47, 4, 1, 0, -2]).map c3)) :: .bot :: [], [(80000, .pbox (σ 80000) [.sl (c1.1.map c5), Ti c1.2.1, .v (.int .u64 c1.2.2)])]⟩) (by kernel_rfl) (by kernel_rfl) ?_
   refine XL_cons rfl (X_callR (E' := [(80000, .pbox (σ 80000) [.sl (y2.2.1.map c5), Ti y2.2.2.1, .v (.int .u64 y2.2.2.2)])]) [(80000, 80000)] 5 (s_spec_l1Cur_among hy2) cf_spec_l1Cur_among rfl rfl (by kernel_rfl) rfl (mE_cons (by kernel_rfl) mE_nil) rfl (by kernel_rfl) rfl rfl (by kernel_rfl)) ?_
   exact XE
  refine V_ret ?_
  obtain rfl := some_inj h
  show PostR _ _ _ _ _ _
  exact ⟨⟨.inr rfl, rfl, rfl, rfl⟩, ⟨rfl, trivial⟩⟩
theorem cf_spec_DrawSublatticeForms : ∀ args w, (callFunc 99 args).run Tryz.prog w = .ok (.enter 99 args) w := run_callFunc Tryz.func99 (by kernel_rfl) (by kernel_rfl)
theorem s_spec_DrawSublatticeForms {code1 : List Int} {r : (((Int × Int × Int)) × Int)} (h : r_spec_DrawSublatticeForms code1 = some r) : CallS Tryz.prog 99 [.c (.sl (code1.map c5))] (.tc (.ag [Ti r.1.1, Ti r.1.2.1, Ti r.1.2.2]) (.tc (I r.2) .tn)) [] := by
  refine CallS_of_text (rs := [.w 2 3, .t 3]) (vs := [.cell 2 25, .tmp 3]) Tryz.func99 rfl rfl (.cons ⟨rfl, wd25⟩ (.cons rfl FitsL.nil)) (by decide) 12 rfl ?_
  unfold r_spec_DrawSublatticeForms at h
  show V _ _ ⟨.c (.sl (code1.map c5)) :: bt 11 [], []⟩ _
  refine V_e (mb 12 5) [16] (s1 := ⟨.c (.sl (code1.map c5)) :: .bot :: .pt 16 0 :: bt 9 [], [(16, .box [Ti 0, Ti 0, Ti 0])]⟩) ?_
  refine V_sreg (mb 12 20) [56, 16] (s1 := ⟨.bot :: .bot :: .pt 16 0 :: .bot :: .pt 56 0 :: bt 7 [], [(56, .box [.sl (code1.map c5), Ti 0, .v (.int .u64 0)]), (16, .box [Ti 0, Ti 0, Ti 0])]⟩) ?_ ?_
  ·refine XR 1 ?_
   refine L0 rfl rfl (Y0_build (cs := [.sl (code1.map c5), Ti 0, .v (.int .u64 0)]) pl83 bt83 rfl rfl (by kernel_rfl)) ?_
   exact XE
  obtain ⟨y2, hy2, h⟩ := of_bind h
  obtain ⟨y3, hy3, h⟩ := of_bind h
  refine V_sreg (mb 12 12) [16] (s1 := ⟨.bot :: .bot :: .pt 16 0 :: I y3.1 :: bt 8 [], [(16, .box [Ti y2.1.1, Ti y2.1.2.1, Ti y2.1.2.2])]⟩) ?_ ?_
  ·refine XR 1 ?_
   refine XL_cons rfl (X_callR (E' := [(56, .box [.sl (y2.2.1.map c5), Ti y2.2.2.1, .v (.int .u64 y2.2.2.2)]), (16, .box [Ti 0, Ti 0, Ti 0])]) [(80000, 56)] 9 (s_spec_l1Cur_classForm hy2) cf_spec_l1Cur_classForm rfl rfl (by kernel_rfl) rfl (mE_cons (by kernel_rfl) mE_nil) rfl (by kernel_rfl) rfl rfl (by kernel_rfl)) ?_
   refine XR 1 ?_
   refine XL_cons rfl (X_callR (E' := [(56, .box [.sl (y3.2.1.map c5), Ti y3.2.2.1, .v (.int .u64 y3.2.2.2)]), (16, .box [Ti 0, Ti 0, Ti 0])]) [(80000, 56)] 11 (s_spec_l1Cur_index hy3) cf_spec_l1Cur_index rfl rfl (by kernel_rfl) rfl (mE_cons (by kernel_rfl) mE_nil) rfl (by kernel_rfl) rfl rfl (by kernel_rfl)) ?_
   exact XE
  refine V_ret ?_
  obtain rfl := some_inj h
  show Post _ _ _ _ _
  exact ⟨.inr rfl, rfl, rfl, rfl⟩
theorem cf_spec_DrawSublatticeClasses : ∀ args w, (callFunc 30 args).run Tryz.prog w = .ok (.enter 30 args) w := run_callFunc Tryz.func30 (by kernel_rfl) (by kernel_rfl)
theorem s_spec_DrawSublatticeClasses {code1 : List Int} {r : (((Int × Int × Int)) × Int)} (h : r_spec_DrawSublatticeClasses code1 = some r) : CallS Tryz.prog 30 [.c (.sl (code1.map c5))] (.tc (.ag [Ti r.1.1, Ti r.1.2.1, Ti r.1.2.2]) (.tc (I r.2) .tn)) [] := by
  refine CallS_of_text (rs := [.w 2 3, .t 3]) (vs := [.cell 2 25, .tmp 3]) Tryz.func30 rfl rfl (.cons ⟨rfl, wd25⟩ (.cons rfl FitsL.nil)) (by decide) 8 rfl ?_
  unfold r_spec_DrawSublatticeClasses at h
  show V _ _ ⟨.c (.sl (code1.map c5)) :: bt 7 [], []⟩ _
  refine V_e (mb 8 5) [16] (s1 := ⟨.c (.sl (code1.map c5)) :: .bot :: .pt 16 0 :: bt 5 [], [(16, .box [Ti 0, Ti 0, Ti 0])]⟩) ?_
  obtain ⟨y2, hy2, h⟩ := of_bind h
  refine V_sreg (mb 8 12) [16] (s1 := ⟨.bot :: .bot :: .pt 16 0 :: I y2.2 :: bt 4 [], [(16, .box [Ti y2.1.1, Ti y2.1.2.1, Ti y2.1.2.2])]⟩) ?_ ?_
  ·refine XR 1 ?_
   refine XC (s_spec_DrawSublatticeForms hy2) cf_spec_DrawSublatticeForms rfl rfl rfl ?_
   exact XE
  refine V_ret ?_
  obtain rfl := some_inj h
  show Post _ _ _ _ _
  exact ⟨.inr rfl, rfl, rfl, rfl⟩
theorem cf_impl_areNumbers : ∀ args w, (callFunc 93 args).run Tryz.prog w = .ok (.enter 93 args) w := run_callFunc Tryz.func93 (by kernel_rfl) (by kernel_rfl)
theorem s_impl_areNumbers {list1 : List Int} {r : Bool} (h : r_impl_areNumbers list1 = some r) : CallS Tryz.prog 93 [.c (.sl (list1.map c3))] (Bo r) [] := by
  refine CallS_of_text (rs := [.t 2]) (vs := [.tmp 2]) Tryz.func93 rfl rfl (.cons rfl FitsL.nil) (by decide) 18 rfl ?_
  unfold r_impl_areNumbers at h
  show V _ _ ⟨.c (.sl (list1.map c3)) :: bt 17 [], []⟩ _
  refine V_e (mb 18 1) [] (s1 := ⟨.c (.sl (list1.map c3)) :: bt 17 [], []⟩) ?_
  refine V_seq ?_
  refine V_sreg (mb 18 224) [] (s1 := ⟨bt 5 (.c (.sl (list1.map c3)) :: I ((list1.length : Int)) :: I 0 :: bt 10 []), []⟩) ?_ ?_
  ·refine XR 1 ?_
   refine L0 rfl rfl (Y0_lenM (c := c3) (xs := list1) Tryz.underlying51 rfl (by kernel_rfl)) ?_
   exact XE
  obtain ⟨qo4, hLo4, hko4⟩ := of_bind h
  refine V_toS (q := qo4) (S := fun o4 => ⟨bt 18 [], []⟩) (mb 18 0) [] ?_ ?_
  ·refine V_block (V_loop (fun n s => ∃ (t2 : Int), s.keep (mb 18 224) [] = (⟨bt 5 (.c (.sl (list1.map c3)) :: I ((list1.length : Int)) :: I t2 :: bt 10 []), []⟩ : St) ∧ r_impl_areNumbers_L3 list1 n t2 = some qo4) FU ⟨_,  by rfl, hLo4⟩ ?_)
   clear hLo4
   rintro n s ⟨t2, hs, h⟩
   refine V_keep _ _ hs ?_
   clear hs
   cases n with
   | zero => cases h
   | succ n =>
    rw [r_impl_areNumbers_L3] at h
    refine V_e (mb 18 480) [] (s1 := ⟨bt 5 (.c (.sl (list1.map c3)) :: I ((list1.length : Int)) :: I t2 :: Bo (ltI t2 ((list1.length : Int))) :: bt 9 []), []⟩) ?_
    refine V_seq ?_
    refine V_cond rfl (fun hc5 => ?_) (fun hc5 => ?_)
    ·have h := of_true h hc5
     refine V_skip ?_
     show V _ _ _ _
     refine V_seq ?_
     refine V_block ?_
     obtain ⟨e6, he6, h⟩ := of_bind h
     refine V_sreg (mb 18 240) [] (s1 := ⟨bt 4 (I e6 :: .c (.sl (list1.map c3)) :: I ((list1.length : Int)) :: I t2 :: bt 10 []), []⟩) ?_ ?_
     ·refine L0 rfl rfl (Y0_idxM (c := c3) (xs := list1) (v := e6) (n := t2) Tryz.underlying51 sz3 rfl (by kernel_rfl) (by kernel_rfl) he6) ?_
      exact XE
     refine V_sreg (mb 18 65760) [] (s1 := ⟨bt 5 (.c (.sl (list1.map c3)) :: I ((list1.length : Int)) :: I t2 :: bt 8 (Bo (bif (ltI e6 (-1000000)) then true else (ltI 1000000 e6)) :: .bot :: [])), []⟩) ?_ ?_
     ·refine XR 3 ?_
      refine XL_split (ltI e6 (-1000000)) (fun hc7 => ?_) (fun hc7 => ?_)
      ·refine XL_skipF _ rfl rfl (by kernel_rfl) hc7 rfl ?_
       refine XL_skipF _ rfl rfl (by kernel_rfl) hc7 rfl ?_
       refine XL_cons rfl (X_of_Y0 rfl (Y0_pick1 (b := ltI e6 (-1000000)) (p := true) (q := ltI 1000000 e6) rfl (by kernel_rfl) hc7 (by kernel_rfl))) ?_
       exact XE
      ·refine XL_takeC _ rfl rfl (by kernel_rfl) hc7 (X_of_Y0 rfl (E_move (I e6) rfl (by kernel_rfl))) ?_
       refine XL_takeC _ rfl rfl (by kernel_rfl) hc7 (X_of_Y0 rfl (Y0_gtw (k := .i64) (a := e6) (b := 1000000) rfl (by kernel_rfl) (by kernel_rfl))) ?_
       refine XL_cons rfl (X_of_Y0 rfl (Y0_pick0 (b := ltI e6 (-1000000)) (p := true) (q := ltI 1000000 e6) rfl (by kernel_rfl) hc7 (by kernel_rfl))) ?_
       exact XE
     refine V_cond rfl (fun hc8 => ?_) (fun hc8 => ?_)
     ·have h := of_true h hc8
      refine V_e (mb 18 4) [] (s1 := ⟨.bot :: .bot :: Bo false :: bt 15 [], []⟩) ?_
      refine V_ret ?_
      obtain rfl := some_inj h
      have h := hko4
      obtain rfl := some_inj h
      show Post _ _ _ _ _
      exact ⟨.inr rfl, rfl, rfl, rfl⟩
     ·have h := of_false h hc8
      refine V_skip ?_
      show V _ _ _ _
      obtain ⟨t9, ht9, h⟩ := of_sI h
      refine V_reg (mb 18 224) [] (s1 := ⟨bt 5 (.c (.sl (list1.map c3)) :: I ((list1.length : Int)) :: I t9 :: bt 10 []), []⟩) ?_ ?_
      ·refine XR 2 ?_
       refine XL_nil ?_
       subst ht9
       kernel_rfl
      exact ⟨n, Nat.lt_succ_self n, _,  by rfl, h⟩
    ·have h := of_false h hc5
     refine V_exit ?_
     obtain rfl := some_inj h
     exact ⟨_, rfl, by rfl⟩
  rintro o4 rfl
  have h := hko4
  clear hko4
  show V _ _ _ _
  refine V_e (mb 18 4) [] (s1 := ⟨.bot :: .bot :: Bo true :: bt 15 [], []⟩) ?_
  refine V_ret ?_
  obtain rfl := some_inj h
  show Post _ _ _ _ _
  exact ⟨.inr rfl, rfl, rfl, rfl⟩
theorem cf_impl_IsForm : ∀ args w, (callFunc 79 args).run Tryz.prog w = .ok (.enter 79 args) w := run_callFunc Tryz.func79 (by kernel_rfl) (by kernel_rfl)
theorem s_impl_IsForm {f1 : (Int × Int × Int)} {r : Bool} (h : r_impl_IsForm f1 = some r) : CallS Tryz.prog 79 [.ag [Ti f1.1, Ti f1.2.1, Ti f1.2.2]] (Bo r) [] := by
  refine CallS_of_text (rs := [.t 2]) (vs := [.tmp 2]) Tryz.func79 rfl rfl (.cons rfl FitsL.nil) (by decide) 11 rfl ?_
  unfold r_impl_IsForm at h
  show V _ _ ⟨.ag [Ti f1.1, Ti f1.2.1, Ti f1.2.2] :: bt 10 [], []⟩ _
  refine V_e (mb 11 2) [8] (s1 := ⟨.bot :: .pt 8 0 :: bt 9 [], [(8, .box [Ti f1.1, Ti f1.2.1, Ti f1.2.2])]⟩) ?_
  obtain ⟨y2, hy2, h⟩ := of_bind h
  refine V_sreg (mb 11 4) [] (s1 := ⟨.bot :: .bot :: Bo y2 :: bt 8 [], []⟩) ?_ ?_
  ·refine XR 6 ?_
   refine L1 rfl rfl (Y1_bslice (z := zv3) (els := [f1.1, f1.2.1, f1.2.2].map c3) Tryz.underlying51 iz3 rfl (by decide) rfl (by kernel_rfl) rfl (by simp [c3]) (by decide) (by decide)) ?_
   refine L1 rfl rfl (Y1_callS (s_impl_areNumbers hy2) cf_impl_areNumbers rfl (by kernel_rfl) rfl rfl) ?_
   exact XE
  refine V_ret ?_
  obtain rfl := some_inj h
  show Post _ _ _ _ _
  exact ⟨.inr rfl, rfl, rfl, rfl⟩
theorem cf_impl_Form_disc : ∀ args w, (callFunc 76 args).run Tryz.prog w = .ok (.enter 76 args) w := run_callFunc Tryz.func76 (by kernel_rfl) (by kernel_rfl)
theorem s_impl_Form_disc {f1 : (Int × Int × Int)} {r : Int} (h : r_impl_Form_disc f1 = some r) : CallS Tryz.prog 76 [.ag [Ti f1.1, Ti f1.2.1, Ti f1.2.2]] (I r) [] := by
  refine CallS_of_text (rs := [.t 2]) (vs := [.tmp 2]) Tryz.func76 rfl rfl (.cons rfl FitsL.nil) (by decide) 15 rfl ?_
  unfold r_impl_Form_disc at h
  show V _ _ ⟨.ag [Ti f1.1, Ti f1.2.1, Ti f1.2.2] :: bt 14 [], []⟩ _
  refine V_e (mb 15 2) [8] (s1 := ⟨.bot :: .pt 8 0 :: bt 13 [], [(8, .box [Ti f1.1, Ti f1.2.1, Ti f1.2.2])]⟩) ?_
  obtain ⟨t2, ht2, h⟩ := of_sI h
  refine V_sreg (mb 15 4) [] (s1 := ⟨.bot :: .bot :: I t2 :: bt 12 [], []⟩) ?_ ?_
  ·refine XR 13 ?_
   refine XL_nil ?_
   subst ht2
   kernel_rfl
  refine V_ret ?_
  obtain rfl := some_inj h
  show Post _ _ _ _ _
  exact ⟨.inr rfl, rfl, rfl, rfl⟩
theorem cf_impl_isDefinite : ∀ args w, (callFunc 103 args).run Tryz.prog w = .ok (.enter 103 args) w := run_callFunc Tryz.func103 (by kernel_rfl) (by kernel_rfl)
theorem s_impl_isDefinite {f1 : (Int × Int × Int)} {r : Bool} (h : r_impl_isDefinite f1 = some r) : CallS Tryz.prog 103 [.ag [Ti f1.1, Ti f1.2.1, Ti f1.2.2]] (Bo r) [] := by
  refine CallS_of_text (rs := [.t 2]) (vs := [.tmp 2]) Tryz.func103 rfl rfl (.cons rfl FitsL.nil) (by decide) 15 rfl ?_
  unfold r_impl_isDefinite at h
  show V _ _ ⟨.ag [Ti f1.1, Ti f1.2.1, Ti f1.2.2] :: bt 14 [], []⟩ _
  refine V_e (mb 15 2) [8] (s1 := ⟨.bot :: .pt 8 0 :: bt 13 [], [(8, .box [Ti f1.1, Ti f1.2.1, Ti f1.2.2])]⟩) ?_
  obtain ⟨y2, hy2, h⟩ := of_bind h
  obtain ⟨b5, hb5, h⟩ := of_bind h
  refine V_sreg (mb 15 4) [] (s1 := ⟨.bot :: .bot :: Bo (bif b5 then (ltI 0 f1.1) else false) :: bt 12 [], []⟩) ?_ ?_
  ·refine XR 1 ?_
   refine XC (s_impl_IsForm hy2) cf_impl_IsForm rfl rfl rfl ?_
   refine XR 1 ?_
   refine XL_split y2 (fun hc3 => ?_) (fun hc3 => ?_)
   ·have hb5 := of_true hb5 hc3
    obtain ⟨y4, hy4, hb5⟩ := of_bind hb5
    have hb5 := some_inj hb5
    refine XL_takeC _ rfl rfl (by kernel_rfl) hc3 (X_of_Y0 rfl (E_loadn (cs := [Ti f1.1, Ti f1.2.1, Ti f1.2.2]) [Ti f1.1, Ti f1.2.1, Ti f1.2.2] wd25 rfl (by kernel_rfl) (Nat.le_of_ble_eq_true rfl) (by kernel_rfl))) ?_
    refine XL_takeC _ rfl rfl (by kernel_rfl) hc3 (X_of_Y1 rfl (Y1_call (s_impl_Form_disc hy4) cf_impl_Form_disc rfl (by kernel_rfl))) ?_
    refine XL_takeC _ rfl rfl (by kernel_rfl) hc3 (X_of_Y0 rfl (Y0_ltw (k := .i64) (a := y4) (b := 0) rfl (by kernel_rfl) (by kernel_rfl))) ?_
    refine XL_cons rfl (X_of_Y0 rfl (Y0_pickTe (b := y2) (p := ltI y4 0) rfl (by kernel_rfl) hc3 (by kernel_rfl) hb5)) ?_
    refine XR 1 ?_
    refine XL_split b5 (fun hc6 => ?_) (fun hc6 => ?_)
    ·refine XL_takeC _ rfl rfl (by kernel_rfl) hc6 (X_of_Y0 rfl (E_field (.pt 8 0) Tryz.underlying25 rfl sz3 rfl (by kernel_rfl) (by intro hh; cases hh))) ?_
     refine XL_takeC _ rfl rfl (by kernel_rfl) hc6 (X_of_Y0 rfl (Y0_load1 (c := Ti f1.1) (cs := [Ti f1.2.1, Ti f1.2.2]) sc3 rfl (by kernel_rfl))) ?_
     refine XL_takeC _ rfl rfl (by kernel_rfl) hc6 (X_of_Y0 rfl (Y0_gtw (k := .i64) (a := f1.1) (b := 0) rfl (by kernel_rfl) (by kernel_rfl))) ?_
     refine XL_cons rfl (X_of_Y0 rfl (Y0_pick1 (b := b5) (p := ltI 0 f1.1) (q := false) rfl (by kernel_rfl) hc6 (by kernel_rfl))) ?_
     exact XE
    ·refine XL_skipT _ rfl rfl (by kernel_rfl) hc6 rfl ?_
     refine XL_skipT _ rfl rfl (by kernel_rfl) hc6 rfl ?_
     refine XL_skipT _ rfl rfl (by kernel_rfl) hc6 rfl ?_
     refine XL_cons rfl (X_of_Y0 rfl (Y0_pick0 (b := b5) (p := ltI 0 f1.1) (q := false) rfl (by kernel_rfl) hc6 (by kernel_rfl))) ?_
     exact XE
   ·have hb5 := some_inj (of_false hb5 hc3)
    refine XL_skipT _ rfl rfl (by kernel_rfl) hc3 rfl ?_
    refine XL_skipT _ rfl rfl (by kernel_rfl) hc3 rfl ?_
    refine XL_skipT _ rfl rfl (by kernel_rfl) hc3 rfl ?_
    refine XL_cons rfl (X_of_Y0 rfl (Y0_pickFe (b := y2) (p := false) rfl (by kernel_rfl) hc3 (by kernel_rfl) hb5)) ?_
    refine XR 1 ?_
    refine XL_split b5 (fun hc6 => ?_) (fun hc6 => ?_)
    ·refine XL_takeC _ rfl rfl (by kernel_rfl) hc6 (X_of_Y0 rfl (E_field (.pt 8 0) Tryz.underlying25 rfl sz3 rfl (by kernel_rfl) (by intro hh; cases hh))) ?_
     refine XL_takeC _ rfl rfl (by kernel_rfl) hc6 (X_of_Y0 rfl (Y0_load1 (c := Ti f1.1) (cs := [Ti f1.2.1, Ti f1.2.2]) sc3 rfl (by kernel_rfl))) ?_
     refine XL_takeC _ rfl rfl (by kernel_rfl) hc6 (X_of_Y0 rfl (Y0_gtw (k := .i64) (a := f1.1) (b := 0) rfl (by kernel_rfl) (by kernel_rfl))) ?_
     refine XL_cons rfl (X_of_Y0 rfl (Y0_pick1 (b := b5) (p := ltI 0 f1.1) (q := false) rfl (by kernel_rfl) hc6 (by kernel_rfl))) ?_
     exact XE
    ·refine XL_skipT _ rfl rfl (by kernel_rfl) hc6 rfl ?_
     refine XL_skipT _ rfl rfl (by kernel_rfl) hc6 rfl ?_
     refine XL_skipT _ rfl rfl (by kernel_rfl) hc6 rfl ?_
     refine XL_cons rfl (X_of_Y0 rfl (Y0_pick0 (b := b5) (p := ltI 0 f1.1) (q := false) rfl (by kernel_rfl) hc6 (by kernel_rfl))) ?_
     exact XE
  refine V_ret ?_
  obtain rfl := some_inj h
  show Post _ _ _ _ _
  exact ⟨.inr rfl, rfl, rfl, rfl⟩
theorem cf_impl_isShownForm : ∀ args w, (callFunc 167 args).run Tryz.prog w = .ok (.enter 167 args) w := run_callFunc Tryz.func167 (by kernel_rfl) (by kernel_rfl)
theorem s_impl_isShownForm {f1 : (Int × Int × Int)} {r : Bool} (h : r_impl_isShownForm f1 = some r) : CallS Tryz.prog 167 [.ag [Ti f1.1, Ti f1.2.1, Ti f1.2.2]] (Bo r) [] := by
  refine CallS_of_text (rs := [.t 2]) (vs := [.tmp 2]) Tryz.func167 rfl rfl (.cons rfl FitsL.nil) (by decide) 10 rfl ?_
  unfold r_impl_isShownForm at h
  show V _ _ ⟨.ag [Ti f1.1, Ti f1.2.1, Ti f1.2.2] :: bt 9 [], []⟩ _
  refine V_e (mb 10 2) [8] (s1 := ⟨.bot :: .pt 8 0 :: bt 8 [], [(8, .box [Ti f1.1, Ti f1.2.1, Ti f1.2.2])]⟩) ?_
  obtain ⟨y2, hy2, h⟩ := of_bind h
  obtain ⟨b5, hb5, h⟩ := of_bind h
  refine V_sreg (mb 10 4) [] (s1 := ⟨.bot :: .bot :: Bo b5 :: bt 7 [], []⟩) ?_ ?_
  ·refine XR 1 ?_
   refine XC (s_impl_isDefinite hy2) cf_impl_isDefinite rfl rfl rfl ?_
   refine XR 1 ?_
   refine XL_split y2 (fun hc3 => ?_) (fun hc3 => ?_)
   ·have hb5 := of_true hb5 hc3
    obtain ⟨y4, hy4, hb5⟩ := of_bind hb5
    have hb5 := some_inj hb5
    refine XL_takeC _ rfl rfl (by kernel_rfl) hc3 (X_of_Y0 rfl (E_loadn (cs := [Ti f1.1, Ti f1.2.1, Ti f1.2.2]) [Ti f1.1, Ti f1.2.1, Ti f1.2.2] wd25 rfl (by kernel_rfl) (Nat.le_of_ble_eq_true rfl) (by kernel_rfl))) ?_
    refine XL_takeC _ rfl rfl (by kernel_rfl) hc3 (X_of_Y1 rfl (Y1_call (s_impl_Form_disc hy4) cf_impl_Form_disc rfl (by kernel_rfl))) ?_
    refine XL_takeC _ rfl rfl (by kernel_rfl) hc3 (X_of_Y0 rfl (Y0_gew (k := .i64) (a := y4) (b := -2000) rfl (by kernel_rfl) (by kernel_rfl))) ?_
    refine XL_cons rfl (X_of_Y0 rfl (Y0_pickTe (b := y2) (p := leI (-2000) y4) rfl (by kernel_rfl) hc3 (by kernel_rfl) hb5)) ?_
    exact XE
   ·have hb5 := some_inj (of_false hb5 hc3)
    refine XL_skipT _ rfl rfl (by kernel_rfl) hc3 rfl ?_
    refine XL_skipT _ rfl rfl (by kernel_rfl) hc3 rfl ?_
    refine XL_skipT _ rfl rfl (by kernel_rfl) hc3 rfl ?_
    refine XL_cons rfl (X_of_Y0 rfl (Y0_pickFe (b := y2) (p := false) rfl (by kernel_rfl) hc3 (by kernel_rfl) hb5)) ?_
    exact XE
  refine V_ret ?_
  obtain rfl := some_inj h
  show Post _ _ _ _ _
  exact ⟨.inr rfl, rfl, rfl, rfl⟩
theorem cf_impl_abs : ∀ args w, (callFunc 183 args).run Tryz.prog w = .ok (.enter 183 args) w := run_callFunc Tryz.func183 (by kernel_rfl) (by kernel_rfl)
theorem s_impl_abs {vn1 : Int} {r : Int} (h : r_impl_abs vn1 = some r) : CallS Tryz.prog 183 [I vn1] (I r) [] := by
  refine CallS_of_text (rs := [.t 2]) (vs := [.tmp 2]) Tryz.func183 rfl rfl (.cons rfl FitsL.nil) (by decide) 8 rfl ?_
  unfold r_impl_abs at h
  show V _ _ ⟨I vn1 :: bt 7 [], []⟩ _
  refine V_e (mb 8 1) [] (s1 := ⟨I vn1 :: bt 7 [], []⟩) ?_
  obtain ⟨t2, ht2, h⟩ := of_sI h
  refine V_sreg (mb 8 4) [] (s1 := ⟨.bot :: .bot :: I t2 :: bt 5 [], []⟩) ?_ ?_
  ·refine XR 2 ?_
   refine L0 rfl rfl (Y0_max (a := vn1) (b := -9223372036854775807) rfl (by kernel_rfl) (by kernel_rfl)) ?_
   refine XR 1 ?_
   refine L0 rfl rfl (Y0_max (a := vn1) (b := w64 (0 - (mxI vn1 (-9223372036854775807)))) rfl (by kernel_rfl) (by kernel_rfl)) ?_
   refine XR 1 ?_
   refine XL_nil ?_
   subst ht2
   kernel_rfl
  refine V_ret ?_
  obtain rfl := some_inj h
  show Post _ _ _ _ _
  exact ⟨.inr rfl, rfl, rfl, rfl⟩
theorem cf_impl_gcd : ∀ args w, (callFunc 193 args).run Tryz.prog w = .ok (.enter 193 args) w := run_callFunc Tryz.func193 (by kernel_rfl) (by kernel_rfl)
theorem s_impl_gcd {a1 : Int} {b2 : Int} {r : Int} (h : r_impl_gcd a1 b2 = some r) : CallS Tryz.prog 193 [I a1, I b2] (I r) [] := by
  refine CallS_of_text (rs := [.t 4]) (vs := [.tmp 4]) Tryz.func193 rfl rfl (.cons rfl FitsL.nil) (by decide) 13 rfl ?_
  unfold r_impl_gcd at h
  show V _ _ ⟨I a1 :: I b2 :: bt 11 [], []⟩ _
  refine V_e (mb 13 3) [] (s1 := ⟨I a1 :: I b2 :: bt 11 [], []⟩) ?_
  refine V_seq ?_
  obtain ⟨o6, hLo6, h⟩ := of_bind h
  refine V_toK (mb 13 1) [] (s1 := ⟨I o6 :: bt 12 [], []⟩) ?_ ?_
  ·clear h
   refine V_block (V_loop (fun n s => ∃ (a3 : Int) (b4 : Int), s.keep (mb 13 3) [] = (⟨I a3 :: I b4 :: bt 11 [], []⟩ : St) ∧ r_impl_gcd_L5 n a3 b4 = some o6) FU ⟨_, _,  by rfl, hLo6⟩ ?_)
   clear hLo6
   rintro n s ⟨a3, b4, hs, h⟩
   refine V_keep _ _ hs ?_
   clear hs
   cases n with
   | zero => cases h
   | succ n =>
    rw [r_impl_gcd_L5] at h
    refine V_seq ?_
    refine V_e (mb 13 67) [] (s1 := ⟨I a3 :: I b4 :: bt 4 (Bo (!eqI b4 0) :: bt 6 []), []⟩) ?_
    refine V_cond rfl (fun hc7 => ?_) (fun hc7 => ?_)
    ·have h := of_true h hc7
     refine V_skip ?_
     show V _ _ _ _
     refine V_block ?_
     obtain ⟨z8, hz8, h⟩ := of_bind h
     obtain ⟨b9, hb9, h⟩ := of_sI h
     refine V_dreg [0, 0, 0, 6, 3, 31] 6 (cdm 6 [168, 34, 522, 534, 165, 341]) (mb 13 3) [] (s1 := ⟨I b4 :: I b9 :: bt 11 [], []⟩) (by kernel_rfl) (by kernel_rfl) ?_ ?_
     ·refine DR 3 ?_
      refine DE_0 3 (I (Int.tmod a3 b4)) (by kernel_rfl) rfl rfl rfl (gsat_none rfl) (by kernel_rfl) (Y0_rem (k := .i64) (a := a3) (b := b4) rfl (by kernel_rfl) (by kernel_rfl) (nz_some hz8)) 10 rfl ?_
      refine DA 2 ?_
      refine XL_nil ?_
      subst hb9
      kernel_rfl
     exact ⟨n, Nat.lt_succ_self n, _, _,  by rfl, h⟩
    ·have h := of_false h hc7
     refine V_exit ?_
     obtain rfl := some_inj h
     show St.keep _ _ _ = _
     rfl
  show V _ _ _ _
  obtain ⟨y10, hy10, h⟩ := of_bind h
  refine V_sreg (mb 13 16) [] (s1 := ⟨bt 4 (I y10 :: bt 8 []), []⟩) ?_ ?_
  ·refine XR 1 ?_
   refine XC (s_impl_abs hy10) cf_impl_abs rfl rfl rfl ?_
   exact XE
  refine V_ret ?_
  obtain rfl := some_inj h
  show Post _ _ _ _ _
  exact ⟨.inr rfl, rfl, rfl, rfl⟩
end Go.Proofs.YtafomkclmkfjeaaGreat
