/-
  The functions of the program compute what the plain functions say.
  Conditions: none.
-/
import Derived.Test.YtgeajejmikaniaaShEx
import Derived.Test.YtgeajejmikaniaaShVw
import Derived.Test.YtgeajejmikaniaaLvRaw
import Derived.Test.YtgeajejmikaniaaRows
namespace Go.Proofs.Ytgeajejmikaniaa
open Go.RowKit
set_option linter.unusedVariables false
set_option linter.unusedSimpArgs false
set_option maxRecDepth 100000
set_option maxHeartbeats 400000
def c5 (x : Int) : List Tr := [.v (.int .u8 x)]
def c3 (x : Int) : List Tr := [Ti x]
def c45 (x : (Int × Int × Int)) : List Tr := [Ti x.1, Ti x.2.1, Ti x.2.2]
def c110 (x : (Int × Int × Int × Int)) : List Tr := [Ti x.1, Ti x.2.1, Ti x.2.2.1, Ti x.2.2.2]
def zv3 : Value := .int .i64 0
theorem zf3 : (Try.prog.info? 3).bind (·.zero) = some zv3 := by kernel_rfl
def zv45 : Value := .agg #[.int .i64 0, .int .i64 0, .int .i64 0]
theorem zf45 : (Try.prog.info? 45).bind (·.zero) = some zv45 := by kernel_rfl
def zv110 : Value := .agg #[.int .i64 0, .int .i64 0, .int .i64 0, .int .i64 0]
theorem zf110 : (Try.prog.info? 110).bind (·.zero) = some zv110 := by kernel_rfl
theorem iz3 : (Try.prog.info? 3).map (fun i => (i.zero, i.size)) = some (some zv3, 1) := by kernel_rfl
theorem iz45 : (Try.prog.info? 45).map (fun i => (i.zero, i.size)) = some (some zv45, 3) := by kernel_rfl
theorem iz110 : (Try.prog.info? 110).map (fun i => (i.zero, i.size)) = some (some zv110, 4) := by kernel_rfl
theorem izb3 : (Try.prog.info? 3).map (fun i => (i.zero, i.size, i.bytes)) = some (some zv3, 1, 8) := by kernel_rfl
theorem izb45 : (Try.prog.info? 45).map (fun i => (i.zero, i.size, i.bytes)) = some (some zv45, 3, 24) := by kernel_rfl
theorem izb110 : (Try.prog.info? 110).map (fun i => (i.zero, i.size, i.bytes)) = some (some zv110, 4, 32) := by kernel_rfl
theorem sc3 : scalar Try.prog 3 := ⟨_, Try.underlying3, rfl⟩
theorem sc5 : scalar Try.prog 5 := ⟨_, Try.underlying5, rfl⟩
theorem sc22 : scalar Try.prog 22 := ⟨_, Try.underlying22, rfl⟩
theorem sc96 : scalar Try.prog 96 := ⟨_, Try.underlying96, rfl⟩
theorem sz3 : (Try.prog.info? 3).map (·.size) = some 1 := by kernel_rfl
theorem sz5 : (Try.prog.info? 5).map (·.size) = some 1 := by kernel_rfl
theorem sz22 : (Try.prog.info? 22).map (·.size) = some 1 := by kernel_rfl
theorem sz45 : (Try.prog.info? 45).map (·.size) = some 3 := by kernel_rfl
theorem sz96 : (Try.prog.info? 96).map (·.size) = some 1 := by kernel_rfl
theorem sz110 : (Try.prog.info? 110).map (·.size) = some 4 := by kernel_rfl
theorem wd45 : wide Try.prog 45 3 := ⟨⟨_, Try.underlying45, rfl⟩, by kernel_rfl⟩
theorem wd110 : wide Try.prog 110 4 := ⟨⟨_, Try.underlying110, rfl⟩, by kernel_rfl⟩
def pl45 : Nat → Option (Nat × Nat) := fun i => (#[(0, 1), (1, 1), (2, 1)] : Array (Nat × Nat))[i]?
theorem bt45 : ∀ ps, Try.prog.built 45 ps = Instr.fill pl45 #[.int .i64 0, .int .i64 0, .int .i64 0] ps := fun ps => by kernel_rfl
def pl98 : Nat → Option (Nat × Nat) := fun i => (#[(0, 1), (1, 1), (2, 1)] : Array (Nat × Nat))[i]?
theorem bt98 : ∀ ps, Try.prog.built 98 ps = Instr.fill pl98 #[.slice none 0 0, .int .i64 0, .int .u64 0] ps := fun ps => by kernel_rfl
def pl110 : Nat → Option (Nat × Nat) := fun i => (#[(0, 1), (1, 1), (2, 1), (3, 1)] : Array (Nat × Nat))[i]?
theorem bt110 : ∀ ps, Try.prog.built 110 ps = Instr.fill pl110 #[.int .i64 0, .int .i64 0, .int .i64 0, .int .i64 0] ps := fun ps => by kernel_rfl
theorem eqg45 : EqAg3 Try.prog .eql 45 := by
  intro a0 a1 a2 b0 b1 b2 x y w
  have hg : (eqGuard .eql 45 x y (.agg #[.int .i64 a0, .int .i64 a1, .int .i64 a2]) (.agg #[.int .i64 b0, .int .i64 b1, .int .i64 b2])).run Try.prog w = .ok () w := by simp [eqGuard, (by kernel_rfl : Try.prog.eqGuardType Try.prog.depth 45 = false)]
  have hf : (Try.prog.fieldsOf 45).toList = (match Try.prog.underlying 45 with | some (.struct fs) => fs.toList | _ => []) := by kernel_rfl
  refine ⟨hg, ?_⟩
  rw [run_eql_struct, run_equalIn_agg (d := 9999) (ht := by kernel_rfl) (hp := by kernel_rfl), hf, Try.underlying45]
  by_cases h0 : a0 = b0 <;> by_cases h1 : a1 = b1 <;> by_cases h2 : a2 = b2 <;> simp [Op.eqFields, part, go_sem, h0, h1, h2]
theorem neg45 : EqAg3 Try.prog .neq 45 := by
  intro a0 a1 a2 b0 b1 b2 x y w
  have hg : (eqGuard .neq 45 x y (.agg #[.int .i64 a0, .int .i64 a1, .int .i64 a2]) (.agg #[.int .i64 b0, .int .i64 b1, .int .i64 b2])).run Try.prog w = .ok () w := by simp [eqGuard, (by kernel_rfl : Try.prog.eqGuardType Try.prog.depth 45 = false)]
  have hf : (Try.prog.fieldsOf 45).toList = (match Try.prog.underlying 45 with | some (.struct fs) => fs.toList | _ => []) := by kernel_rfl
  refine ⟨hg, ?_⟩
  rw [run_neq_struct, run_equalIn_agg (d := 9999) (ht := by kernel_rfl) (hp := by kernel_rfl), hf, Try.underlying45]
  by_cases h0 : a0 = b0 <;> by_cases h1 : a1 = b1 <;> by_cases h2 : a2 = b2 <;> simp [Op.eqFields, part, go_sem, h0, h1, h2]
theorem cf_laws_big : ∀ args w, (callFunc 8 args).run Try.prog w = .ok (.enter 8 args) w := run_callFunc Try.func8 (by kernel_rfl) (by kernel_rfl)
theorem s_laws_big {code1 : List Int} {more2 : List Int} {r : Bool} (h : r_laws_big code1 more2 = some r) : CallS Try.prog 8 [.c (.sl (code1.map c5)), .c (.sl (more2.map c5))] (Bo r) [] := by
  refine CallS_of_text (rs := [.t 4]) (vs := [.tmp 4]) Try.func8 rfl rfl (.cons rfl FitsL.nil) (by decide) 16 rfl ?_
  unfold r_laws_big at h
  show V _ _ ⟨.c (.sl (code1.map c5)) :: .c (.sl (more2.map c5)) :: bt 14 [], []⟩ _
  refine V_e (mb 16 3) [] (s1 := ⟨.c (.sl (code1.map c5)) :: .c (.sl (more2.map c5)) :: bt 14 [], []⟩) ?_
  obtain ⟨t4, ht4, h⟩ := of_bind h
  have ht4 := some_inj ht4
  refine V_sreg (mb 16 16) [] (s1 := ⟨bt 4 (Bo t4 :: bt 11 []), []⟩) ?_ ?_
  ·refine XR 1 ?_
   refine L0 rfl rfl (Y0_lenM (c := c5) (xs := code1) Try.underlying22 rfl (by kernel_rfl)) ?_
   refine XR 2 ?_
   refine XL_split (ltI 1048576 ((code1.length : Int))) (fun hc3 => ?_) (fun hc3 => ?_)
   ·refine XL_skipF _ rfl rfl (by kernel_rfl) hc3 rfl ?_
    refine XL_skipF _ rfl rfl (by kernel_rfl) hc3 rfl ?_
    refine XL_skipF _ rfl rfl (by kernel_rfl) hc3 rfl ?_
    refine XL_skipF _ rfl rfl (by kernel_rfl) hc3 rfl ?_
    refine XL_skipF _ rfl rfl (by kernel_rfl) hc3 rfl ?_
    refine XL_skipF _ rfl rfl (by kernel_rfl) hc3 rfl ?_
    refine XL_cons rfl (X_of_Y0 rfl (Y0_pick1 (b := ltI 1048576 ((code1.length : Int))) (p := true) (q := ltI (w64 (1048576 - ((code1.length : Int)))) ((more2.length : Int))) rfl (by kernel_rfl) hc3 (by kernel_rfl))) ?_
    refine XR 1 ?_
    refine XL_nil ?_
    subst ht4
    kernel_rfl
   ·refine XL_takeC _ rfl rfl (by kernel_rfl) hc3 (X_of_Y0 rfl (E_move (.c (.sl (more2.map c5))) rfl (by kernel_rfl))) ?_
    refine XL_takeC _ rfl rfl (by kernel_rfl) hc3 (X_of_Y0 rfl (Y0_lenM (c := c5) (xs := more2) Try.underlying22 rfl (by kernel_rfl))) ?_
    refine XL_takeC _ rfl rfl (by kernel_rfl) hc3 (X_of_Y0 rfl (E_move (.c (.sl (code1.map c5))) rfl (by kernel_rfl))) ?_
    refine XL_takeC _ rfl rfl (by kernel_rfl) hc3 (X_of_Y0 rfl (Y0_lenM (c := c5) (xs := code1) Try.underlying22 rfl (by kernel_rfl))) ?_
    refine XL_takeC _ rfl rfl (by kernel_rfl) hc3 (X_of_Y0 rfl (Y0_sub64 (a := 1048576) (b := (code1.length : Int)) rfl (by kernel_rfl) (by kernel_rfl))) ?_
    refine XL_takeC _ rfl rfl (by kernel_rfl) hc3 (X_of_Y0 rfl (Y0_gtw (k := .i64) (a := (more2.length : Int)) (b := w64 (1048576 - ((code1.length : Int)))) rfl (by kernel_rfl) (by kernel_rfl))) ?_
    refine XL_cons rfl (X_of_Y0 rfl (Y0_pick0 (b := ltI 1048576 ((code1.length : Int))) (p := true) (q := ltI (w64 (1048576 - ((code1.length : Int)))) ((more2.length : Int))) rfl (by kernel_rfl) hc3 (by kernel_rfl))) ?_
    refine XR 1 ?_
    refine XL_nil ?_
    subst ht4
    kernel_rfl
  refine V_ret ?_
  obtain rfl := some_inj h
  show Post _ _ _ _ _
  exact ⟨.inr rfl, rfl, rfl, rfl⟩
theorem cf_spec_l1Cur_next : ∀ args w, (callFunc 175 args).run Try.prog w = .ok (.enter 175 args) w := run_callFunc Try.func175 (by kernel_rfl) (by kernel_rfl)
theorem s_spec_l1Cur_next {c1 : ((List Int) × Int × Int)} {r : (Int × (((List Int) × Int × Int)))} (h : r_spec_l1Cur_next c1 = some r) : CallR Try.prog 175 [.pt 80000 0] [(80000, .box [.sl (c1.1.map c5), Ti c1.2.1, .v (.int .u64 c1.2.2)])] (I r.1) [] [(80000, .box [.sl (r.2.1.map c5), Ti r.2.2.1, .v (.int .u64 r.2.2.2)])] := by
  refine CallR_of_text (rs := [.t 2]) (vs := [.tmp 2]) Try.func175 rfl rfl (.cons rfl FitsL.nil) (by decide) 62 rfl rfl fun σ => ?_
  unfold r_spec_l1Cur_next at h
  show V _ _ ⟨.pt 80000 0 :: bt 61 [], [(80000, .pbox (σ 80000) [.sl (c1.1.map c5), Ti c1.2.1, .v (.int .u64 c1.2.2)])]⟩ _
  refine V_e (mb 62 1) [80000] (s1 := ⟨.pt 80000 0 :: bt 61 [], [(80000, .pbox (σ 80000) [.sl (c1.1.map c5), Ti c1.2.1, .v (.int .u64 c1.2.2)])]⟩) ?_
  refine V_e (mb 62 9) [80000] (s1 := ⟨.pt 80000 0 :: .bot :: .bot :: I 0 :: bt 58 [], [(80000, .pbox (σ 80000) [.sl (c1.1.map c5), Ti c1.2.1, .v (.int .u64 c1.2.2)])]⟩) ?_
  obtain ⟨j2, hj2, h⟩ := of_bind h
  refine V_cutK (mb 62 9) [80000] (s1 := ⟨.pt 80000 0 :: .bot :: .bot :: I j2 :: bt 58 [], [(80000, .pbox (σ 80000) [.sl (c1.1.map c5), Ti c1.2.1, .v (.int .u64 c1.2.2)])]⟩) ?_ ?_
  ·clear h
   have h := hj2
   clear hj2
   refine V_sdreg [0, 1, 3, 7, 0, 16, 48, 112, 240, 511] 10 (cdm 10 [174592, 174593, 174597, 174613, 170, 426, 1450, 5546, 21930, 87381]) (mb 62 8201) [80000] (s1 := ⟨.pt 80000 0 :: .bot :: .bot :: I 0 :: bt 9 (Bo (ltI c1.2.1 ((c1.1.length : Int))) :: bt 48 []), [(80000, .pbox (σ 80000) [.sl (c1.1.map c5), Ti c1.2.1, .v (.int .u64 c1.2.2)])]⟩) (by kernel_rfl) (by kernel_rfl) ?_ ?_
   ·refine DR 1 ?_
    refine DE_0 1 (.pt 80000 0) (by kernel_rfl) rfl rfl rfl (gsat_none rfl) (by kernel_rfl) (E_nil (.pt 80000 0) rfl (by kernel_rfl) (by intro hh; cases hh)) 5 rfl ?_
    refine DR 3 ?_
    refine DE_0 5 (.pt 80000 0) (by kernel_rfl) rfl rfl rfl (gsat_none rfl) (by kernel_rfl) (E_nil (.pt 80000 0) rfl (by kernel_rfl) (by intro hh; cases hh)) 9 rfl ?_
    refine DR 2 ?_
    refine DE_0 8 (I ((c1.1.length : Int))) (by kernel_rfl) rfl rfl rfl (gsat_none rfl) (by kernel_rfl) (Y0_lenM (c := c5) (xs := c1.1) Try.underlying22 rfl (by kernel_rfl)) 12 rfl ?_
    refine DA 1 ?_
    exact XE
   refine V_cond rfl (fun hc3 => ?_) (fun hc3 => ?_)
   ·have h := of_true h hc3
    obtain ⟨e4, he4, h⟩ := of_bind h
    obtain ⟨b5, hb5, h⟩ := of_sI h
    refine V_dreg [0, 1, 3, 7, 0, 16, 48, 112, 255, 511, 1023, 2047] 12 (cdm 12 [43520, 43521, 43525, 43541, 170, 426, 1450, 5546, 21845, 87381, 349525, 1398101]) (mb 62 9) [80000] (s1 := ⟨.pt 80000 0 :: .bot :: .bot :: I b5 :: bt 58 [], [(80000, .pbox (σ 80000) [.sl (c1.1.map c5), Ti c1.2.1, .v (.int .u64 c1.2.2)])]⟩) (by kernel_rfl) (by kernel_rfl) ?_ ?_
    ·refine DR 1 ?_
     refine DE_0 1 (.pt 80000 0) (by kernel_rfl) rfl rfl rfl (gsat_none rfl) (by kernel_rfl) (E_nil (.pt 80000 0) rfl (by kernel_rfl) (by intro hh; cases hh)) 15 rfl ?_
     refine DR 3 ?_
     refine DE_0 5 (.pt 80000 0) (by kernel_rfl) rfl rfl rfl (gsat_none rfl) (by kernel_rfl) (E_nil (.pt 80000 0) rfl (by kernel_rfl) (by intro hh; cases hh)) 19 rfl ?_
     refine DR 2 ?_
     refine DE_0 8 (.pe [.v (.int .u8 e4)]) (by kernel_rfl) rfl rfl rfl (gsat_none rfl) (by kernel_rfl) (Y0_idxM (c := c5) (xs := c1.1) (v := e4) (n := c1.2.1) Try.underlying22 sz5 rfl (by kernel_rfl) (by kernel_rfl) he4) 22 rfl ?_
     refine DR 1 ?_
     refine DE_0 10 (I (IntKind.i64.wrap e4)) (by kernel_rfl) rfl rfl rfl (gsat_none rfl) (by kernel_rfl) (Y0_conv (k2 := .u8) (a := e4) Try.underlying5 Try.underlying3 rfl (by kernel_rfl)) 24 rfl ?_
     refine DA 1 ?_
     refine XL_nil ?_
     subst hb5
     kernel_rfl
    obtain rfl := some_inj h
    show St.keep _ _ _ = _
    rfl
   ·have h := of_false h hc3
    refine V_skip ?_
    obtain rfl := some_inj h
    show St.keep _ _ _ = _
    rfl
  obtain ⟨f6, hf6, h⟩ := of_sI h
  refine V_sreg (mb 62 9) [80000] (s1 := ⟨.pt 80000 0 :: .bot :: .bot :: I j2 :: bt 58 [], [(80000, .pbox (σ 80000) [.sl (c1.1.map c5), Ti f6, .v (.int .u64 c1.2.2)])]⟩) ?_ ?_
  ·refine XR 1 ?_
   refine L0 rfl rfl (E_nil (.pt 80000 0) rfl (by kernel_rfl) (by intro hh; cases hh)) ?_
   refine XR 3 ?_
   refine L0 rfl rfl (E_nil (.pt 80000 0) rfl (by kernel_rfl) (by intro hh; cases hh)) ?_
   refine XR 2 ?_
   refine XL_nil ?_
   subst hf6
   kernel_rfl
  obtain ⟨f7, hf7, h⟩ := of_sI h
  refine V_sreg (mb 62 9) [80000] (s1 := ⟨.pt 80000 0 :: .bot :: .bot :: I j2 :: bt 58 [], [(80000, .pbox (σ 80000) [.sl (c1.1.map c5), Ti f6, .v (.int .u64 f7)])]⟩) ?_ ?_
  ·refine XR 2 ?_
   refine L0 rfl rfl (E_nil (.pt 80000 0) rfl (by kernel_rfl) (by intro hh; cases hh)) ?_
   refine XR 2 ?_
   refine L0 rfl rfl (Y0_mul (k := .u64) (a := c1.2.2) (b := 6364136223846793005) rfl (by kernel_rfl) (by kernel_rfl)) ?_
   refine XR 1 ?_
   refine L0 rfl rfl (Y0_conv (k2 := .i64) (a := j2) Try.underlying3 Try.underlying96 rfl (by kernel_rfl)) ?_
   refine L0 rfl rfl (Y0_add (k := .u64) (a := IntKind.u64.wrap (c1.2.2 * 6364136223846793005)) (b := IntKind.u64.wrap j2) rfl (by kernel_rfl) (by kernel_rfl)) ?_
   refine L0 rfl rfl (Y0_add (k := .u64) (a := IntKind.u64.wrap ((IntKind.u64.wrap (c1.2.2 * 6364136223846793005)) + (IntKind.u64.wrap j2))) (b := 1442695040888963407) rfl (by kernel_rfl) (by kernel_rfl)) ?_
   refine L0 rfl rfl (E_nil (.pt 80000 0) rfl (by kernel_rfl) (by intro hh; cases hh)) ?_
   refine XR 2 ?_
   refine XL_nil ?_
   subst hf7
   kernel_rfl
  refine V_seq ?_
  refine V_sdreg [0, 1, 3, 7, 0, 16, 48, 112, 240, 511] 10 (cdm 10 [174592, 174593, 174597, 174613, 170, 426, 1450, 5546, 21930, 87381]) (mb 62 9007199254741001) [80000] (s1 := ⟨.pt 80000 0 :: .bot :: .bot :: I j2 :: bt 49 (Bo (leI f6 ((c1.1.length : Int))) :: bt 8 []), [(80000, .pbox (σ 80000) [.sl (c1.1.map c5), Ti f6, .v (.int .u64 f7)])]⟩) (by kernel_rfl) (by kernel_rfl) ?_ ?_
  ·refine DR 1 ?_
   refine DE_0 1 (.pt 80000 0) (by kernel_rfl) rfl rfl rfl (gsat_none rfl) (by kernel_rfl) (E_nil (.pt 80000 0) rfl (by kernel_rfl) (by intro hh; cases hh)) 45 rfl ?_
   refine DR 3 ?_
   refine DE_0 5 (.pt 80000 0) (by kernel_rfl) rfl rfl rfl (gsat_none rfl) (by kernel_rfl) (E_nil (.pt 80000 0) rfl (by kernel_rfl) (by intro hh; cases hh)) 49 rfl ?_
   refine DR 2 ?_
   refine DE_0 8 (I ((c1.1.length : Int))) (by kernel_rfl) rfl rfl rfl (gsat_none rfl) (by kernel_rfl) (Y0_lenM (c := c5) (xs := c1.1) Try.underlying22 rfl (by kernel_rfl)) 52 rfl ?_
   refine DA 1 ?_
   exact XE
  refine V_cond rfl (fun hc8 => ?_) (fun hc8 => ?_)
  ·have h := of_true h hc8
   refine V_e (mb 62 4) [80000] (s1 := ⟨.bot :: .bot :: I j2 :: bt 59 [], [(80000, .pbox (σ 80000) [.sl (c1.1.map c5), Ti f6, .v (.int .u64 f7)])]⟩) ?_
   refine V_ret ?_
   obtain rfl := some_inj h
   show PostR _ _ _ _ _ _
   exact ⟨⟨.inr rfl, rfl, rfl, rfl⟩, ⟨rfl, trivial⟩⟩
  ·have h := of_false h hc8
   refine V_skip ?_
   show V _ _ _ _
   obtain ⟨t9, ht9, h⟩ := of_sI h
   refine V_sreg (mb 62 4) [80000] (s1 := ⟨.bot :: .bot :: I t9 :: bt 59 [], [(80000, .pbox (σ 80000) [.sl (c1.1.map c5), Ti f6, .v (.int .u64 f7)])]⟩) ?_ ?_
   ·refine XR 1 ?_
    refine L0 rfl rfl (E_nil (.pt 80000 0) rfl (by kernel_rfl) (by intro hh; cases hh)) ?_
    refine XR 2 ?_
    refine L0 rfl rfl (Y0_shr (k := .u64) (k2 := .u64) (a := f7) (b := 40) rfl (by kernel_rfl) (by kernel_rfl) (by decide)) ?_
    refine L0 rfl rfl (Y0_and (k := .u64) (a := shrI .u64 f7 40) (b := 255) rfl (by kernel_rfl) (by kernel_rfl)) ?_
    refine L0 rfl rfl (Y0_conv (k2 := .u64) (a := andI .u64 (shrI .u64 f7 40) 255) Try.underlying96 Try.underlying3 rfl (by kernel_rfl)) ?_
    refine XR 1 ?_
    refine XL_nil ?_
    subst ht9
    kernel_rfl
   refine V_ret ?_
   obtain rfl := some_inj h
   show PostR _ _ _ _ _ _
   exact ⟨⟨.inr rfl, rfl, rfl, rfl⟩, ⟨rfl, trivial⟩⟩
theorem cf_spec_l1Cur_pick : ∀ args w, (callFunc 116 args).run Try.prog w = .ok (.enter 116 args) w := run_callFunc Try.func116 (by kernel_rfl) (by kernel_rfl)
theorem s_spec_l1Cur_pick {c1 : ((List Int) × Int × Int)} {vn2 : Int} {r : (Int × (((List Int) × Int × Int)))} (h : r_spec_l1Cur_pick c1 vn2 = some r) : CallR Try.prog 116 [.pt 80000 0, I vn2] [(80000, .box [.sl (c1.1.map c5), Ti c1.2.1, .v (.int .u64 c1.2.2)])] (I r.1) [] [(80000, .box [.sl (r.2.1.map c5), Ti r.2.2.1, .v (.int .u64 r.2.2.2)])] := by
  refine CallR_of_text (rs := [.t 4]) (vs := [.tmp 4]) Try.func116 rfl rfl (.cons rfl FitsL.nil) (by decide) 20 rfl rfl fun σ => ?_
  unfold r_spec_l1Cur_pick at h
  show V _ _ ⟨.pt 80000 0 :: I vn2 :: bt 18 [], [(80000, .pbox (σ 80000) [.sl (c1.1.map c5), Ti c1.2.1, .v (.int .u64 c1.2.2)])]⟩ _
  refine V_e (mb 20 3) [80000] (s1 := ⟨.pt 80000 0 :: I vn2 :: bt 18 [], [(80000, .pbox (σ 80000) [.sl (c1.1.map c5), Ti c1.2.1, .v (.int .u64 c1.2.2)])]⟩) ?_
  refine V_seq ?_
  refine V_e (mb 20 131) [80000] (s1 := ⟨.pt 80000 0 :: I vn2 :: bt 5 (Bo (leI vn2 1) :: bt 12 []), [(80000, .pbox (σ 80000) [.sl (c1.1.map c5), Ti c1.2.1, .v (.int .u64 c1.2.2)])]⟩) ?_
  refine V_cond rfl (fun hc3 => ?_) (fun hc3 => ?_)
  ·have h := of_true h hc3
   refine V_e (mb 20 16) [80000] (s1 := ⟨bt 4 (I 0 :: bt 15 []), [(80000, .pbox (σ 80000) [.sl (c1.1.map c5), Ti c1.2.1, .v (.int .u64 c1.2.2)])]⟩) ?_
   refine V_ret ?_
   obtain rfl := some_inj h
   show PostR _ _ _ _ _ _
   exact ⟨⟨.inr rfl, rfl, rfl, rfl⟩, ⟨rfl, trivial⟩⟩
  ·have h := of_false h hc3
   refine V_skip ?_
   show V _ _ _ _
   obtain ⟨y4, hy4, h⟩ := of_bind h
   refine V_sreg (mb 20 35) [80000] (s1 := ⟨.pt 80000 0 :: I vn2 :: bt 3 (I y4.1 :: bt 14 []), [(80000, .pbox (σ 80000) [.sl (y4.2.1.map c5), Ti y4.2.2.1, .v (.int .u64 y4.2.2.2)])]⟩) ?_ ?_
   ·refine XR 1 ?_
    refine XL_cons rfl (X_callR (E' := [(80000, .pbox (σ 80000) [.sl (y4.2.1.map c5), Ti y4.2.2.1, .v (.int .u64 y4.2.2.2)])]) [(80000, 80000)] 9 (s_spec_l1Cur_next hy4) cf_spec_l1Cur_next rfl rfl (by kernel_rfl) rfl (mE_cons (by kernel_rfl) mE_nil) rfl (by kernel_rfl) rfl rfl (by kernel_rfl)) ?_
    exact XE
   refine V_seq ?_
   refine V_e (mb 20 2083) [80000] (s1 := ⟨.pt 80000 0 :: I vn2 :: bt 3 (I y4.1 :: bt 5 (Bo (ltI 200 vn2) :: bt 8 [])), [(80000, .pbox (σ 80000) [.sl (y4.2.1.map c5), Ti y4.2.2.1, .v (.int .u64 y4.2.2.2)])]⟩) ?_
   refine V_cond rfl (fun hc5 => ?_) (fun hc5 => ?_)
   ·have h := of_true h hc5
    obtain ⟨y6, hy6, h⟩ := of_bind h
    obtain ⟨x7, hx7, h⟩ := of_sI h
    refine V_reg (mb 20 34) [80000] (s1 := ⟨.bot :: I vn2 :: bt 3 (I x7 :: bt 14 []), [(80000, .pbox (σ 80000) [.sl (y6.2.1.map c5), Ti y6.2.2.1, .v (.int .u64 y6.2.2.2)])]⟩) ?_ ?_
    ·refine XR 3 ?_
     refine XL_cons rfl (X_callR (E' := [(80000, .pbox (σ 80000) [.sl (y6.2.1.map c5), Ti y6.2.2.1, .v (.int .u64 y6.2.2.2)])]) [(80000, 80000)] 15 (s_spec_l1Cur_next hy6) cf_spec_l1Cur_next rfl rfl (by kernel_rfl) rfl (mE_cons (by kernel_rfl) mE_nil) rfl (by kernel_rfl) rfl rfl (by kernel_rfl)) ?_
     refine XR 2 ?_
     refine XL_nil ?_
     subst hx7
     kernel_rfl
    show V _ _ _ _
    obtain ⟨z8, hz8, h⟩ := of_bind h
    obtain ⟨t9, ht9, h⟩ := of_sI h
    refine V_sreg (mb 20 16) [80000] (s1 := ⟨bt 4 (I t9 :: bt 15 []), [(80000, .pbox (σ 80000) [.sl (y6.2.1.map c5), Ti y6.2.2.1, .v (.int .u64 y6.2.2.2)])]⟩) ?_ ?_
    ·refine XR 2 ?_
     refine L0 rfl rfl (Y0_rem (k := .i64) (a := x7) (b := vn2) rfl (by kernel_rfl) (by kernel_rfl) (nz_some hz8)) ?_
     refine XR 1 ?_
     refine XL_nil ?_
     subst ht9
     kernel_rfl
    refine V_ret ?_
    obtain rfl := some_inj h
    show PostR _ _ _ _ _ _
    exact ⟨⟨.inr rfl, rfl, rfl, rfl⟩, ⟨rfl, trivial⟩⟩
   ·have h := of_false h hc5
    refine V_skip ?_
    show V _ _ _ _
    obtain ⟨z10, hz10, h⟩ := of_bind h
    obtain ⟨t11, ht11, h⟩ := of_sI h
    refine V_sreg (mb 20 16) [80000] (s1 := ⟨bt 4 (I t11 :: bt 15 []), [(80000, .pbox (σ 80000) [.sl (y4.2.1.map c5), Ti y4.2.2.1, .v (.int .u64 y4.2.2.2)])]⟩) ?_ ?_
    ·refine XR 2 ?_
     refine L0 rfl rfl (Y0_rem (k := .i64) (a := y4.1) (b := vn2) rfl (by kernel_rfl) (by kernel_rfl) (nz_some hz10)) ?_
     refine XR 1 ?_
     refine XL_nil ?_
     subst ht11
     kernel_rfl
    refine V_ret ?_
    obtain rfl := some_inj h
    show PostR _ _ _ _ _ _
    exact ⟨⟨.inr rfl, rfl, rfl, rfl⟩, ⟨rfl, trivial⟩⟩
theorem cf_spec_l1Cur_among : ∀ args w, (callFunc 115 args).run Try.prog w = .ok (.enter 115 args) w := run_callFunc Try.func115 (by kernel_rfl) (by kernel_rfl)
theorem s_spec_l1Cur_among {c1 : ((List Int) × Int × Int)} {list2 : List Int} {r : (Int × (((List Int) × Int × Int)))} (h : r_spec_l1Cur_among c1 list2 = some r) : CallR Try.prog 115 [.pt 80000 0, .c (.sl (list2.map c3))] [(80000, .box [.sl (c1.1.map c5), Ti c1.2.1, .v (.int .u64 c1.2.2)])] (I r.1) [] [(80000, .box [.sl (r.2.1.map c5), Ti r.2.2.1, .v (.int .u64 r.2.2.2)])] := by
  refine CallR_of_text (rs := [.t 4]) (vs := [.tmp 4]) Try.func115 rfl rfl (.cons rfl FitsL.nil) (by decide) 12 rfl rfl fun σ => ?_
  unfold r_spec_l1Cur_among at h
  show V _ _ ⟨.pt 80000 0 :: .c (.sl (list2.map c3)) :: bt 10 [], [(80000, .pbox (σ 80000) [.sl (c1.1.map c5), Ti c1.2.1, .v (.int .u64 c1.2.2)])]⟩ _
  refine V_e (mb 12 3) [80000] (s1 := ⟨.pt 80000 0 :: .c (.sl (list2.map c3)) :: bt 10 [], [(80000, .pbox (σ 80000) [.sl (c1.1.map c5), Ti c1.2.1, .v (.int .u64 c1.2.2)])]⟩) ?_
  obtain ⟨y3, hy3, h⟩ := of_bind h
  obtain ⟨e4, he4, h⟩ := of_bind h
  refine V_sreg (mb 12 16) [80000] (s1 := ⟨bt 4 (I e4 :: bt 7 []), [(80000, .pbox (σ 80000) [.sl (y3.2.1.map c5), Ti y3.2.2.1, .v (.int .u64 y3.2.2.2)])]⟩) ?_ ?_
  ·refine XR 3 ?_
   refine L0 rfl rfl (Y0_lenM (c := c3) (xs := list2) Try.underlying41 rfl (by kernel_rfl)) ?_
   refine XL_cons rfl (X_callR (E' := [(80000, .pbox (σ 80000) [.sl (y3.2.1.map c5), Ti y3.2.2.1, .v (.int .u64 y3.2.2.2)])]) [(80000, 80000)] 9 (s_spec_l1Cur_pick hy3) cf_spec_l1Cur_pick rfl rfl (by kernel_rfl) rfl (mE_cons (by kernel_rfl) mE_nil) rfl (by kernel_rfl) rfl rfl (by kernel_rfl)) ?_
   refine L0 rfl rfl (Y0_idxM (c := c3) (xs := list2) (v := e4) (n := y3.1) Try.underlying41 sz3 rfl (by kernel_rfl) (by kernel_rfl) he4) ?_
   exact XE
  refine V_ret ?_
  obtain rfl := some_inj h
  show PostR _ _ _ _ _ _
  exact ⟨⟨.inr rfl, rfl, rfl, rfl⟩, ⟨rfl, trivial⟩⟩
theorem cf_spec_nuMod : ∀ args w, (callFunc 63 args).run Try.prog w = .ok (.enter 63 args) w := run_callFunc Try.func63 (by kernel_rfl) (by kernel_rfl)
theorem s_spec_nuMod {a1 : Int} {vm2 : Int} {r : Int} (h : r_spec_nuMod a1 vm2 = some r) : CallS Try.prog 63 [I a1, I vm2] (I r) [] := by
  refine CallS_of_text (rs := [.t 4]) (vs := [.tmp 4]) Try.func63 rfl rfl (.cons rfl FitsL.nil) (by decide) 15 rfl ?_
  unfold r_spec_nuMod at h
  show V _ _ ⟨I a1 :: I vm2 :: bt 13 [], []⟩ _
  refine V_e (mb 15 3) [] (s1 := ⟨I a1 :: I vm2 :: bt 13 [], []⟩) ?_
  obtain ⟨z3, hz3, h⟩ := of_bind h
  obtain ⟨vr4, hvr4, h⟩ := of_sI h
  refine V_sreg (mb 15 34) [] (s1 := ⟨.bot :: I vm2 :: bt 3 (I vr4 :: bt 9 []), []⟩) ?_ ?_
  ·refine XR 2 ?_
   refine L0 rfl rfl (Y0_rem (k := .i64) (a := a1) (b := vm2) rfl (by kernel_rfl) (by kernel_rfl) (nz_some hz3)) ?_
   refine XR 1 ?_
   refine XL_nil ?_
   subst hvr4
   kernel_rfl
  refine V_seq ?_
  refine V_e (mb 15 1058) [] (s1 := ⟨.bot :: I vm2 :: bt 3 (I vr4 :: bt 4 (Bo (ltI vr4 0) :: bt 4 [])), []⟩) ?_
  refine V_cond rfl (fun hc5 => ?_) (fun hc5 => ?_)
  ·have h := of_true h hc5
   obtain ⟨vr6, hvr6, h⟩ := of_sI h
   refine V_reg (mb 15 32) [] (s1 := ⟨bt 5 (I vr6 :: bt 9 []), []⟩) ?_ ?_
   ·refine XR 4 ?_
    refine XL_nil ?_
    subst hvr6
    kernel_rfl
   show V _ _ _ _
   refine V_e (mb 15 16) [] (s1 := ⟨bt 4 (I vr6 :: bt 10 []), []⟩) ?_
   refine V_ret ?_
   obtain rfl := some_inj h
   show Post _ _ _ _ _
   exact ⟨.inr rfl, rfl, rfl, rfl⟩
  ·have h := of_false h hc5
   refine V_skip ?_
   show V _ _ _ _
   refine V_e (mb 15 16) [] (s1 := ⟨bt 4 (I vr4 :: bt 10 []), []⟩) ?_
   refine V_ret ?_
   obtain rfl := some_inj h
   show Post _ _ _ _ _
   exact ⟨.inr rfl, rfl, rfl, rfl⟩
theorem cf_spec_l1Most : ∀ args w, (callFunc 185 args).run Try.prog w = .ok (.enter 185 args) w := run_callFunc Try.func185 (by kernel_rfl) (by kernel_rfl)
theorem s_spec_l1Most {a1 : Int} {b2 : Int} {r : Int} (h : r_spec_l1Most a1 b2 = some r) : CallS Try.prog 185 [I a1, I b2] (I r) [] := by
  refine CallS_of_text (rs := [.t 4]) (vs := [.tmp 4]) Try.func185 rfl rfl (.cons rfl FitsL.nil) (by decide) 10 rfl ?_
  unfold r_spec_l1Most at h
  show V _ _ ⟨I a1 :: I b2 :: bt 8 [], []⟩ _
  refine V_e (mb 10 3) [] (s1 := ⟨I a1 :: I b2 :: bt 8 [], []⟩) ?_
  refine V_seq ?_
  refine V_e (mb 10 131) [] (s1 := ⟨I a1 :: I b2 :: bt 5 (Bo (ltI b2 a1) :: .bot :: .bot :: []), []⟩) ?_
  refine V_cond rfl (fun hc3 => ?_) (fun hc3 => ?_)
  ·have h := of_true h hc3
   refine V_e (mb 10 16) [] (s1 := ⟨bt 4 (I a1 :: bt 5 []), []⟩) ?_
   refine V_ret ?_
   obtain rfl := some_inj h
   show Post _ _ _ _ _
   exact ⟨.inr rfl, rfl, rfl, rfl⟩
  ·have h := of_false h hc3
   refine V_skip ?_
   show V _ _ _ _
   refine V_e (mb 10 16) [] (s1 := ⟨bt 4 (I b2 :: bt 5 []), []⟩) ?_
   refine V_ret ?_
   obtain rfl := some_inj h
   show Post _ _ _ _ _
   exact ⟨.inr rfl, rfl, rfl, rfl⟩
theorem cf_spec_l1Cur_disc : ∀ args w, (callFunc 157 args).run Try.prog w = .ok (.enter 157 args) w := run_callFunc Try.func157 (by kernel_rfl) (by kernel_rfl)
theorem s_spec_l1Cur_disc {c1 : ((List Int) × Int × Int)} {r : (Int × (((List Int) × Int × Int)))} (h : r_spec_l1Cur_disc c1 = some r) : CallR Try.prog 157 [.pt 80000 0] [(80000, .box [.sl (c1.1.map c5), Ti c1.2.1, .v (.int .u64 c1.2.2)])] (I r.1) [] [(80000, .box [.sl (r.2.1.map c5), Ti r.2.2.1, .v (.int .u64 r.2.2.2)])] := by
  refine CallR_of_text (rs := [.t 2]) (vs := [.tmp 2]) Try.func157 rfl rfl (.cons rfl FitsL.nil) (by decide) 42 rfl rfl fun σ => ?_
  unfold r_spec_l1Cur_disc at h
  show V _ _ ⟨.pt 80000 0 :: bt 41 [], [(80000, .pbox (σ 80000) [.sl (c1.1.map c5), Ti c1.2.1, .v (.int .u64 c1.2.2)])]⟩ _
  refine V_e (mb 42 1) [80000] (s1 := ⟨.pt 80000 0 :: bt 41 [], [(80000, .pbox (σ 80000) [.sl (c1.1.map c5), Ti c1.2.1, .v (.int .u64 c1.2.2)])]⟩) ?_
  refine V_seq ?_
  obtain ⟨y2, hy2, h⟩ := of_bind h
  refine V_sreg (mb 42 33) [80000] (s1 := ⟨.pt 80000 0 :: bt 4 (I y2.1 :: bt 36 []), [(80000, .pbox (σ 80000) [.sl (y2.2.1.map c5), Ti y2.2.2.1, .v (.int .u64 y2.2.2.2)])]⟩) ?_ ?_
  ·refine XR 1 ?_
   refine XL_cons rfl (X_callR (E' := [(80000, .pbox (σ 80000) [.sl (y2.2.1.map c5), Ti y2.2.2.1, .v (.int .u64 y2.2.2.2)])]) [(80000, 80000)] 5 (s_spec_l1Cur_pick hy2) cf_spec_l1Cur_pick rfl rfl (by kernel_rfl) rfl (mE_cons (by kernel_rfl) mE_nil) rfl (by kernel_rfl) rfl rfl (by kernel_rfl)) ?_
   exact XE
  refine V_block ?_
  refine V_e (mb 42 97) [80000] (s1 := ⟨.pt 80000 0 :: bt 4 (I y2.1 :: Bo (eqI y2.1 0) :: bt 35 []), [(80000, .pbox (σ 80000) [.sl (y2.2.1.map c5), Ti y2.2.2.1, .v (.int .u64 y2.2.2.2)])]⟩) ?_
  refine V_cond rfl (fun hc3 => ?_) (fun hc3 => ?_)
  ·have h := of_true h hc3
   obtain ⟨y4, hy4, h⟩ := of_bind h
   refine V_sreg (mb 42 4) [80000] (s1 := ⟨.bot :: .bot :: I y4.1 :: bt 39 [], [(80000, .pbox (σ 80000) [.sl (y4.2.1.map c5), Ti y4.2.2.1, .v (.int .u64 y4.2.2.2)])]⟩) ?_ ?_
   ·refine XR 1 ?_
    refine L1 rfl rfl (Y1_bslice (z := zv3) (els := [-3, -4, -2000, -1999, -1996, -1995, -163, -2001, -2003, -2004, 0, 1, 5, -1, -2, -5, -9223372036854775808].map c3) Try.underlying41 iz3 rfl (by decide) rfl (by kernel_rfl) rfl (by simp [c3]) (by decide) (by decide)) ?_
    refine XL_freeze 72 (T := 3) (sz := 1) (els := ([-3, -4, -2000, -1999, -1996, -1995, -163, -2001, -2003, -2004, 0, 1, 5, -1, -2, -5, -9223372036854775808]).map c3) (s1 := ⟨.pt 80000 0 :: bt 4 (I y2.1 :: Bo (eqI y2.1 0) :: .bot :: .pt 80000 0 :: .c (.sl (([-3, -4, -2000, -1999, -1996, -1995, -163, -2001, -2003, -2004, 0, 1, 5, -1, -2, -5, -9223372036854775808]).map c3)) :: bt 32 []), [(80000, .pbox (σ 80000) [.sl (y2.2.1.map c5), Ti y2.2.2.1, .v (.int .u64 y2.2.2.2)])]⟩) (by kernel_rfl) (by kernel_rfl) ?_
    refine XL_cons rfl (X_callR (E' := [(80000, .pbox (σ 80000) [.sl (y4.2.1.map c5), Ti y4.2.2.1, .v (.int .u64 y4.2.2.2)])]) [(80000, 80000)] 10 (s_spec_l1Cur_among hy4) cf_spec_l1Cur_among rfl rfl (by kernel_rfl) rfl (mE_cons (by kernel_rfl) mE_nil) rfl (by kernel_rfl) rfl rfl (by kernel_rfl)) ?_
    exact XE
   refine V_ret ?_
   obtain rfl := some_inj h
   show PostR _ _ _ _ _ _
   exact ⟨⟨.inr rfl, rfl, rfl, rfl⟩, ⟨rfl, trivial⟩⟩
  ·have h := of_false h hc3
   obtain ⟨j5, hj5, h⟩ := of_bind h
   refine V_cutK (mb 42 2081) [80000] (s1 := ⟨.pt 80000 0 :: bt 4 (I y2.1 :: bt 5 (Bo j5 :: bt 30 [])), [(80000, .pbox (σ 80000) [.sl (y2.2.1.map c5), Ti y2.2.2.1, .v (.int .u64 y2.2.2.2)])]⟩) ?_ ?_
   ·clear h
    have h := hj5
    clear hj5
    refine V_e (mb 42 2081) [80000] (s1 := ⟨.pt 80000 0 :: bt 4 (I y2.1 :: bt 5 (Bo (eqI y2.1 1) :: bt 30 [])), [(80000, .pbox (σ 80000) [.sl (y2.2.1.map c5), Ti y2.2.2.1, .v (.int .u64 y2.2.2.2)])]⟩) ?_
    refine V_cond rfl (fun hc6 => ?_) (fun hc6 => ?_)
    ·have h := of_true h hc6
     refine V_skip ?_
     obtain rfl := some_inj h
     show St.keep _ _ _ = _
     rfl
    ·have h := of_false h hc6
     refine V_reg (mb 42 2081) [80000] (s1 := ⟨.pt 80000 0 :: bt 4 (I y2.1 :: bt 5 (Bo (eqI y2.1 2) :: bt 30 [])), [(80000, .pbox (σ 80000) [.sl (y2.2.1.map c5), Ti y2.2.2.1, .v (.int .u64 y2.2.2.2)])]⟩) ?_ ?_
     ·exact XE
     obtain rfl := some_inj h
     show St.keep _ _ _ = _
     rfl
   refine V_cond rfl (fun hc7 => ?_) (fun hc7 => ?_)
   ·have h := of_true h hc7
    obtain ⟨y8, hy8, h⟩ := of_bind h
    obtain ⟨d9, hd9, h⟩ := of_sI h
    refine V_sreg (mb 42 8) [80000] (s1 := ⟨bt 3 (I d9 :: bt 38 []), [(80000, .pbox (σ 80000) [.sl (y8.2.1.map c5), Ti y8.2.2.1, .v (.int .u64 y8.2.2.2)])]⟩) ?_ ?_
    ·refine XR 1 ?_
     refine XL_cons rfl (X_callR (E' := [(80000, .pbox (σ 80000) [.sl (y8.2.1.map c5), Ti y8.2.2.1, .v (.int .u64 y8.2.2.2)])]) [(80000, 80000)] 15 (s_spec_l1Cur_pick hy8) cf_spec_l1Cur_pick rfl rfl (by kernel_rfl) rfl (mE_cons (by kernel_rfl) mE_nil) rfl (by kernel_rfl) rfl rfl (by kernel_rfl)) ?_
     refine XR 2 ?_
     refine XL_nil ?_
     subst hd9
     kernel_rfl
    refine V_seq ?_
    obtain ⟨y10, hy10, h⟩ := of_bind h
    refine V_sreg (mb 42 524296) [80000] (s1 := ⟨bt 3 (I d9 :: bt 15 (Bo (ltI 1 y10) :: bt 22 [])), [(80000, .pbox (σ 80000) [.sl (y8.2.1.map c5), Ti y8.2.2.1, .v (.int .u64 y8.2.2.2)])]⟩) ?_ ?_
    ·refine XR 1 ?_
     refine XC (s_spec_nuMod hy10) cf_spec_nuMod rfl rfl rfl ?_
     exact XE
    refine V_cond rfl (fun hc11 => ?_) (fun hc11 => ?_)
    ·have h := of_true h hc11
     obtain ⟨y12, hy12, h⟩ := of_bind h
     refine V_reg (mb 42 8) [80000] (s1 := ⟨bt 3 (I y12 :: bt 38 []), [(80000, .pbox (σ 80000) [.sl (y8.2.1.map c5), Ti y8.2.2.1, .v (.int .u64 y8.2.2.2)])]⟩) ?_ ?_
     ·refine XR 2 ?_
      refine XC (s_spec_l1Most hy12) cf_spec_l1Most rfl rfl rfl ?_
      exact XE
     show V _ _ _ _
     refine V_e (mb 42 4) [80000] (s1 := ⟨.bot :: .bot :: I y12 :: bt 39 [], [(80000, .pbox (σ 80000) [.sl (y8.2.1.map c5), Ti y8.2.2.1, .v (.int .u64 y8.2.2.2)])]⟩) ?_
     refine V_ret ?_
     obtain rfl := some_inj h
     show PostR _ _ _ _ _ _
     exact ⟨⟨.inr rfl, rfl, rfl, rfl⟩, ⟨rfl, trivial⟩⟩
    ·have h := of_false h hc11
     refine V_skip ?_
     show V _ _ _ _
     refine V_e (mb 42 4) [80000] (s1 := ⟨.bot :: .bot :: I d9 :: bt 39 [], [(80000, .pbox (σ 80000) [.sl (y8.2.1.map c5), Ti y8.2.2.1, .v (.int .u64 y8.2.2.2)])]⟩) ?_
     refine V_ret ?_
     obtain rfl := some_inj h
     show PostR _ _ _ _ _ _
     exact ⟨⟨.inr rfl, rfl, rfl, rfl⟩, ⟨rfl, trivial⟩⟩
   ·have h := of_false h hc7
    obtain ⟨j13, hj13, h⟩ := of_bind h
    refine V_cutK (mb 42 16777249) [80000] (s1 := ⟨.pt 80000 0 :: bt 4 (I y2.1 :: bt 18 (Bo j13 :: bt 17 [])), [(80000, .pbox (σ 80000) [.sl (y2.2.1.map c5), Ti y2.2.2.1, .v (.int .u64 y2.2.2.2)])]⟩) ?_ ?_
    ·clear h
     have h := hj13
     clear hj13
     refine V_e (mb 42 16777249) [80000] (s1 := ⟨.pt 80000 0 :: bt 4 (I y2.1 :: bt 18 (Bo (eqI y2.1 3) :: bt 17 [])), [(80000, .pbox (σ 80000) [.sl (y2.2.1.map c5), Ti y2.2.2.1, .v (.int .u64 y2.2.2.2)])]⟩) ?_
     refine V_cond rfl (fun hc14 => ?_) (fun hc14 => ?_)
     ·have h := of_true h hc14
      refine V_skip ?_
      obtain rfl := some_inj h
      show St.keep _ _ _ = _
      rfl
     ·have h := of_false h hc14
      refine V_e (mb 42 16777249) [80000] (s1 := ⟨.pt 80000 0 :: bt 4 (I y2.1 :: bt 18 (Bo (eqI y2.1 4) :: bt 17 [])), [(80000, .pbox (σ 80000) [.sl (y2.2.1.map c5), Ti y2.2.2.1, .v (.int .u64 y2.2.2.2)])]⟩) ?_
      refine V_cond rfl (fun hc15 => ?_) (fun hc15 => ?_)
      ·have h := of_true h hc15
       refine V_skip ?_
       obtain rfl := some_inj h
       show St.keep _ _ _ = _
       rfl
      ·have h := of_false h hc15
       refine V_reg (mb 42 16777249) [80000] (s1 := ⟨.pt 80000 0 :: bt 4 (I y2.1 :: bt 18 (Bo (eqI y2.1 5) :: bt 17 [])), [(80000, .pbox (σ 80000) [.sl (y2.2.1.map c5), Ti y2.2.2.1, .v (.int .u64 y2.2.2.2)])]⟩) ?_ ?_
       ·exact XE
       obtain rfl := some_inj h
       show St.keep _ _ _ = _
       rfl
    refine V_cond rfl (fun hc16 => ?_) (fun hc16 => ?_)
    ·have h := of_true h hc16
     obtain ⟨y17, hy17, h⟩ := of_bind h
     refine V_sreg (mb 42 4) [80000] (s1 := ⟨.bot :: .bot :: I y17.1 :: bt 39 [], [(80000, .pbox (σ 80000) [.sl (y17.2.1.map c5), Ti y17.2.2.1, .v (.int .u64 y17.2.2.2)])]⟩) ?_ ?_
     ·refine XR 1 ?_
      refine L1 rfl rfl (Y1_bslice (z := zv3) (els := [-84, -420, -231, -260, -455, -520, -660, -1155, -1320, -1380, -1428, -1540, -399, -1092, -1560, -1785].map c3) Try.underlying41 iz3 rfl (by decide) rfl (by kernel_rfl) rfl (by simp [c3]) (by decide) (by decide)) ?_
      refine XL_freeze 232 (T := 3) (sz := 1) (els := ([-84, -420, -231, -260, -455, -520, -660, -1155, -1320, -1380, -1428, -1540, -399, -1092, -1560, -1785]).map c3) (s1 := ⟨.pt 80000 0 :: bt 4 (I y2.1 :: bt 18 (Bo j13 :: bt 3 (.pt 80000 0 :: .c (.sl (([-84, -420, -231, -260, -455, -520, -660, -1155, -1320, -1380, -1428, -1540, -399, -1092, -1560, -1785]).map c3)) :: bt 12 []))), [(80000, .pbox (σ 80000) [.sl (y2.2.1.map c5), Ti y2.2.2.1, .v (.int .u64 y2.2.2.2)])]⟩) (by kernel_rfl) (by kernel_rfl) ?_
      refine XL_cons rfl (X_callR (E' := [(80000, .pbox (σ 80000) [.sl (y17.2.1.map c5), Ti y17.2.2.1, .v (.int .u64 y17.2.2.2)])]) [(80000, 80000)] 30 (s_spec_l1Cur_among hy17) cf_spec_l1Cur_among rfl rfl (by kernel_rfl) rfl (mE_cons (by kernel_rfl) mE_nil) rfl (by kernel_rfl) rfl rfl (by kernel_rfl)) ?_
      exact XE
     refine V_ret ?_
     obtain rfl := some_inj h
     show PostR _ _ _ _ _ _
     exact ⟨⟨.inr rfl, rfl, rfl, rfl⟩, ⟨rfl, trivial⟩⟩
    ·have h := of_false h hc16
     obtain ⟨j18, hj18, h⟩ := of_bind h
     refine V_cutK (mb 42 2147483649) [80000] (s1 := ⟨.pt 80000 0 :: bt 30 (Bo j18 :: bt 10 []), [(80000, .pbox (σ 80000) [.sl (y2.2.1.map c5), Ti y2.2.2.1, .v (.int .u64 y2.2.2.2)])]⟩) ?_ ?_
     ·clear h
      have h := hj18
      clear hj18
      refine V_e (mb 42 2147483681) [80000] (s1 := ⟨.pt 80000 0 :: bt 4 (I y2.1 :: bt 25 (Bo (eqI y2.1 6) :: bt 10 [])), [(80000, .pbox (σ 80000) [.sl (y2.2.1.map c5), Ti y2.2.2.1, .v (.int .u64 y2.2.2.2)])]⟩) ?_
      refine V_cond rfl (fun hc19 => ?_) (fun hc19 => ?_)
      ·have h := of_true h hc19
       refine V_skip ?_
       obtain rfl := some_inj h
       show St.keep _ _ _ = _
       rfl
      ·have h := of_false h hc19
       refine V_reg (mb 42 2147483649) [80000] (s1 := ⟨.pt 80000 0 :: bt 30 (Bo (eqI y2.1 7) :: bt 10 []), [(80000, .pbox (σ 80000) [.sl (y2.2.1.map c5), Ti y2.2.2.1, .v (.int .u64 y2.2.2.2)])]⟩) ?_ ?_
       ·exact XE
       obtain rfl := some_inj h
       show St.keep _ _ _ = _
       rfl
     refine V_cond rfl (fun hc20 => ?_) (fun hc20 => ?_)
     ·have h := of_true h hc20
      obtain ⟨y21, hy21, h⟩ := of_bind h
      obtain ⟨t22, ht22, h⟩ := of_sI h
      refine V_sreg (mb 42 4) [80000] (s1 := ⟨.bot :: .bot :: I t22 :: bt 39 [], [(80000, .pbox (σ 80000) [.sl (y21.2.1.map c5), Ti y21.2.2.1, .v (.int .u64 y21.2.2.2)])]⟩) ?_ ?_
      ·refine XR 1 ?_
       refine XL_cons rfl (X_callR (E' := [(80000, .pbox (σ 80000) [.sl (y21.2.1.map c5), Ti y21.2.2.1, .v (.int .u64 y21.2.2.2)])]) [(80000, 80000)] 35 (s_spec_l1Cur_pick hy21) cf_spec_l1Cur_pick rfl rfl (by kernel_rfl) rfl (mE_cons (by kernel_rfl) mE_nil) rfl (by kernel_rfl) rfl rfl (by kernel_rfl)) ?_
       refine XR 3 ?_
       refine XL_nil ?_
       subst ht22
       kernel_rfl
      refine V_ret ?_
      obtain rfl := some_inj h
      show PostR _ _ _ _ _ _
      exact ⟨⟨.inr rfl, rfl, rfl, rfl⟩, ⟨rfl, trivial⟩⟩
     ·have h := of_false h hc20
      refine V_skip ?_
      show V _ _ _ _
      obtain ⟨y23, hy23, h⟩ := of_bind h
      obtain ⟨t24, ht24, h⟩ := of_sI h
      refine V_sreg (mb 42 4) [80000] (s1 := ⟨.bot :: .bot :: I t24 :: bt 39 [], [(80000, .pbox (σ 80000) [.sl (y23.2.1.map c5), Ti y23.2.2.1, .v (.int .u64 y23.2.2.2)])]⟩) ?_ ?_
      ·refine XR 1 ?_
       refine XL_cons rfl (X_callR (E' := [(80000, .pbox (σ 80000) [.sl (y23.2.1.map c5), Ti y23.2.2.1, .v (.int .u64 y23.2.2.2)])]) [(80000, 80000)] 39 (s_spec_l1Cur_pick hy23) cf_spec_l1Cur_pick rfl rfl (by kernel_rfl) rfl (mE_cons (by kernel_rfl) mE_nil) rfl (by kernel_rfl) rfl rfl (by kernel_rfl)) ?_
       refine XR 3 ?_
       refine XL_nil ?_
       subst ht24
       kernel_rfl
      refine V_ret ?_
      obtain rfl := some_inj h
      show PostR _ _ _ _ _ _
      exact ⟨⟨.inr rfl, rfl, rfl, rfl⟩, ⟨rfl, trivial⟩⟩
theorem cf_spec_l1Cur_one : ∀ args w, (callFunc 118 args).run Try.prog w = .ok (.enter 118 args) w := run_callFunc Try.func118 (by kernel_rfl) (by kernel_rfl)
theorem s_spec_l1Cur_one {c1 : ((List Int) × Int × Int)} {vn2 : Int} {r : (Bool × (((List Int) × Int × Int)))} (h : r_spec_l1Cur_one c1 vn2 = some r) : CallR Try.prog 118 [.pt 80000 0, I vn2] [(80000, .box [.sl (c1.1.map c5), Ti c1.2.1, .v (.int .u64 c1.2.2)])] (Bo r.1) [] [(80000, .box [.sl (r.2.1.map c5), Ti r.2.2.1, .v (.int .u64 r.2.2.2)])] := by
  refine CallR_of_text (rs := [.t 4]) (vs := [.tmp 4]) Try.func118 rfl rfl (.cons rfl FitsL.nil) (by decide) 9 rfl rfl fun σ => ?_
  unfold r_spec_l1Cur_one at h
  show V _ _ ⟨.pt 80000 0 :: I vn2 :: bt 7 [], [(80000, .pbox (σ 80000) [.sl (c1.1.map c5), Ti c1.2.1, .v (.int .u64 c1.2.2)])]⟩ _
  refine V_e (mb 9 3) [80000] (s1 := ⟨.pt 80000 0 :: I vn2 :: bt 7 [], [(80000, .pbox (σ 80000) [.sl (c1.1.map c5), Ti c1.2.1, .v (.int .u64 c1.2.2)])]⟩) ?_
  obtain ⟨y3, hy3, h⟩ := of_bind h
  refine V_sreg (mb 9 16) [80000] (s1 := ⟨bt 4 (Bo (eqI y3.1 0) :: bt 4 []), [(80000, .pbox (σ 80000) [.sl (y3.2.1.map c5), Ti y3.2.2.1, .v (.int .u64 y3.2.2.2)])]⟩) ?_ ?_
  ·refine XR 2 ?_
   refine XL_cons rfl (X_callR (E' := [(80000, .pbox (σ 80000) [.sl (y3.2.1.map c5), Ti y3.2.2.1, .v (.int .u64 y3.2.2.2)])]) [(80000, 80000)] 7 (s_spec_l1Cur_pick hy3) cf_spec_l1Cur_pick rfl rfl (by kernel_rfl) rfl (mE_cons (by kernel_rfl) mE_nil) rfl (by kernel_rfl) rfl rfl (by kernel_rfl)) ?_
   exact XE
  refine V_ret ?_
  obtain rfl := some_inj h
  show PostR _ _ _ _ _ _
  exact ⟨⟨.inr rfl, rfl, rfl, rfl⟩, ⟨rfl, trivial⟩⟩
theorem cf_spec_l1In : ∀ args w, (callFunc 125 args).run Try.prog w = .ok (.enter 125 args) w := run_callFunc Try.func125 (by kernel_rfl) (by kernel_rfl)
theorem s_spec_l1In {vn1 : Int} {lo2 : Int} {hi3 : Int} {r : Bool} (h : r_spec_l1In vn1 lo2 hi3 = some r) : CallS Try.prog 125 [I vn1, I lo2, I hi3] (Bo r) [] := by
  refine CallS_of_text (rs := [.t 6]) (vs := [.tmp 6]) Try.func125 rfl rfl (.cons rfl FitsL.nil) (by decide) 15 rfl ?_
  unfold r_spec_l1In at h
  show V _ _ ⟨I vn1 :: I lo2 :: I hi3 :: bt 12 [], []⟩ _
  refine V_e (mb 15 7) [] (s1 := ⟨I vn1 :: I lo2 :: I hi3 :: bt 12 [], []⟩) ?_
  refine V_sreg (mb 15 64) [] (s1 := ⟨bt 6 (Bo (bif (leI lo2 vn1) then (leI vn1 hi3) else false) :: bt 8 []), []⟩) ?_ ?_
  ·refine XR 4 ?_
   refine XL_split (leI lo2 vn1) (fun hc4 => ?_) (fun hc4 => ?_)
   ·refine XL_takeC _ rfl rfl (by kernel_rfl) hc4 (X_of_Y0 rfl (E_move (I vn1) rfl (by kernel_rfl))) ?_
    refine XL_takeC _ rfl rfl (by kernel_rfl) hc4 (X_of_Y0 rfl (E_move (I hi3) rfl (by kernel_rfl))) ?_
    refine XL_takeC _ rfl rfl (by kernel_rfl) hc4 (X_of_Y0 rfl (Y0_lew (k := .i64) (a := vn1) (b := hi3) rfl (by kernel_rfl) (by kernel_rfl))) ?_
    refine XL_cons rfl (X_of_Y0 rfl (Y0_pick1 (b := leI lo2 vn1) (p := leI vn1 hi3) (q := false) rfl (by kernel_rfl) hc4 (by kernel_rfl))) ?_
    exact XE
   ·refine XL_skipT _ rfl rfl (by kernel_rfl) hc4 rfl ?_
    refine XL_skipT _ rfl rfl (by kernel_rfl) hc4 rfl ?_
    refine XL_skipT _ rfl rfl (by kernel_rfl) hc4 rfl ?_
    refine XL_cons rfl (X_of_Y0 rfl (Y0_pick0 (b := leI lo2 vn1) (p := leI vn1 hi3) (q := false) rfl (by kernel_rfl) hc4 (by kernel_rfl))) ?_
    exact XE
  refine V_ret ?_
  obtain rfl := some_inj h
  show Post _ _ _ _ _
  exact ⟨.inr rfl, rfl, rfl, rfl⟩
theorem cf_spec_reDisc : ∀ args w, (callFunc 102 args).run Try.prog w = .ok (.enter 102 args) w := run_callFunc Try.func102 (by kernel_rfl) (by kernel_rfl)
theorem s_spec_reDisc {d1 : Int} {r : Bool} (h : r_spec_reDisc d1 = some r) : CallS Try.prog 102 [I d1] (Bo r) [] := by
  refine CallS_of_text (rs := [.t 2]) (vs := [.tmp 2]) Try.func102 rfl rfl (.cons rfl FitsL.nil) (by decide) 10 rfl ?_
  unfold r_spec_reDisc at h
  show V _ _ ⟨I d1 :: bt 9 [], []⟩ _
  refine V_e (mb 10 1) [] (s1 := ⟨I d1 :: bt 9 [], []⟩) ?_
  obtain ⟨y2, hy2, h⟩ := of_bind h
  obtain ⟨b5, hb5, h⟩ := of_bind h
  refine V_sreg (mb 10 4) [] (s1 := ⟨.bot :: .bot :: Bo b5 :: bt 7 [], []⟩) ?_ ?_
  ·refine XR 1 ?_
   refine XC (s_spec_l1In hy2) cf_spec_l1In rfl rfl rfl ?_
   refine XR 1 ?_
   refine XL_split y2 (fun hc3 => ?_) (fun hc3 => ?_)
   ·have hb5 := of_true hb5 hc3
    obtain ⟨y4, hy4, hb5⟩ := of_bind hb5
    have hb5 := some_inj hb5
    refine XL_takeC _ rfl rfl (by kernel_rfl) hc3 (X_of_Y0 rfl (E_move (I d1) rfl (by kernel_rfl))) ?_
    refine XL_takeC _ rfl rfl (by kernel_rfl) hc3 (X_of_Y1 rfl (Y1_call (s_spec_nuMod hy4) cf_spec_nuMod rfl (by kernel_rfl))) ?_
    refine XL_takeC _ rfl rfl (by kernel_rfl) hc3 (X_of_Y0 rfl (Y0_ltw (k := .i64) (a := y4) (b := 2) rfl (by kernel_rfl) (by kernel_rfl))) ?_
    refine XL_cons rfl (X_of_Y0 rfl (Y0_pickTe (b := y2) (p := ltI y4 2) rfl (by kernel_rfl) hc3 (by kernel_rfl) hb5)) ?_
    exact XE
   ·have hb5 := some_inj (of_false hb5 hc3)
    refine XL_skipT _ rfl rfl (by kernel_rfl) hc3 rfl ?_
    refine XL_skipT _ rfl rfl (by kernel_rfl) hc3 rfl ?_
    refine XL_skipT _ rfl rfl (by kernel_rfl) hc3 rfl ?_
    refine XL_cons rfl (X_of_Y0 rfl (Y0_pickFe (b := y2) (p := false) rfl (by kernel_rfl) hc3 (by kernel_rfl) hb5)) ?_
    exact XE
  refine V_ret ?_
  obtain rfl := some_inj h
  show Post _ _ _ _ _
  exact ⟨.inr rfl, rfl, rfl, rfl⟩
theorem cf_spec_l1Abs : ∀ args w, (callFunc 128 args).run Try.prog w = .ok (.enter 128 args) w := run_callFunc Try.func128 (by kernel_rfl) (by kernel_rfl)
theorem s_spec_l1Abs {vn1 : Int} {r : Int} (h : r_spec_l1Abs vn1 = some r) : CallS Try.prog 128 [I vn1] (I r) [] := by
  refine CallS_of_text (rs := [.t 2]) (vs := [.tmp 2]) Try.func128 rfl rfl (.cons rfl FitsL.nil) (by decide) 7 rfl ?_
  unfold r_spec_l1Abs at h
  show V _ _ ⟨I vn1 :: bt 6 [], []⟩ _
  refine V_e (mb 7 1) [] (s1 := ⟨I vn1 :: bt 6 [], []⟩) ?_
  obtain ⟨y2, hy2, h⟩ := of_bind h
  refine V_sreg (mb 7 4) [] (s1 := ⟨.bot :: .bot :: I y2 :: bt 4 [], []⟩) ?_ ?_
  ·refine XR 3 ?_
   refine XC (s_spec_l1Most hy2) cf_spec_l1Most rfl rfl rfl ?_
   exact XE
  refine V_ret ?_
  obtain rfl := some_inj h
  show Post _ _ _ _ _
  exact ⟨.inr rfl, rfl, rfl, rfl⟩
theorem cf_spec_nuGcd : ∀ args w, (callFunc 61 args).run Try.prog w = .ok (.enter 61 args) w := run_callFunc Try.func61 (by kernel_rfl) (by kernel_rfl)
theorem s_spec_nuGcd {a1 : Int} {b2 : Int} {r : Int} (h : r_spec_nuGcd a1 b2 = some r) : CallS Try.prog 61 [I a1, I b2] (I r) [] := by
  refine CallS_of_text (rs := [.t 4]) (vs := [.tmp 4]) Try.func61 rfl rfl (.cons rfl FitsL.nil) (by decide) 16 rfl ?_
  unfold r_spec_nuGcd at h
  show V _ _ ⟨I a1 :: I b2 :: bt 14 [], []⟩ _
  refine V_e (mb 16 3) [] (s1 := ⟨I a1 :: I b2 :: bt 14 [], []⟩) ?_
  obtain ⟨y3, hy3, h⟩ := of_bind h
  obtain ⟨y4, hy4, h⟩ := of_bind h
  refine V_sreg (mb 16 3) [] (s1 := ⟨I y3 :: I y4 :: bt 14 [], []⟩) ?_ ?_
  ·refine XR 1 ?_
   refine XC (s_spec_l1Abs hy3) cf_spec_l1Abs rfl rfl rfl ?_
   refine XR 1 ?_
   refine XC (s_spec_l1Abs hy4) cf_spec_l1Abs rfl rfl rfl ?_
   exact XE
  refine V_seq ?_
  obtain ⟨o8, hLo8, h⟩ := of_bind h
  refine V_toK (mb 16 1) [] (s1 := ⟨I o8 :: bt 15 [], []⟩) ?_ ?_
  ·clear h
   refine V_block (V_loop (fun n s => ∃ (a5 : Int) (b6 : Int), s.keep (mb 16 3) [] = (⟨I a5 :: I b6 :: bt 14 [], []⟩ : St) ∧ r_spec_nuGcd_L7 n a5 b6 = some o8) FU ⟨_, _,  by rfl, hLo8⟩ ?_)
   clear hLo8
   rintro n s ⟨a5, b6, hs, h⟩
   refine V_keep _ _ hs ?_
   clear hs
   cases n with
   | zero => cases h
   | succ n =>
    rw [r_spec_nuGcd_L7] at h
    refine V_seq ?_
    refine V_e (mb 16 1027) [] (s1 := ⟨I a5 :: I b6 :: bt 8 (Bo (!eqI b6 0) :: bt 5 []), []⟩) ?_
    refine V_cond rfl (fun hc9 => ?_) (fun hc9 => ?_)
    ·have h := of_true h hc9
     refine V_skip ?_
     show V _ _ _ _
     refine V_block ?_
     obtain ⟨z10, hz10, h⟩ := of_bind h
     obtain ⟨b11, hb11, h⟩ := of_sI h
     refine V_dreg [0, 0, 0, 6, 3, 31] 6 (cdm 6 [168, 34, 522, 534, 165, 341]) (mb 16 3) [] (s1 := ⟨I b6 :: I b11 :: bt 14 [], []⟩) (by kernel_rfl) (by kernel_rfl) ?_ ?_
     ·refine DR 3 ?_
      refine DE_0 3 (I (Int.tmod a5 b6)) (by kernel_rfl) rfl rfl rfl (gsat_none rfl) (by kernel_rfl) (Y0_rem (k := .i64) (a := a5) (b := b6) rfl (by kernel_rfl) (by kernel_rfl) (nz_some hz10)) 14 rfl ?_
      refine DA 2 ?_
      refine XL_nil ?_
      subst hb11
      kernel_rfl
     exact ⟨n, Nat.lt_succ_self n, _, _,  by rfl, h⟩
    ·have h := of_false h hc9
     refine V_exit ?_
     obtain rfl := some_inj h
     show St.keep _ _ _ = _
     rfl
  show V _ _ _ _
  refine V_e (mb 16 16) [] (s1 := ⟨bt 4 (I o8 :: bt 11 []), []⟩) ?_
  refine V_ret ?_
  obtain rfl := some_inj h
  show Post _ _ _ _ _
  exact ⟨.inr rfl, rfl, rfl, rfl⟩
theorem cf_spec_lvRoots : ∀ args w, (callFunc 104 args).run Try.prog w = .ok (.enter 104 args) w := run_callFunc Try.func104 (by kernel_rfl) (by kernel_rfl)
theorem s_spec_lvRoots {d1 : Int} {vn2 : Int} {r : List Int} (h : r_spec_lvRoots d1 vn2 = some r) : CallS Try.prog 104 [I d1, I vn2] (.ow 0) [(0, .arr 3 1 (r.map c3))] := by
  refine CallS_of_text (rs := [.t 4]) (vs := [.tmp 4]) Try.func104 rfl rfl (.cons rfl FitsL.nil) (by decide) 27 rfl ?_
  unfold r_spec_lvRoots at h
  show V _ _ ⟨I d1 :: I vn2 :: bt 25 [], []⟩ _
  refine V_sreg (mb 27 3) [] (s1 := ⟨I d1 :: I vn2 :: bt 25 [], []⟩) ?_ ?_
  ·refine L1 rfl rfl (Y1_nil (e := 3) 1 (by decide) (.inl rfl)) ?_
   exact XE
  refine V_sreg (mb 27 35) [40] (s1 := ⟨I d1 :: I vn2 :: bt 3 (.ow 40 :: bt 21 []), [(40, .arr 3 1 ((([] : List Int)).map c3))]⟩) ?_ ?_
  ·refine L1 rfl rfl (Y1_nil (e := 3) 1 (by decide) (.inl rfl)) ?_
   exact XE
  refine V_seq ?_
  refine V_e (mb 27 99) [40] (s1 := ⟨I d1 :: I vn2 :: bt 3 (.ow 40 :: I 0 :: bt 20 []), [(40, .arr 3 1 ((([] : List Int)).map c3))]⟩) ?_
  obtain ⟨o6, hLo6, h⟩ := of_bind h
  refine V_toK (mb 27 32) [40] (s1 := ⟨bt 5 (.ow 40 :: bt 21 []), [(40, .arr 3 1 (o6.map c3))]⟩) ?_ ?_
  ·clear h
   refine V_block (V_loop (fun n s => ∃ (vr3 : Int) (l4 : List Int), s.keep (mb 27 99) [40] = (⟨I d1 :: I vn2 :: bt 3 (.ow 40 :: I vr3 :: bt 20 []), [(40, .arr 3 1 (l4.map c3))]⟩ : St) ∧ r_spec_lvRoots_L5 d1 vn2 n vr3 l4 = some o6) FU ⟨_, _,  by rfl, hLo6⟩ ?_)
   clear hLo6
   rintro n s ⟨vr3, l4, hs, h⟩
   refine V_keep _ _ hs ?_
   clear hs
   cases n with
   | zero => cases h
   | succ n =>
    rw [r_spec_lvRoots_L5] at h
    refine V_seq ?_
    refine V_e (mb 27 1123) [40] (s1 := ⟨I d1 :: I vn2 :: bt 3 (.ow 40 :: I vr3 :: bt 3 (Bo (ltI vr3 (w64 (2 * vn2))) :: bt 16 [])), [(40, .arr 3 1 (l4.map c3))]⟩) ?_
    refine V_cond rfl (fun hc7 => ?_) (fun hc7 => ?_)
    ·have h := of_true h hc7
     refine V_skip ?_
     show V _ _ _ _
     refine V_seq ?_
     refine V_block ?_
     obtain ⟨z8, hz8, h⟩ := of_bind h
     obtain ⟨t9, ht9, h⟩ := of_bind h
     have ht9 := some_inj ht9
     refine V_sreg (mb 27 2097251) [40] (s1 := ⟨I d1 :: I vn2 :: bt 3 (.ow 40 :: I vr3 :: bt 14 (Bo t9 :: bt 5 [])), [(40, .arr 3 1 (l4.map c3))]⟩) ?_ ?_
     ·refine XR 7 ?_
      refine L0 rfl rfl (Y0_rem (k := .i64) (a := w64 ((w64 (vr3 * vr3)) - d1)) (b := w64 (4 * vn2)) rfl (by kernel_rfl) (by kernel_rfl) (nz_some hz8)) ?_
      refine XR 1 ?_
      refine XL_nil ?_
      subst ht9
      kernel_rfl
     refine V_cond rfl (fun hc10 => ?_) (fun hc10 => ?_)
     ·have h := of_true h hc10
      obtain ⟨u11, hu11, h⟩ := of_bind h
      refine V_reg (mb 27 99) [40] (s1 := ⟨I d1 :: I vn2 :: bt 3 (.ow 40 :: I vr3 :: bt 20 []), [(40, .arr 3 1 ((l4 ++ ([vr3])).map c3))]⟩) ?_ ?_
      ·refine XR 2 ?_
       refine L1 rfl rfl (Y1_bslice (z := zv3) (els := [vr3].map c3) Try.underlying41 iz3 rfl (by decide) rfl (by kernel_rfl) rfl (by simp [c3]) (by decide) (by decide)) ?_
       refine XL_cons rfl (X_appendM (c := c3) (xs := l4) (ys := [vr3]) (id := 40) (z := zv3) rfl rfl Try.underlying41 izb3 rfl (by kernel_rfl) (by kernel_rfl) (by kernel_rfl) (fun _ => rfl) (by simp) (room_some hu11) (by decide)) ?_
       exact XE
      show V _ _ _ _
      obtain ⟨vr12, hvr12, h⟩ := of_sI h
      refine V_reg (mb 27 99) [40] (s1 := ⟨I d1 :: I vn2 :: bt 3 (.ow 40 :: I vr12 :: bt 20 []), [(40, .arr 3 1 ((l4 ++ ([vr3])).map c3))]⟩) ?_ ?_
      ·refine XR 3 ?_
       refine XL_nil ?_
       subst hvr12
       kernel_rfl
      exact ⟨n, Nat.lt_succ_self n, _, _,  by rfl, h⟩
     ·have h := of_false h hc10
      refine V_skip ?_
      show V _ _ _ _
      obtain ⟨vr13, hvr13, h⟩ := of_sI h
      refine V_reg (mb 27 99) [40] (s1 := ⟨I d1 :: I vn2 :: bt 3 (.ow 40 :: I vr13 :: bt 20 []), [(40, .arr 3 1 (l4.map c3))]⟩) ?_ ?_
      ·refine XR 3 ?_
       refine XL_nil ?_
       subst hvr13
       kernel_rfl
      exact ⟨n, Nat.lt_succ_self n, _, _,  by rfl, h⟩
    ·have h := of_false h hc7
     refine V_exit ?_
     obtain rfl := some_inj h
     show St.keep _ _ _ = _
     rfl
  show V _ _ _ _
  refine V_e (mb 27 16) [40] (s1 := ⟨bt 4 (.ow 40 :: bt 22 []), [(40, .arr 3 1 (o6.map c3))]⟩) ?_
  refine V_ret ?_
  obtain rfl := some_inj h
  show Post _ _ _ _ _
  exact ⟨.inr rfl, rfl, rfl, rfl⟩
theorem cf_spec_l1Cur_level : ∀ args w, (callFunc 158 args).run Try.prog w = .ok (.enter 158 args) w := run_callFunc Try.func158 (by kernel_rfl) (by kernel_rfl)
theorem s_spec_l1Cur_level {c1 : ((List Int) × Int × Int)} {d2 : Int} {r : (Int × (((List Int) × Int × Int)))} (h : r_spec_l1Cur_level c1 d2 = some r) : CallR Try.prog 158 [.pt 80000 0, I d2] [(80000, .box [.sl (c1.1.map c5), Ti c1.2.1, .v (.int .u64 c1.2.2)])] (I r.1) [] [(80000, .box [.sl (r.2.1.map c5), Ti r.2.2.1, .v (.int .u64 r.2.2.2)])] := by
  refine CallR_of_text (rs := [.t 4]) (vs := [.tmp 4]) Try.func158 rfl rfl (.cons rfl FitsL.nil) (by decide) 48 rfl rfl fun σ => ?_
  unfold r_spec_l1Cur_level at h
  show V _ _ ⟨.pt 80000 0 :: I d2 :: bt 46 [], [(80000, .pbox (σ 80000) [.sl (c1.1.map c5), Ti c1.2.1, .v (.int .u64 c1.2.2)])]⟩ _
  refine V_e (mb 48 3) [80000] (s1 := ⟨.pt 80000 0 :: I d2 :: bt 46 [], [(80000, .pbox (σ 80000) [.sl (c1.1.map c5), Ti c1.2.1, .v (.int .u64 c1.2.2)])]⟩) ?_
  refine V_seq ?_
  obtain ⟨y3, hy3, h⟩ := of_bind h
  obtain ⟨b6, hb6, h⟩ := of_bind h
  refine V_sreg (mb 48 8195) [80000] (s1 := ⟨.pt 80000 0 :: I d2 :: bt 11 (Bo b6 :: bt 34 []), [(80000, .pbox (σ 80000) [.sl (y3.2.1.map c5), Ti y3.2.2.1, .v (.int .u64 y3.2.2.2)])]⟩) ?_ ?_
  ·refine XR 1 ?_
   refine XL_cons rfl (X_callR (E' := [(80000, .pbox (σ 80000) [.sl (y3.2.1.map c5), Ti y3.2.2.1, .v (.int .u64 y3.2.2.2)])]) [(80000, 80000)] 8 (s_spec_l1Cur_one hy3) cf_spec_l1Cur_one rfl rfl (by kernel_rfl) rfl (mE_cons (by kernel_rfl) mE_nil) rfl (by kernel_rfl) rfl rfl (by kernel_rfl)) ?_
   refine XR 1 ?_
   refine XL_split y3.1 (fun hc4 => ?_) (fun hc4 => ?_)
   ·have hb6 := some_inj (of_true hb6 hc4)
    refine XL_skipF _ rfl rfl (by kernel_rfl) hc4 rfl ?_
    refine XL_skipF _ rfl rfl (by kernel_rfl) hc4 rfl ?_
    refine XL_skipF _ rfl rfl (by kernel_rfl) hc4 rfl ?_
    refine XL_cons rfl (X_of_Y0 rfl (Y0_pickTe (b := y3.1) (p := true) rfl (by kernel_rfl) hc4 (by kernel_rfl) hb6)) ?_
    exact XE
   ·have hb6 := of_false hb6 hc4
    obtain ⟨y5, hy5, hb6⟩ := of_bind hb6
    have hb6 := some_inj hb6
    refine XL_takeC _ rfl rfl (by kernel_rfl) hc4 (X_of_Y0 rfl (E_move (I d2) rfl (by kernel_rfl))) ?_
    refine XL_takeC _ rfl rfl (by kernel_rfl) hc4 (X_of_Y1 rfl (Y1_call (s_spec_reDisc hy5) cf_spec_reDisc rfl (by kernel_rfl))) ?_
    refine XL_takeC _ rfl rfl (by kernel_rfl) hc4 (X_of_Y0 rfl (Y0_not (b := y5) rfl (by kernel_rfl))) ?_
    refine XL_cons rfl (X_of_Y0 rfl (Y0_pickFe (b := y3.1) (p := !y5) rfl (by kernel_rfl) hc4 (by kernel_rfl) hb6)) ?_
    exact XE
  refine V_cond rfl (fun hc7 => ?_) (fun hc7 => ?_)
  ·have h := of_true h hc7
   obtain ⟨y8, hy8, h⟩ := of_bind h
   refine V_sreg (mb 48 16) [80000] (s1 := ⟨bt 4 (I y8.1 :: bt 43 []), [(80000, .pbox (σ 80000) [.sl (y8.2.1.map c5), Ti y8.2.2.1, .v (.int .u64 y8.2.2.2)])]⟩) ?_ ?_
   ·refine XR 1 ?_
    refine L1 rfl rfl (Y1_bslice (z := zv3) (els := [0, 1, 30, 31, -1, 2, 4611686018427387904].map c3) Try.underlying41 iz3 rfl (by decide) rfl (by kernel_rfl) rfl (by simp [c3]) (by decide) (by decide)) ?_
    refine XL_freeze 120 (T := 3) (sz := 1) (els := ([0, 1, 30, 31, -1, 2, 4611686018427387904]).map c3) (s1 := ⟨.pt 80000 0 :: I d2 :: bt 11 (Bo b6 :: .pt 80000 0 :: .c (.sl (([0, 1, 30, 31, -1, 2, 4611686018427387904]).map c3)) :: bt 32 []), [(80000, .pbox (σ 80000) [.sl (y3.2.1.map c5), Ti y3.2.2.1, .v (.int .u64 y3.2.2.2)])]⟩) (by kernel_rfl) (by kernel_rfl) ?_
    refine XL_cons rfl (X_callR (E' := [(80000, .pbox (σ 80000) [.sl (y8.2.1.map c5), Ti y8.2.2.1, .v (.int .u64 y8.2.2.2)])]) [(80000, 80000)] 16 (s_spec_l1Cur_among hy8) cf_spec_l1Cur_among rfl rfl (by kernel_rfl) rfl (mE_cons (by kernel_rfl) mE_nil) rfl (by kernel_rfl) rfl rfl (by kernel_rfl)) ?_
    exact XE
   refine V_ret ?_
   obtain rfl := some_inj h
   show PostR _ _ _ _ _ _
   exact ⟨⟨.inr rfl, rfl, rfl, rfl⟩, ⟨rfl, trivial⟩⟩
  ·have h := of_false h hc7
   refine V_skip ?_
   show V _ _ _ _
   obtain ⟨y9, hy9, h⟩ := of_bind h
   obtain ⟨vn10, hvn10, h⟩ := of_sI h
   refine V_sreg (mb 48 35) [80000] (s1 := ⟨.pt 80000 0 :: I d2 :: bt 3 (I vn10 :: bt 42 []), [(80000, .pbox (σ 80000) [.sl (y9.2.1.map c5), Ti y9.2.2.1, .v (.int .u64 y9.2.2.2)])]⟩) ?_ ?_
   ·refine XR 1 ?_
    refine XL_cons rfl (X_callR (E' := [(80000, .pbox (σ 80000) [.sl (y9.2.1.map c5), Ti y9.2.2.1, .v (.int .u64 y9.2.2.2)])]) [(80000, 80000)] 18 (s_spec_l1Cur_pick hy9) cf_spec_l1Cur_pick rfl rfl (by kernel_rfl) rfl (mE_cons (by kernel_rfl) mE_nil) rfl (by kernel_rfl) rfl rfl (by kernel_rfl)) ?_
    refine XR 2 ?_
    refine XL_nil ?_
    subst hvn10
    kernel_rfl
   refine V_seq ?_
   refine V_e (mb 48 99) [80000] (s1 := ⟨.pt 80000 0 :: I d2 :: bt 3 (I vn10 :: I 0 :: bt 41 []), [(80000, .pbox (σ 80000) [.sl (y9.2.1.map c5), Ti y9.2.2.1, .v (.int .u64 y9.2.2.2)])]⟩) ?_
   obtain ⟨o14, hLo14, h⟩ := of_bind h
   refine V_toK (mb 48 33) [80000] (s1 := ⟨.pt 80000 0 :: bt 4 (I o14 :: bt 42 []), [(80000, .pbox (σ 80000) [.sl (y9.2.1.map c5), Ti y9.2.2.1, .v (.int .u64 y9.2.2.2)])]⟩) ?_ ?_
   ·clear h
    refine V_block (V_loop (fun n s => ∃ (vn11 : Int) (k12 : Int), s.keep (mb 48 99) [80000] = (⟨.pt 80000 0 :: I d2 :: bt 3 (I vn11 :: I k12 :: bt 41 []), [(80000, .pbox (σ 80000) [.sl (y9.2.1.map c5), Ti y9.2.2.1, .v (.int .u64 y9.2.2.2)])]⟩ : St) ∧ r_spec_l1Cur_level_L13 d2 y9 n vn11 k12 = some o14) FU ⟨_, _,  by rfl, hLo14⟩ ?_)
    clear hLo14
    rintro n s ⟨vn11, k12, hs, h⟩
    refine V_keep _ _ hs ?_
    clear hs
    cases n with
    | zero => cases h
    | succ n =>
     rw [r_spec_l1Cur_level_L13] at h
     refine V_seq ?_
     obtain ⟨b20, hb20, h⟩ := of_bind h
     refine V_sreg (mb 48 17179869283) [80000] (s1 := ⟨.pt 80000 0 :: I d2 :: bt 3 (I vn11 :: I k12 :: bt 27 (Bo b20 :: bt 13 [])), [(80000, .pbox (σ 80000) [.sl (y9.2.1.map c5), Ti y9.2.2.1, .v (.int .u64 y9.2.2.2)])]⟩) ?_ ?_
     ·refine XR 3 ?_
      refine XL_split (ltI k12 60) (fun hc15 => ?_) (fun hc15 => ?_)
      ·have hb20 := of_true hb20 hc15
       obtain ⟨y16, hy16, hb20⟩ := of_bind hb20
       obtain ⟨b19, hb19, hb20⟩ := of_bind hb20
       have hb20 := some_inj hb20
       refine XL_takeC _ rfl rfl (by kernel_rfl) hc15 (X_of_Y0 rfl (E_move (I vn11) rfl (by kernel_rfl))) ?_
       refine XL_takeC _ rfl rfl (by kernel_rfl) hc15 (X_of_Y0 rfl (E_move (I d2) rfl (by kernel_rfl))) ?_
       refine XL_takeC _ rfl rfl (by kernel_rfl) hc15 (X_of_Y1 rfl (Y1_call (s_spec_nuGcd hy16) cf_spec_nuGcd rfl (by kernel_rfl))) ?_
       refine XL_takeC _ rfl rfl (by kernel_rfl) hc15 (X_of_Y0 rfl (Y0_gtw (k := .i64) (a := y16) (b := 1) rfl (by kernel_rfl) (by kernel_rfl))) ?_
       refine XL_takeC _ rfl rfl (by kernel_rfl) hc15 (X_of_Y0 rfl (E_move (Bo (ltI 1 y16)) rfl (by kernel_rfl))) ?_
       refine XL_split (ltI 1 y16) (fun hc17 => ?_) (fun hc17 => ?_)
       ·have hb19 := some_inj (of_true hb19 hc17)
        refine XL_skipF _ rfl rfl (by kernel_rfl) hc17 rfl ?_
        refine XL_skipF _ rfl rfl (by kernel_rfl) hc17 rfl ?_
        refine XL_skipF _ rfl rfl (by kernel_rfl) hc17 rfl ?_
        refine XL_skipF _ rfl rfl (by kernel_rfl) hc17 rfl ?_
        refine XL_skipF _ rfl rfl (by kernel_rfl) hc17 rfl ?_
        refine XL_takeC _ rfl rfl (by kernel_rfl) hc15 (X_of_Y0 rfl (Y0_pickTe (b := ltI 1 y16) (p := true) rfl (by kernel_rfl) hc17 (by kernel_rfl) hb19)) ?_
        refine XL_cons rfl (X_of_Y0 rfl (Y0_pickTe (b := ltI k12 60) (p := b19) rfl (by kernel_rfl) hc15 (by kernel_rfl) hb20)) ?_
        exact XE
       ·have hb19 := of_false hb19 hc17
        obtain ⟨y18, hy18, hb19⟩ := of_bind hb19
        have hb19 := some_inj hb19
        refine XL_takeC _ rfl rfl (by kernel_rfl) hc17 (X_of_Y0 rfl (E_move (I d2) rfl (by kernel_rfl))) ?_
        refine XL_takeC _ rfl rfl (by kernel_rfl) hc17 (X_of_Y0 rfl (E_move (I vn11) rfl (by kernel_rfl))) ?_
        refine XL_takeC _ rfl rfl (by kernel_rfl) hc17 (X_of_Y1 rfl (Y1_call (s_spec_lvRoots hy18) cf_spec_lvRoots rfl (by kernel_rfl))) ?_
        refine XL_takeC _ rfl rfl (by kernel_rfl) hc17 (X_of_Y0 rfl (Y0_lenM (c := c3) (xs := y18) Try.underlying41 rfl (by kernel_rfl))) ?_
        refine XL_takeC _ rfl rfl (by kernel_rfl) hc17 (X_of_Y0 rfl (Y0_eqw (k := .i64) (a := (y18.length : Int)) (b := 0) rfl (by kernel_rfl) (by kernel_rfl))) ?_
        refine XL_takeC _ rfl rfl (by kernel_rfl) hc15 (X_of_Y0 rfl (Y0_pickFe (b := ltI 1 y16) (p := eqI ((y18.length : Int)) 0) rfl (by kernel_rfl) hc17 (by kernel_rfl) hb19)) ?_
        refine XL_cons rfl (X_of_Y0 rfl (Y0_pickTe (b := ltI k12 60) (p := b19) rfl (by kernel_rfl) hc15 (by kernel_rfl) hb20)) ?_
        exact XE
      ·have hb20 := some_inj (of_false hb20 hc15)
       refine XL_skipT _ rfl rfl (by kernel_rfl) hc15 rfl ?_
       refine XL_skipT _ rfl rfl (by kernel_rfl) hc15 rfl ?_
       refine XL_skipT _ rfl rfl (by kernel_rfl) hc15 rfl ?_
       refine XL_skipT _ rfl rfl (by kernel_rfl) hc15 rfl ?_
       refine XL_skipT _ rfl rfl (by kernel_rfl) hc15 rfl ?_
       refine XL_skip2 rfl rfl (by kernel_rfl) rfl ?_
       refine XL_skip2 rfl rfl (by kernel_rfl) rfl ?_
       refine XL_skip2 rfl rfl (by kernel_rfl) rfl ?_
       refine XL_skip2 rfl rfl (by kernel_rfl) rfl ?_
       refine XL_skip2 rfl rfl (by kernel_rfl) rfl ?_
       refine XL_skipT _ rfl rfl (by kernel_rfl) hc15 rfl ?_
       refine XL_cons rfl (X_of_Y0 rfl (Y0_pickFe (b := ltI k12 60) (p := false) rfl (by kernel_rfl) hc15 (by kernel_rfl) hb20)) ?_
       exact XE
     refine V_cond rfl (fun hc21 => ?_) (fun hc21 => ?_)
     ·have h := of_true h hc21
      refine V_skip ?_
      show V _ _ _ _
      refine V_seq ?_
      refine V_block ?_
      obtain ⟨vn22, hvn22, h⟩ := of_sI h
      refine V_sreg (mb 48 99) [80000] (s1 := ⟨.pt 80000 0 :: I d2 :: bt 3 (I vn22 :: I k12 :: bt 41 []), [(80000, .pbox (σ 80000) [.sl (y9.2.1.map c5), Ti y9.2.2.1, .v (.int .u64 y9.2.2.2)])]⟩) ?_ ?_
      ·refine XR 1 ?_
       refine L0 rfl rfl (Y0_rem (k := .i64) (a := vn11) (b := 30) rfl (by kernel_rfl) (by kernel_rfl) (by decide)) ?_
       refine XR 2 ?_
       refine XL_nil ?_
       subst hvn22
       kernel_rfl
      refine V_e (mb 48 2199023255651) [80000] (s1 := ⟨.pt 80000 0 :: I d2 :: bt 3 (I vn22 :: I k12 :: bt 34 (Bo (ltI 30 k12) :: bt 6 [])), [(80000, .pbox (σ 80000) [.sl (y9.2.1.map c5), Ti y9.2.2.1, .v (.int .u64 y9.2.2.2)])]⟩) ?_
      refine V_cond rfl (fun hc23 => ?_) (fun hc23 => ?_)
      ·have h := of_true h hc23
       refine V_reg (mb 48 99) [80000] (s1 := ⟨.pt 80000 0 :: I d2 :: bt 3 (I 1 :: I k12 :: bt 41 []), [(80000, .pbox (σ 80000) [.sl (y9.2.1.map c5), Ti y9.2.2.1, .v (.int .u64 y9.2.2.2)])]⟩) ?_ ?_
       ·exact XE
       show V _ _ _ _
       obtain ⟨k24, hk24, h⟩ := of_sI h
       refine V_reg (mb 48 99) [80000] (s1 := ⟨.pt 80000 0 :: I d2 :: bt 3 (I 1 :: I k24 :: bt 41 []), [(80000, .pbox (σ 80000) [.sl (y9.2.1.map c5), Ti y9.2.2.1, .v (.int .u64 y9.2.2.2)])]⟩) ?_ ?_
       ·refine XR 3 ?_
        refine XL_nil ?_
        subst hk24
        kernel_rfl
       exact ⟨n, Nat.lt_succ_self n, _, _,  by rfl, h⟩
      ·have h := of_false h hc23
       refine V_skip ?_
       show V _ _ _ _
       obtain ⟨k25, hk25, h⟩ := of_sI h
       refine V_reg (mb 48 99) [80000] (s1 := ⟨.pt 80000 0 :: I d2 :: bt 3 (I vn22 :: I k25 :: bt 41 []), [(80000, .pbox (σ 80000) [.sl (y9.2.1.map c5), Ti y9.2.2.1, .v (.int .u64 y9.2.2.2)])]⟩) ?_ ?_
       ·refine XR 3 ?_
        refine XL_nil ?_
        subst hk25
        kernel_rfl
       exact ⟨n, Nat.lt_succ_self n, _, _,  by rfl, h⟩
     ·have h := of_false h hc21
      refine V_exit ?_
      obtain rfl := some_inj h
      show St.keep _ _ _ = _
      rfl
   show V _ _ _ _
   refine V_seq ?_
   obtain ⟨y26, hy26, h⟩ := of_bind h
   refine V_sreg (mb 48 8796093022241) [80000] (s1 := ⟨.pt 80000 0 :: bt 4 (I o14 :: bt 37 (Bo y26.1 :: bt 4 [])), [(80000, .pbox (σ 80000) [.sl (y26.2.1.map c5), Ti y26.2.2.1, .v (.int .u64 y26.2.2.2)])]⟩) ?_ ?_
   ·refine XR 1 ?_
    refine XL_cons rfl (X_callR (E' := [(80000, .pbox (σ 80000) [.sl (y26.2.1.map c5), Ti y26.2.2.1, .v (.int .u64 y26.2.2.2)])]) [(80000, 80000)] 43 (s_spec_l1Cur_one hy26) cf_spec_l1Cur_one rfl rfl (by kernel_rfl) rfl (mE_cons (by kernel_rfl) mE_nil) rfl (by kernel_rfl) rfl rfl (by kernel_rfl)) ?_
    exact XE
   refine V_cond rfl (fun hc27 => ?_) (fun hc27 => ?_)
   ·have h := of_true h hc27
    obtain ⟨y28, hy28, h⟩ := of_bind h
    obtain ⟨t29, ht29, h⟩ := of_sI h
    refine V_sreg (mb 48 16) [80000] (s1 := ⟨bt 4 (I t29 :: bt 43 []), [(80000, .pbox (σ 80000) [.sl (y28.2.1.map c5), Ti y28.2.2.1, .v (.int .u64 y28.2.2.2)])]⟩) ?_ ?_
    ·refine XR 1 ?_
     refine XL_cons rfl (X_callR (E' := [(80000, .pbox (σ 80000) [.sl (y28.2.1.map c5), Ti y28.2.2.1, .v (.int .u64 y28.2.2.2)])]) [(80000, 80000)] 45 (s_spec_l1Cur_pick hy28) cf_spec_l1Cur_pick rfl rfl (by kernel_rfl) rfl (mE_cons (by kernel_rfl) mE_nil) rfl (by kernel_rfl) rfl rfl (by kernel_rfl)) ?_
     refine XR 2 ?_
     refine XL_nil ?_
     subst ht29
     kernel_rfl
    refine V_ret ?_
    obtain rfl := some_inj h
    show PostR _ _ _ _ _ _
    exact ⟨⟨.inr rfl, rfl, rfl, rfl⟩, ⟨rfl, trivial⟩⟩
   ·have h := of_false h hc27
    refine V_skip ?_
    show V _ _ _ _
    refine V_e (mb 48 16) [80000] (s1 := ⟨bt 4 (I o14 :: bt 43 []), [(80000, .pbox (σ 80000) [.sl (y26.2.1.map c5), Ti y26.2.2.1, .v (.int .u64 y26.2.2.2)])]⟩) ?_
    refine V_ret ?_
    obtain rfl := some_inj h
    show PostR _ _ _ _ _ _
    exact ⟨⟨.inr rfl, rfl, rfl, rfl⟩, ⟨rfl, trivial⟩⟩
theorem cf_spec_DrawLevelRoots : ∀ args w, (callFunc 99 args).run Try.prog w = .ok (.enter 99 args) w := run_callFunc Try.func99 (by kernel_rfl) (by kernel_rfl)
theorem s_spec_DrawLevelRoots {code1 : List Int} {r : (Int × Int)} (h : r_spec_DrawLevelRoots code1 = some r) : CallS Try.prog 99 [.c (.sl (code1.map c5))] (.tc (I r.1) (.tc (I r.2) .tn)) [] := by
  refine CallS_of_text (rs := [.t 2, .t 3]) (vs := [.tmp 2, .tmp 3]) Try.func99 rfl rfl (.cons rfl (.cons rfl FitsL.nil)) (by decide) 15 rfl ?_
  unfold r_spec_DrawLevelRoots at h
  show V _ _ ⟨.c (.sl (code1.map c5)) :: bt 14 [], []⟩ _
  refine V_e (mb 15 1) [] (s1 := ⟨.c (.sl (code1.map c5)) :: bt 14 [], []⟩) ?_
  refine V_sreg (mb 15 16) [64] (s1 := ⟨bt 4 (.pt 64 0 :: bt 10 []), [(64, .box [.sl (code1.map c5), Ti 0, .v (.int .u64 0)])]⟩) ?_ ?_
  ·refine XR 1 ?_
   refine L0 rfl rfl (Y0_build (cs := [.sl (code1.map c5), Ti 0, .v (.int .u64 0)]) pl98 bt98 rfl rfl (by kernel_rfl)) ?_
   exact XE
  obtain ⟨y2, hy2, h⟩ := of_bind h
  refine V_sreg (mb 15 48) [64] (s1 := ⟨bt 4 (.pt 64 0 :: I y2.1 :: bt 9 []), [(64, .box [.sl (y2.2.1.map c5), Ti y2.2.2.1, .v (.int .u64 y2.2.2.2)])]⟩) ?_ ?_
  ·refine XR 1 ?_
   refine XL_cons rfl (X_callR (E' := [(64, .box [.sl (y2.2.1.map c5), Ti y2.2.2.1, .v (.int .u64 y2.2.2.2)])]) [(80000, 64)] 10 (s_spec_l1Cur_disc hy2) cf_spec_l1Cur_disc rfl rfl (by kernel_rfl) rfl (mE_cons (by kernel_rfl) mE_nil) rfl (by kernel_rfl) rfl rfl (by kernel_rfl)) ?_
   exact XE
  obtain ⟨y3, hy3, h⟩ := of_bind h
  refine V_sreg (mb 15 12) [] (s1 := ⟨.bot :: .bot :: I y2.1 :: I y3.1 :: bt 11 [], []⟩) ?_ ?_
  ·refine XR 3 ?_
   refine XL_cons rfl (X_callR (E' := [(64, .box [.sl (y3.2.1.map c5), Ti y3.2.2.1, .v (.int .u64 y3.2.2.2)])]) [(80000, 64)] 14 (s_spec_l1Cur_level hy3) cf_spec_l1Cur_level rfl rfl (by kernel_rfl) rfl (mE_cons (by kernel_rfl) mE_nil) rfl (by kernel_rfl) rfl rfl (by kernel_rfl)) ?_
   exact XE
  refine V_ret ?_
  obtain rfl := some_inj h
  show Post _ _ _ _ _
  exact ⟨.inr rfl, rfl, rfl, rfl⟩
theorem cf_spec_DrawLevelClasses : ∀ args w, (callFunc 39 args).run Try.prog w = .ok (.enter 39 args) w := run_callFunc Try.func39 (by kernel_rfl) (by kernel_rfl)
theorem s_spec_DrawLevelClasses {code1 : List Int} {r : (Int × Int)} (h : r_spec_DrawLevelClasses code1 = some r) : CallS Try.prog 39 [.c (.sl (code1.map c5))] (.tc (I r.1) (.tc (I r.2) .tn)) [] := by
  refine CallS_of_text (rs := [.t 2, .t 3]) (vs := [.tmp 2, .tmp 3]) Try.func39 rfl rfl (.cons rfl (.cons rfl FitsL.nil)) (by decide) 8 rfl ?_
  unfold r_spec_DrawLevelClasses at h
  show V _ _ ⟨.c (.sl (code1.map c5)) :: bt 7 [], []⟩ _
  refine V_e (mb 8 1) [] (s1 := ⟨.c (.sl (code1.map c5)) :: bt 7 [], []⟩) ?_
  obtain ⟨y2, hy2, h⟩ := of_bind h
  refine V_sreg (mb 8 12) [] (s1 := ⟨.bot :: .bot :: I y2.1 :: I y2.2 :: bt 4 [], []⟩) ?_ ?_
  ·refine XR 1 ?_
   refine XC (s_spec_DrawLevelRoots hy2) cf_spec_DrawLevelRoots rfl rfl rfl ?_
   exact XE
  refine V_ret ?_
  obtain rfl := some_inj h
  show Post _ _ _ _ _
  exact ⟨.inr rfl, rfl, rfl, rfl⟩
theorem cf_impl_mod : ∀ args w, (callFunc 58 args).run Try.prog w = .ok (.enter 58 args) w := run_callFunc Try.func58 (by kernel_rfl) (by kernel_rfl)
theorem s_impl_mod {a1 : Int} {vm2 : Int} {r : Int} (h : r_impl_mod a1 vm2 = some r) : CallS Try.prog 58 [I a1, I vm2] (I r) [] := by
  refine CallS_of_text (rs := [.t 4]) (vs := [.tmp 4]) Try.func58 rfl rfl (.cons rfl FitsL.nil) (by decide) 15 rfl ?_
  unfold r_impl_mod at h
  show V _ _ ⟨I a1 :: I vm2 :: bt 13 [], []⟩ _
  refine V_e (mb 15 3) [] (s1 := ⟨I a1 :: I vm2 :: bt 13 [], []⟩) ?_
  obtain ⟨z3, hz3, h⟩ := of_bind h
  obtain ⟨vr4, hvr4, h⟩ := of_sI h
  refine V_sreg (mb 15 34) [] (s1 := ⟨.bot :: I vm2 :: bt 3 (I vr4 :: bt 9 []), []⟩) ?_ ?_
  ·refine XR 2 ?_
   refine L0 rfl rfl (Y0_rem (k := .i64) (a := a1) (b := vm2) rfl (by kernel_rfl) (by kernel_rfl) (nz_some hz3)) ?_
   refine XR 1 ?_
   refine XL_nil ?_
   subst hvr4
   kernel_rfl
  refine V_seq ?_
  refine V_e (mb 15 1058) [] (s1 := ⟨.bot :: I vm2 :: bt 3 (I vr4 :: bt 4 (Bo (ltI vr4 0) :: bt 4 [])), []⟩) ?_
  refine V_cond rfl (fun hc5 => ?_) (fun hc5 => ?_)
  ·have h := of_true h hc5
   obtain ⟨vr6, hvr6, h⟩ := of_sI h
   refine V_reg (mb 15 32) [] (s1 := ⟨bt 5 (I vr6 :: bt 9 []), []⟩) ?_ ?_
   ·refine XR 4 ?_
    refine XL_nil ?_
    subst hvr6
    kernel_rfl
   show V _ _ _ _
   refine V_e (mb 15 16) [] (s1 := ⟨bt 4 (I vr6 :: bt 10 []), []⟩) ?_
   refine V_ret ?_
   obtain rfl := some_inj h
   show Post _ _ _ _ _
   exact ⟨.inr rfl, rfl, rfl, rfl⟩
  ·have h := of_false h hc5
   refine V_skip ?_
   show V _ _ _ _
   refine V_e (mb 15 16) [] (s1 := ⟨bt 4 (I vr4 :: bt 10 []), []⟩) ?_
   refine V_ret ?_
   obtain rfl := some_inj h
   show Post _ _ _ _ _
   exact ⟨.inr rfl, rfl, rfl, rfl⟩
theorem cf_impl_isNegativeDisc : ∀ args w, (callFunc 109 args).run Try.prog w = .ok (.enter 109 args) w := run_callFunc Try.func109 (by kernel_rfl) (by kernel_rfl)
theorem s_impl_isNegativeDisc {d1 : Int} {r : Bool} (h : r_impl_isNegativeDisc d1 = some r) : CallS Try.prog 109 [I d1] (Bo r) [] := by
  refine CallS_of_text (rs := [.t 2]) (vs := [.tmp 2]) Try.func109 rfl rfl (.cons rfl FitsL.nil) (by decide) 14 rfl ?_
  unfold r_impl_isNegativeDisc at h
  show V _ _ ⟨I d1 :: bt 13 [], []⟩ _
  refine V_e (mb 14 1) [] (s1 := ⟨I d1 :: bt 13 [], []⟩) ?_
  obtain ⟨b5, hb5, h⟩ := of_bind h
  refine V_sreg (mb 14 4) [] (s1 := ⟨.bot :: .bot :: Bo b5 :: bt 11 [], []⟩) ?_ ?_
  ·refine XR 3 ?_
   refine XL_split (leI (-2000) d1) (fun hc2 => ?_) (fun hc2 => ?_)
   ·refine XL_takeC _ rfl rfl (by kernel_rfl) hc2 (X_of_Y0 rfl (E_move (I d1) rfl (by kernel_rfl))) ?_
    refine XL_takeC _ rfl rfl (by kernel_rfl) hc2 (X_of_Y0 rfl (Y0_lew (k := .i64) (a := d1) (b := -3) rfl (by kernel_rfl) (by kernel_rfl))) ?_
    refine XL_cons rfl (X_of_Y0 rfl (Y0_pick1 (b := leI (-2000) d1) (p := leI d1 (-3)) (q := false) rfl (by kernel_rfl) hc2 (by kernel_rfl))) ?_
    refine XR 1 ?_
    refine XL_split (bif (leI (-2000) d1) then (leI d1 (-3)) else false) (fun hc3 => ?_) (fun hc3 => ?_)
    ·have hb5 := of_true hb5 hc3
     obtain ⟨y4, hy4, hb5⟩ := of_bind hb5
     have hb5 := some_inj hb5
     refine XL_takeC _ rfl rfl (by kernel_rfl) hc3 (X_of_Y0 rfl (E_move (I d1) rfl (by kernel_rfl))) ?_
     refine XL_takeC _ rfl rfl (by kernel_rfl) hc3 (X_of_Y1 rfl (Y1_call (s_impl_mod hy4) cf_impl_mod rfl (by kernel_rfl))) ?_
     refine XL_takeC _ rfl rfl (by kernel_rfl) hc3 (X_of_Y0 rfl (Y0_lew (k := .i64) (a := y4) (b := 1) rfl (by kernel_rfl) (by kernel_rfl))) ?_
     refine XL_cons rfl (X_of_Y0 rfl (Y0_pickTe (b := bif (leI (-2000) d1) then (leI d1 (-3)) else false) (p := leI y4 1) rfl (by kernel_rfl) hc3 (by kernel_rfl) hb5)) ?_
     exact XE
    ·have hb5 := some_inj (of_false hb5 hc3)
     refine XL_skipT _ rfl rfl (by kernel_rfl) hc3 rfl ?_
     refine XL_skipT _ rfl rfl (by kernel_rfl) hc3 rfl ?_
     refine XL_skipT _ rfl rfl (by kernel_rfl) hc3 rfl ?_
     refine XL_cons rfl (X_of_Y0 rfl (Y0_pickFe (b := bif (leI (-2000) d1) then (leI d1 (-3)) else false) (p := false) rfl (by kernel_rfl) hc3 (by kernel_rfl) hb5)) ?_
     exact XE
   ·refine XL_skipT _ rfl rfl (by kernel_rfl) hc2 rfl ?_
    refine XL_skipT _ rfl rfl (by kernel_rfl) hc2 rfl ?_
    refine XL_cons rfl (X_of_Y0 rfl (Y0_pick0 (b := leI (-2000) d1) (p := leI d1 (-3)) (q := false) rfl (by kernel_rfl) hc2 (by kernel_rfl))) ?_
    refine XR 1 ?_
    refine XL_split (bif (leI (-2000) d1) then (leI d1 (-3)) else false) (fun hc3 => ?_) (fun hc3 => ?_)
    ·have hb5 := of_true hb5 hc3
     obtain ⟨y4, hy4, hb5⟩ := of_bind hb5
     have hb5 := some_inj hb5
     refine XL_takeC _ rfl rfl (by kernel_rfl) hc3 (X_of_Y0 rfl (E_move (I d1) rfl (by kernel_rfl))) ?_
     refine XL_takeC _ rfl rfl (by kernel_rfl) hc3 (X_of_Y1 rfl (Y1_call (s_impl_mod hy4) cf_impl_mod rfl (by kernel_rfl))) ?_
     refine XL_takeC _ rfl rfl (by kernel_rfl) hc3 (X_of_Y0 rfl (Y0_lew (k := .i64) (a := y4) (b := 1) rfl (by kernel_rfl) (by kernel_rfl))) ?_
     refine XL_cons rfl (X_of_Y0 rfl (Y0_pickTe (b := bif (leI (-2000) d1) then (leI d1 (-3)) else false) (p := leI y4 1) rfl (by kernel_rfl) hc3 (by kernel_rfl) hb5)) ?_
     exact XE
    ·have hb5 := some_inj (of_false hb5 hc3)
     refine XL_skipT _ rfl rfl (by kernel_rfl) hc3 rfl ?_
     refine XL_skipT _ rfl rfl (by kernel_rfl) hc3 rfl ?_
     refine XL_skipT _ rfl rfl (by kernel_rfl) hc3 rfl ?_
     refine XL_cons rfl (X_of_Y0 rfl (Y0_pickFe (b := bif (leI (-2000) d1) then (leI d1 (-3)) else false) (p := false) rfl (by kernel_rfl) hc3 (by kernel_rfl) hb5)) ?_
     exact XE
  refine V_ret ?_
  obtain rfl := some_inj h
  show Post _ _ _ _ _
  exact ⟨.inr rfl, rfl, rfl, rfl⟩
theorem cf_impl_abs : ∀ args w, (callFunc 121 args).run Try.prog w = .ok (.enter 121 args) w := run_callFunc Try.func121 (by kernel_rfl) (by kernel_rfl)
theorem s_impl_abs {vn1 : Int} {r : Int} (h : r_impl_abs vn1 = some r) : CallS Try.prog 121 [I vn1] (I r) [] := by
  refine CallS_of_text (rs := [.t 2]) (vs := [.tmp 2]) Try.func121 rfl rfl (.cons rfl FitsL.nil) (by decide) 8 rfl ?_
  unfold r_impl_abs at h
  show V _ _ ⟨I vn1 :: bt 7 [], []⟩ _
  refine V_e (mb 8 1) [] (s1 := ⟨I vn1 :: bt 7 [], []⟩) ?_
  obtain ⟨t2, ht2, h⟩ := of_sI h
  refine V_sreg (mb 8 4) [] (s1 := ⟨.bot :: .bot :: I t2 :: bt 5 [], []⟩) ?_ ?_
  ·refine XR 2 ?_
   refine L0 rfl rfl (Y0_max (a := vn1) (b := -9223372036854775807) rfl (by kernel_rfl) (by kernel_rfl)) ?_
   refine XR 1 ?_
   refine L0 rfl rfl (Y0_max (a := vn1) (b := w64 (0 - (mxI vn1 (-9223372036854775807)))) rfl (by kernel_rfl) (by kernel_rfl)) ?_
   refine XR 1 ?_
   refine XL_nil ?_
   subst ht2
   kernel_rfl
  refine V_ret ?_
  obtain rfl := some_inj h
  show Post _ _ _ _ _
  exact ⟨.inr rfl, rfl, rfl, rfl⟩
theorem cf_impl_gcd : ∀ args w, (callFunc 57 args).run Try.prog w = .ok (.enter 57 args) w := run_callFunc Try.func57 (by kernel_rfl) (by kernel_rfl)
theorem s_impl_gcd {a1 : Int} {b2 : Int} {r : Int} (h : r_impl_gcd a1 b2 = some r) : CallS Try.prog 57 [I a1, I b2] (I r) [] := by
  refine CallS_of_text (rs := [.t 4]) (vs := [.tmp 4]) Try.func57 rfl rfl (.cons rfl FitsL.nil) (by decide) 13 rfl ?_
  unfold r_impl_gcd at h
  show V _ _ ⟨I a1 :: I b2 :: bt 11 [], []⟩ _
  refine V_e (mb 13 3) [] (s1 := ⟨I a1 :: I b2 :: bt 11 [], []⟩) ?_
  refine V_seq ?_
  obtain ⟨o6, hLo6, h⟩ := of_bind h
  refine V_toK (mb 13 1) [] (s1 := ⟨I o6 :: bt 12 [], []⟩) ?_ ?_
  ·clear h
   refine V_block (V_loop (fun n s => ∃ (a3 : Int) (b4 : Int), s.keep (mb 13 3) [] = (⟨I a3 :: I b4 :: bt 11 [], []⟩ : St) ∧ r_impl_gcd_L5 n a3 b4 = some o6) FU ⟨_, _,  by rfl, hLo6⟩ ?_)
   clear hLo6
   rintro n s ⟨a3, b4, hs, h⟩
   refine V_keep _ _ hs ?_
   clear hs
   cases n with
   | zero => cases h
   | succ n =>
    rw [r_impl_gcd_L5] at h
    refine V_seq ?_
    refine V_e (mb 13 67) [] (s1 := ⟨I a3 :: I b4 :: bt 4 (Bo (!eqI b4 0) :: bt 6 []), []⟩) ?_
    refine V_cond rfl (fun hc7 => ?_) (fun hc7 => ?_)
    ·have h := of_true h hc7
     refine V_skip ?_
     show V _ _ _ _
     refine V_block ?_
     obtain ⟨z8, hz8, h⟩ := of_bind h
     obtain ⟨b9, hb9, h⟩ := of_sI h
     refine V_dreg [0, 0, 0, 6, 3, 31] 6 (cdm 6 [168, 34, 522, 534, 165, 341]) (mb 13 3) [] (s1 := ⟨I b4 :: I b9 :: bt 11 [], []⟩) (by kernel_rfl) (by kernel_rfl) ?_ ?_
     ·refine DR 3 ?_
      refine DE_0 3 (I (Int.tmod a3 b4)) (by kernel_rfl) rfl rfl rfl (gsat_none rfl) (by kernel_rfl) (Y0_rem (k := .i64) (a := a3) (b := b4) rfl (by kernel_rfl) (by kernel_rfl) (nz_some hz8)) 10 rfl ?_
      refine DA 2 ?_
      refine XL_nil ?_
      subst hb9
      kernel_rfl
     exact ⟨n, Nat.lt_succ_self n, _, _,  by rfl, h⟩
    ·have h := of_false h hc7
     refine V_exit ?_
     obtain rfl := some_inj h
     show St.keep _ _ _ = _
     rfl
  show V _ _ _ _
  obtain ⟨y10, hy10, h⟩ := of_bind h
  refine V_sreg (mb 13 16) [] (s1 := ⟨bt 4 (I y10 :: bt 8 []), []⟩) ?_ ?_
  ·refine XR 1 ?_
   refine XC (s_impl_abs hy10) cf_impl_abs rfl rfl rfl ?_
   exact XE
  refine V_ret ?_
  obtain rfl := some_inj h
  show Post _ _ _ _ _
  exact ⟨.inr rfl, rfl, rfl, rfl⟩
theorem cf_impl_isLevel : ∀ args w, (callFunc 110 args).run Try.prog w = .ok (.enter 110 args) w := run_callFunc Try.func110 (by kernel_rfl) (by kernel_rfl)
theorem s_impl_isLevel {d1 : Int} {vn2 : Int} {r : Bool} (h : r_impl_isLevel d1 vn2 = some r) : CallS Try.prog 110 [I d1, I vn2] (Bo r) [] := by
  refine CallS_of_text (rs := [.t 4]) (vs := [.tmp 4]) Try.func110 rfl rfl (.cons rfl FitsL.nil) (by decide) 17 rfl ?_
  unfold r_impl_isLevel at h
  show V _ _ ⟨I d1 :: I vn2 :: bt 15 [], []⟩ _
  refine V_e (mb 17 3) [] (s1 := ⟨I d1 :: I vn2 :: bt 15 [], []⟩) ?_
  obtain ⟨b6, hb6, h⟩ := of_bind h
  refine V_sreg (mb 17 16) [] (s1 := ⟨bt 4 (Bo b6 :: bt 12 []), []⟩) ?_ ?_
  ·refine XR 3 ?_
   refine XL_split (leI 1 vn2) (fun hc3 => ?_) (fun hc3 => ?_)
   ·refine XL_takeC _ rfl rfl (by kernel_rfl) hc3 (X_of_Y0 rfl (E_move (I vn2) rfl (by kernel_rfl))) ?_
    refine XL_takeC _ rfl rfl (by kernel_rfl) hc3 (X_of_Y0 rfl (Y0_lew (k := .i64) (a := vn2) (b := 30) rfl (by kernel_rfl) (by kernel_rfl))) ?_
    refine XL_cons rfl (X_of_Y0 rfl (Y0_pick1 (b := leI 1 vn2) (p := leI vn2 30) (q := false) rfl (by kernel_rfl) hc3 (by kernel_rfl))) ?_
    refine XR 1 ?_
    refine XL_split (bif (leI 1 vn2) then (leI vn2 30) else false) (fun hc4 => ?_) (fun hc4 => ?_)
    ·have hb6 := of_true hb6 hc4
     obtain ⟨y5, hy5, hb6⟩ := of_bind hb6
     have hb6 := some_inj hb6
     refine XL_takeC _ rfl rfl (by kernel_rfl) hc4 (X_of_Y0 rfl (E_move (I d1) rfl (by kernel_rfl))) ?_
     refine XL_takeC _ rfl rfl (by kernel_rfl) hc4 (X_of_Y0 rfl (E_move (I vn2) rfl (by kernel_rfl))) ?_
     refine XL_takeC _ rfl rfl (by kernel_rfl) hc4 (X_of_Y1 rfl (Y1_call (s_impl_gcd hy5) cf_impl_gcd rfl (by kernel_rfl))) ?_
     refine XL_takeC _ rfl rfl (by kernel_rfl) hc4 (X_of_Y0 rfl (Y0_eqw (k := .i64) (a := y5) (b := 1) rfl (by kernel_rfl) (by kernel_rfl))) ?_
     refine XL_cons rfl (X_of_Y0 rfl (Y0_pickTe (b := bif (leI 1 vn2) then (leI vn2 30) else false) (p := eqI y5 1) rfl (by kernel_rfl) hc4 (by kernel_rfl) hb6)) ?_
     exact XE
    ·have hb6 := some_inj (of_false hb6 hc4)
     refine XL_skipT _ rfl rfl (by kernel_rfl) hc4 rfl ?_
     refine XL_skipT _ rfl rfl (by kernel_rfl) hc4 rfl ?_
     refine XL_skipT _ rfl rfl (by kernel_rfl) hc4 rfl ?_
     refine XL_skipT _ rfl rfl (by kernel_rfl) hc4 rfl ?_
     refine XL_cons rfl (X_of_Y0 rfl (Y0_pickFe (b := bif (leI 1 vn2) then (leI vn2 30) else false) (p := false) rfl (by kernel_rfl) hc4 (by kernel_rfl) hb6)) ?_
     exact XE
   ·refine XL_skipT _ rfl rfl (by kernel_rfl) hc3 rfl ?_
    refine XL_skipT _ rfl rfl (by kernel_rfl) hc3 rfl ?_
    refine XL_cons rfl (X_of_Y0 rfl (Y0_pick0 (b := leI 1 vn2) (p := leI vn2 30) (q := false) rfl (by kernel_rfl) hc3 (by kernel_rfl))) ?_
    refine XR 1 ?_
    refine XL_split (bif (leI 1 vn2) then (leI vn2 30) else false) (fun hc4 => ?_) (fun hc4 => ?_)
    ·have hb6 := of_true hb6 hc4
     obtain ⟨y5, hy5, hb6⟩ := of_bind hb6
     have hb6 := some_inj hb6
     refine XL_takeC _ rfl rfl (by kernel_rfl) hc4 (X_of_Y0 rfl (E_move (I d1) rfl (by kernel_rfl))) ?_
     refine XL_takeC _ rfl rfl (by kernel_rfl) hc4 (X_of_Y0 rfl (E_move (I vn2) rfl (by kernel_rfl))) ?_
     refine XL_takeC _ rfl rfl (by kernel_rfl) hc4 (X_of_Y1 rfl (Y1_call (s_impl_gcd hy5) cf_impl_gcd rfl (by kernel_rfl))) ?_
     refine XL_takeC _ rfl rfl (by kernel_rfl) hc4 (X_of_Y0 rfl (Y0_eqw (k := .i64) (a := y5) (b := 1) rfl (by kernel_rfl) (by kernel_rfl))) ?_
     refine XL_cons rfl (X_of_Y0 rfl (Y0_pickTe (b := bif (leI 1 vn2) then (leI vn2 30) else false) (p := eqI y5 1) rfl (by kernel_rfl) hc4 (by kernel_rfl) hb6)) ?_
     exact XE
    ·have hb6 := some_inj (of_false hb6 hc4)
     refine XL_skipT _ rfl rfl (by kernel_rfl) hc4 rfl ?_
     refine XL_skipT _ rfl rfl (by kernel_rfl) hc4 rfl ?_
     refine XL_skipT _ rfl rfl (by kernel_rfl) hc4 rfl ?_
     refine XL_skipT _ rfl rfl (by kernel_rfl) hc4 rfl ?_
     refine XL_cons rfl (X_of_Y0 rfl (Y0_pickFe (b := bif (leI 1 vn2) then (leI vn2 30) else false) (p := false) rfl (by kernel_rfl) hc4 (by kernel_rfl) hb6)) ?_
     exact XE
  refine V_ret ?_
  obtain rfl := some_inj h
  show Post _ _ _ _ _
  exact ⟨.inr rfl, rfl, rfl, rfl⟩
theorem cf_impl_rootsOfDiscriminant : ∀ args w, (callFunc 83 args).run Try.prog w = .ok (.enter 83 args) w := run_callFunc Try.func83 (by kernel_rfl) (by kernel_rfl)
theorem s_impl_rootsOfDiscriminant {d1 : Int} {vn2 : Int} {r : List Int} (h : r_impl_rootsOfDiscriminant d1 vn2 = some r) : CallS Try.prog 83 [I d1, I vn2] (.ow 0) [(0, .arr 3 1 (r.map c3))] := by
  refine CallS_of_text (rs := [.t 4]) (vs := [.tmp 4]) Try.func83 rfl rfl (.cons rfl FitsL.nil) (by decide) 28 rfl ?_
  unfold r_impl_rootsOfDiscriminant at h
  show V _ _ ⟨I d1 :: I vn2 :: bt 26 [], []⟩ _
  refine V_sreg (mb 28 3) [] (s1 := ⟨I d1 :: I vn2 :: bt 26 [], []⟩) ?_ ?_
  ·refine L1 rfl rfl (Y1_nil (e := 3) 1 (by decide) (.inl rfl)) ?_
   exact XE
  refine V_sreg (mb 28 35) [56] (s1 := ⟨I d1 :: I vn2 :: bt 3 (.ow 56 :: bt 22 []), [(56, .arr 3 1 ((([] : List Int)).map c3))]⟩) ?_ ?_
  ·refine L1 rfl rfl (Y1_bslice0 Try.underlying41 sz3 (by decide) rfl rfl) ?_
   exact XE
  refine V_seq ?_
  refine V_e (mb 28 99) [56] (s1 := ⟨I d1 :: I vn2 :: bt 3 (.ow 56 :: I 0 :: bt 21 []), [(56, .arr 3 1 ((([] : List Int)).map c3))]⟩) ?_
  obtain ⟨o6, hLo6, h⟩ := of_bind h
  refine V_toK (mb 28 32) [56] (s1 := ⟨bt 5 (.ow 56 :: bt 22 []), [(56, .arr 3 1 (o6.map c3))]⟩) ?_ ?_
  ·clear h
   refine V_block (V_loop (fun n s => ∃ (b3 : Int) (l4 : List Int), s.keep (mb 28 99) [56] = (⟨I d1 :: I vn2 :: bt 3 (.ow 56 :: I b3 :: bt 21 []), [(56, .arr 3 1 (l4.map c3))]⟩ : St) ∧ r_impl_rootsOfDiscriminant_L5 d1 vn2 n b3 l4 = some o6) FU ⟨_, _,  by rfl, hLo6⟩ ?_)
   clear hLo6
   rintro n s ⟨b3, l4, hs, h⟩
   refine V_keep _ _ hs ?_
   clear hs
   cases n with
   | zero => cases h
   | succ n =>
    rw [r_impl_rootsOfDiscriminant_L5] at h
    refine V_seq ?_
    refine V_e (mb 28 2147) [56] (s1 := ⟨I d1 :: I vn2 :: bt 3 (.ow 56 :: I b3 :: bt 4 (Bo (ltI b3 (w64 (2 * vn2))) :: bt 16 [])), [(56, .arr 3 1 (l4.map c3))]⟩) ?_
    refine V_cond rfl (fun hc7 => ?_) (fun hc7 => ?_)
    ·have h := of_true h hc7
     refine V_skip ?_
     show V _ _ _ _
     refine V_seq ?_
     refine V_block ?_
     obtain ⟨z8, hz8, h⟩ := of_bind h
     obtain ⟨t9, ht9, h⟩ := of_bind h
     have ht9 := some_inj ht9
     refine V_sreg (mb 28 4194403) [56] (s1 := ⟨I d1 :: I vn2 :: bt 3 (.ow 56 :: I b3 :: bt 15 (Bo t9 :: bt 5 [])), [(56, .arr 3 1 (l4.map c3))]⟩) ?_ ?_
     ·refine XR 7 ?_
      refine L0 rfl rfl (Y0_rem (k := .i64) (a := w64 ((w64 (b3 * b3)) - d1)) (b := w64 (4 * vn2)) rfl (by kernel_rfl) (by kernel_rfl) (nz_some hz8)) ?_
      refine XR 1 ?_
      refine XL_nil ?_
      subst ht9
      kernel_rfl
     refine V_cond rfl (fun hc10 => ?_) (fun hc10 => ?_)
     ·have h := of_true h hc10
      obtain ⟨u11, hu11, h⟩ := of_bind h
      refine V_reg (mb 28 99) [56] (s1 := ⟨I d1 :: I vn2 :: bt 3 (.ow 56 :: I b3 :: bt 21 []), [(56, .arr 3 1 ((l4 ++ ([b3])).map c3))]⟩) ?_ ?_
      ·refine XR 2 ?_
       refine L1 rfl rfl (Y1_bslice (z := zv3) (els := [b3].map c3) Try.underlying41 iz3 rfl (by decide) rfl (by kernel_rfl) rfl (by simp [c3]) (by decide) (by decide)) ?_
       refine XL_cons rfl (X_appendM (c := c3) (xs := l4) (ys := [b3]) (id := 56) (z := zv3) rfl rfl Try.underlying41 izb3 rfl (by kernel_rfl) (by kernel_rfl) (by kernel_rfl) (fun _ => rfl) (by simp) (room_some hu11) (by decide)) ?_
       exact XE
      show V _ _ _ _
      obtain ⟨b12, hb12, h⟩ := of_sI h
      refine V_reg (mb 28 99) [56] (s1 := ⟨I d1 :: I vn2 :: bt 3 (.ow 56 :: I b12 :: bt 21 []), [(56, .arr 3 1 ((l4 ++ ([b3])).map c3))]⟩) ?_ ?_
      ·refine XR 3 ?_
       refine XL_nil ?_
       subst hb12
       kernel_rfl
      exact ⟨n, Nat.lt_succ_self n, _, _,  by rfl, h⟩
     ·have h := of_false h hc10
      refine V_skip ?_
      show V _ _ _ _
      obtain ⟨b13, hb13, h⟩ := of_sI h
      refine V_reg (mb 28 99) [56] (s1 := ⟨I d1 :: I vn2 :: bt 3 (.ow 56 :: I b13 :: bt 21 []), [(56, .arr 3 1 (l4.map c3))]⟩) ?_ ?_
      ·refine XR 3 ?_
       refine XL_nil ?_
       subst hb13
       kernel_rfl
      exact ⟨n, Nat.lt_succ_self n, _, _,  by rfl, h⟩
    ·have h := of_false h hc7
     refine V_exit ?_
     obtain rfl := some_inj h
     show St.keep _ _ _ = _
     rfl
  show V _ _ _ _
  refine V_e (mb 28 16) [56] (s1 := ⟨bt 4 (.ow 56 :: bt 23 []), [(56, .arr 3 1 (o6.map c3))]⟩) ?_
  refine V_ret ?_
  obtain rfl := some_inj h
  show Post _ _ _ _ _
  exact ⟨.inr rfl, rfl, rfl, rfl⟩
theorem cf_impl_LevelRoots : ∀ args w, (callFunc 44 args).run Try.prog w = .ok (.enter 44 args) w := run_callFunc Try.func44 (by kernel_rfl) (by kernel_rfl)
theorem s_impl_LevelRoots {d1 : Int} {vn2 : Int} {r : ((List Int) × Bool)} (h : r_impl_LevelRoots d1 vn2 = some r) : CallS Try.prog 44 [I d1, I vn2] (.tc (.ow 0) (.tc (Bo r.2) .tn)) [(0, .arr 3 1 (r.1.map c3))] := by
  refine CallS_of_text (rs := [.t 4, .t 5]) (vs := [.tmp 4, .tmp 5]) Try.func44 rfl rfl (.cons rfl (.cons rfl FitsL.nil)) (by decide) 19 rfl ?_
  unfold r_impl_LevelRoots at h
  show V _ _ ⟨I d1 :: I vn2 :: bt 17 [], []⟩ _
  refine V_sreg (mb 19 3) [] (s1 := ⟨I d1 :: I vn2 :: bt 17 [], []⟩) ?_ ?_
  ·refine L1 rfl rfl (Y1_nil (e := 3) 1 (by decide) (.inl rfl)) ?_
   exact XE
  refine V_seq ?_
  obtain ⟨y3, hy3, h⟩ := of_bind h
  obtain ⟨b6, hb6, h⟩ := of_bind h
  refine V_sreg (mb 19 16387) [] (s1 := ⟨I d1 :: I vn2 :: bt 12 (Bo b6 :: bt 4 []), []⟩) ?_ ?_
  ·refine XR 1 ?_
   refine XC (s_impl_isNegativeDisc hy3) cf_impl_isNegativeDisc rfl rfl rfl ?_
   refine XR 2 ?_
   refine XL_split (!y3) (fun hc4 => ?_) (fun hc4 => ?_)
   ·have hb6 := some_inj (of_true hb6 hc4)
    refine XL_skipF _ rfl rfl (by kernel_rfl) hc4 rfl ?_
    refine XL_skipF _ rfl rfl (by kernel_rfl) hc4 rfl ?_
    refine XL_skipF _ rfl rfl (by kernel_rfl) hc4 rfl ?_
    refine XL_skipF _ rfl rfl (by kernel_rfl) hc4 rfl ?_
    refine XL_cons rfl (X_of_Y0 rfl (Y0_pickTe (b := !y3) (p := true) rfl (by kernel_rfl) hc4 (by kernel_rfl) hb6)) ?_
    exact XE
   ·have hb6 := of_false hb6 hc4
    obtain ⟨y5, hy5, hb6⟩ := of_bind hb6
    have hb6 := some_inj hb6
    refine XL_takeC _ rfl rfl (by kernel_rfl) hc4 (X_of_Y0 rfl (E_move (I d1) rfl (by kernel_rfl))) ?_
    refine XL_takeC _ rfl rfl (by kernel_rfl) hc4 (X_of_Y0 rfl (E_move (I vn2) rfl (by kernel_rfl))) ?_
    refine XL_takeC _ rfl rfl (by kernel_rfl) hc4 (X_of_Y1 rfl (Y1_call (s_impl_isLevel hy5) cf_impl_isLevel rfl (by kernel_rfl))) ?_
    refine XL_takeC _ rfl rfl (by kernel_rfl) hc4 (X_of_Y0 rfl (Y0_not (b := y5) rfl (by kernel_rfl))) ?_
    refine XL_cons rfl (X_of_Y0 rfl (Y0_pickFe (b := !y3) (p := !y5) rfl (by kernel_rfl) hc4 (by kernel_rfl) hb6)) ?_
    exact XE
  refine V_cond rfl (fun hc7 => ?_) (fun hc7 => ?_)
  ·have h := of_true h hc7
   refine V_sreg (mb 19 48) [120] (s1 := ⟨bt 4 (.ow 120 :: Bo false :: bt 13 []), [(120, .arr 3 1 ((([] : List Int)).map c3))]⟩) ?_ ?_
   ·refine L1 rfl rfl (Y1_bslice0 Try.underlying41 sz3 (by decide) rfl rfl) ?_
    exact XE
   refine V_ret ?_
   obtain rfl := some_inj h
   show Post _ _ _ _ _
   exact ⟨.inr rfl, rfl, rfl, rfl⟩
  ·have h := of_false h hc7
   refine V_skip ?_
   show V _ _ _ _
   obtain ⟨y8, hy8, h⟩ := of_bind h
   refine V_sreg (mb 19 48) [144] (s1 := ⟨bt 4 (.ow 144 :: Bo true :: bt 13 []), [(144, .arr 3 1 (y8.map c3))]⟩) ?_ ?_
   ·refine XR 2 ?_
    refine XC (s_impl_rootsOfDiscriminant hy8) cf_impl_rootsOfDiscriminant rfl rfl rfl ?_
    exact XE
   refine V_ret ?_
   obtain rfl := some_inj h
   show Post _ _ _ _ _
   exact ⟨.inr rfl, rfl, rfl, rfl⟩
theorem cf_impl_Form_isNormal : ∀ args w, (callFunc 223 args).run Try.prog w = .ok (.enter 223 args) w := run_callFunc Try.func223 (by kernel_rfl) (by kernel_rfl)
theorem s_impl_Form_isNormal {f1 : (Int × Int × Int)} {r : Bool} (h : r_impl_Form_isNormal f1 = some r) : CallS Try.prog 223 [.ag [Ti f1.1, Ti f1.2.1, Ti f1.2.2]] (Bo r) [] := by
  refine CallS_of_text (rs := [.t 2]) (vs := [.tmp 2]) Try.func223 rfl rfl (.cons rfl FitsL.nil) (by decide) 16 rfl ?_
  unfold r_impl_Form_isNormal at h
  show V _ _ ⟨.ag [Ti f1.1, Ti f1.2.1, Ti f1.2.2] :: bt 15 [], []⟩ _
  refine V_e (mb 16 2) [8] (s1 := ⟨.bot :: .pt 8 0 :: bt 14 [], [(8, .box [Ti f1.1, Ti f1.2.1, Ti f1.2.2])]⟩) ?_
  obtain ⟨t3, ht3, h⟩ := of_bind h
  have ht3 := some_inj ht3
  refine V_sreg (mb 16 4) [] (s1 := ⟨.bot :: .bot :: Bo t3 :: bt 13 [], []⟩) ?_ ?_
  ·refine XR 7 ?_
   refine XL_split (ltI (w64 (0 - f1.1)) f1.2.1) (fun hc2 => ?_) (fun hc2 => ?_)
   ·refine XL_takeC _ rfl rfl (by kernel_rfl) hc2 (X_of_Y0 rfl (E_field (.pt 8 1) Try.underlying45 rfl sz3 rfl (by kernel_rfl) (by intro hh; cases hh))) ?_
    refine XL_takeC _ rfl rfl (by kernel_rfl) hc2 (X_of_Y0 rfl (Y0_load1 (c := Ti f1.2.1) (cs := [Ti f1.2.2]) sc3 rfl (by kernel_rfl))) ?_
    refine XL_takeC _ rfl rfl (by kernel_rfl) hc2 (X_of_Y0 rfl (E_field (.pt 8 0) Try.underlying45 rfl sz3 rfl (by kernel_rfl) (by intro hh; cases hh))) ?_
    refine XL_takeC _ rfl rfl (by kernel_rfl) hc2 (X_of_Y0 rfl (Y0_load1 (c := Ti f1.1) (cs := [Ti f1.2.1, Ti f1.2.2]) sc3 rfl (by kernel_rfl))) ?_
    refine XL_takeC _ rfl rfl (by kernel_rfl) hc2 (X_of_Y0 rfl (Y0_lew (k := .i64) (a := f1.2.1) (b := f1.1) rfl (by kernel_rfl) (by kernel_rfl))) ?_
    refine XL_cons rfl (X_of_Y0 rfl (Y0_pick1 (b := ltI (w64 (0 - f1.1)) f1.2.1) (p := leI f1.2.1 f1.1) (q := false) rfl (by kernel_rfl) hc2 (by kernel_rfl))) ?_
    refine XR 1 ?_
    refine XL_nil ?_
    subst ht3
    kernel_rfl
   ·refine XL_skipT _ rfl rfl (by kernel_rfl) hc2 rfl ?_
    refine XL_skipT _ rfl rfl (by kernel_rfl) hc2 rfl ?_
    refine XL_skipT _ rfl rfl (by kernel_rfl) hc2 rfl ?_
    refine XL_skipT _ rfl rfl (by kernel_rfl) hc2 rfl ?_
    refine XL_skipT _ rfl rfl (by kernel_rfl) hc2 rfl ?_
    refine XL_cons rfl (X_of_Y0 rfl (Y0_pick0 (b := ltI (w64 (0 - f1.1)) f1.2.1) (p := leI f1.2.1 f1.1) (q := false) rfl (by kernel_rfl) hc2 (by kernel_rfl))) ?_
    refine XR 1 ?_
    refine XL_nil ?_
    subst ht3
    kernel_rfl
  refine V_ret ?_
  obtain rfl := some_inj h
  show Post _ _ _ _ _
  exact ⟨.inr rfl, rfl, rfl, rfl⟩
theorem cf_impl_Form_isReduced : ∀ args w, (callFunc 203 args).run Try.prog w = .ok (.enter 203 args) w := run_callFunc Try.func203 (by kernel_rfl) (by kernel_rfl)
theorem s_impl_Form_isReduced {f1 : (Int × Int × Int)} {r : Bool} (h : r_impl_Form_isReduced f1 = some r) : CallS Try.prog 203 [.ag [Ti f1.1, Ti f1.2.1, Ti f1.2.2]] (Bo r) [] := by
  refine CallS_of_text (rs := [.t 2]) (vs := [.tmp 2]) Try.func203 rfl rfl (.cons rfl FitsL.nil) (by decide) 24 rfl ?_
  unfold r_impl_Form_isReduced at h
  show V _ _ ⟨.ag [Ti f1.1, Ti f1.2.1, Ti f1.2.2] :: bt 23 [], []⟩ _
  refine V_e (mb 24 2) [8] (s1 := ⟨.bot :: .pt 8 0 :: bt 22 [], [(8, .box [Ti f1.1, Ti f1.2.1, Ti f1.2.2])]⟩) ?_
  obtain ⟨y2, hy2, h⟩ := of_bind h
  obtain ⟨t6, ht6, h⟩ := of_bind h
  have ht6 := some_inj ht6
  refine V_sreg (mb 24 4) [] (s1 := ⟨.bot :: .bot :: Bo t6 :: bt 21 [], []⟩) ?_ ?_
  ·refine XR 1 ?_
   refine XC (s_impl_Form_isNormal hy2) cf_impl_Form_isNormal rfl rfl rfl ?_
   refine XR 1 ?_
   refine XL_split y2 (fun hc3 => ?_) (fun hc3 => ?_)
   ·refine XL_takeC _ rfl rfl (by kernel_rfl) hc3 (X_of_Y0 rfl (E_field (.pt 8 0) Try.underlying45 rfl sz3 rfl (by kernel_rfl) (by intro hh; cases hh))) ?_
    refine XL_takeC _ rfl rfl (by kernel_rfl) hc3 (X_of_Y0 rfl (Y0_load1 (c := Ti f1.1) (cs := [Ti f1.2.1, Ti f1.2.2]) sc3 rfl (by kernel_rfl))) ?_
    refine XL_takeC _ rfl rfl (by kernel_rfl) hc3 (X_of_Y0 rfl (E_field (.pt 8 2) Try.underlying45 rfl sz3 rfl (by kernel_rfl) (by intro hh; cases hh))) ?_
    refine XL_takeC _ rfl rfl (by kernel_rfl) hc3 (X_of_Y0 rfl (Y0_load1 (c := Ti f1.2.2) (cs := []) sc3 rfl (by kernel_rfl))) ?_
    refine XL_takeC _ rfl rfl (by kernel_rfl) hc3 (X_of_Y0 rfl (Y0_ltw (k := .i64) (a := f1.1) (b := f1.2.2) rfl (by kernel_rfl) (by kernel_rfl))) ?_
    refine XL_takeC _ rfl rfl (by kernel_rfl) hc3 (X_of_Y0 rfl (E_move (Bo (ltI f1.1 f1.2.2)) rfl (by kernel_rfl))) ?_
    refine XL_split (ltI f1.1 f1.2.2) (fun hc4 => ?_) (fun hc4 => ?_)
    ·refine XL_skipF _ rfl rfl (by kernel_rfl) hc4 rfl ?_
     refine XL_skipF _ rfl rfl (by kernel_rfl) hc4 rfl ?_
     refine XL_skipF _ rfl rfl (by kernel_rfl) hc4 rfl ?_
     refine XL_skipF _ rfl rfl (by kernel_rfl) hc4 rfl ?_
     refine XL_skipF _ rfl rfl (by kernel_rfl) hc4 rfl ?_
     refine XL_skipF _ rfl rfl (by kernel_rfl) hc4 rfl ?_
     refine XL_skip2 rfl rfl (by kernel_rfl) rfl ?_
     refine XL_skip2 rfl rfl (by kernel_rfl) rfl ?_
     refine XL_skip2 rfl rfl (by kernel_rfl) rfl ?_
     refine XL_skipF _ rfl rfl (by kernel_rfl) hc4 rfl ?_
     refine XL_takeC _ rfl rfl (by kernel_rfl) hc3 (X_of_Y0 rfl (Y0_pick1 (b := ltI f1.1 f1.2.2) (p := true) (q := bif (eqI f1.1 f1.2.2) then (leI 0 f1.2.1) else false) rfl (by kernel_rfl) hc4 (by kernel_rfl))) ?_
     refine XL_cons rfl (X_of_Y0 rfl (Y0_pick1 (b := y2) (p := bif (ltI f1.1 f1.2.2) then true else (bif (eqI f1.1 f1.2.2) then (leI 0 f1.2.1) else false)) (q := false) rfl (by kernel_rfl) hc3 (by kernel_rfl))) ?_
     refine XR 1 ?_
     refine XL_nil ?_
     subst ht6
     kernel_rfl
    ·refine XL_takeC _ rfl rfl (by kernel_rfl) hc4 (X_of_Y0 rfl (E_field (.pt 8 0) Try.underlying45 rfl sz3 rfl (by kernel_rfl) (by intro hh; cases hh))) ?_
     refine XL_takeC _ rfl rfl (by kernel_rfl) hc4 (X_of_Y0 rfl (Y0_load1 (c := Ti f1.1) (cs := [Ti f1.2.1, Ti f1.2.2]) sc3 rfl (by kernel_rfl))) ?_
     refine XL_takeC _ rfl rfl (by kernel_rfl) hc4 (X_of_Y0 rfl (E_field (.pt 8 2) Try.underlying45 rfl sz3 rfl (by kernel_rfl) (by intro hh; cases hh))) ?_
     refine XL_takeC _ rfl rfl (by kernel_rfl) hc4 (X_of_Y0 rfl (Y0_load1 (c := Ti f1.2.2) (cs := []) sc3 rfl (by kernel_rfl))) ?_
     refine XL_takeC _ rfl rfl (by kernel_rfl) hc4 (X_of_Y0 rfl (Y0_eqw (k := .i64) (a := f1.1) (b := f1.2.2) rfl (by kernel_rfl) (by kernel_rfl))) ?_
     refine XL_takeC _ rfl rfl (by kernel_rfl) hc4 (X_of_Y0 rfl (E_move (Bo (eqI f1.1 f1.2.2)) rfl (by kernel_rfl))) ?_
     refine XL_split (eqI f1.1 f1.2.2) (fun hc5 => ?_) (fun hc5 => ?_)
     ·refine XL_takeC _ rfl rfl (by kernel_rfl) hc5 (X_of_Y0 rfl (E_field (.pt 8 1) Try.underlying45 rfl sz3 rfl (by kernel_rfl) (by intro hh; cases hh))) ?_
      refine XL_takeC _ rfl rfl (by kernel_rfl) hc5 (X_of_Y0 rfl (Y0_load1 (c := Ti f1.2.1) (cs := [Ti f1.2.2]) sc3 rfl (by kernel_rfl))) ?_
      refine XL_takeC _ rfl rfl (by kernel_rfl) hc5 (X_of_Y0 rfl (Y0_gew (k := .i64) (a := f1.2.1) (b := 0) rfl (by kernel_rfl) (by kernel_rfl))) ?_
      refine XL_takeC _ rfl rfl (by kernel_rfl) hc4 (X_of_Y0 rfl (Y0_pick1 (b := eqI f1.1 f1.2.2) (p := leI 0 f1.2.1) (q := false) rfl (by kernel_rfl) hc5 (by kernel_rfl))) ?_
      refine XL_takeC _ rfl rfl (by kernel_rfl) hc3 (X_of_Y0 rfl (Y0_pick0 (b := ltI f1.1 f1.2.2) (p := true) (q := bif (eqI f1.1 f1.2.2) then (leI 0 f1.2.1) else false) rfl (by kernel_rfl) hc4 (by kernel_rfl))) ?_
      refine XL_cons rfl (X_of_Y0 rfl (Y0_pick1 (b := y2) (p := bif (ltI f1.1 f1.2.2) then true else (bif (eqI f1.1 f1.2.2) then (leI 0 f1.2.1) else false)) (q := false) rfl (by kernel_rfl) hc3 (by kernel_rfl))) ?_
      refine XR 1 ?_
      refine XL_nil ?_
      subst ht6
      kernel_rfl
     ·refine XL_skipT _ rfl rfl (by kernel_rfl) hc5 rfl ?_
      refine XL_skipT _ rfl rfl (by kernel_rfl) hc5 rfl ?_
      refine XL_skipT _ rfl rfl (by kernel_rfl) hc5 rfl ?_
      refine XL_takeC _ rfl rfl (by kernel_rfl) hc4 (X_of_Y0 rfl (Y0_pick0 (b := eqI f1.1 f1.2.2) (p := leI 0 f1.2.1) (q := false) rfl (by kernel_rfl) hc5 (by kernel_rfl))) ?_
      refine XL_takeC _ rfl rfl (by kernel_rfl) hc3 (X_of_Y0 rfl (Y0_pick0 (b := ltI f1.1 f1.2.2) (p := true) (q := bif (eqI f1.1 f1.2.2) then (leI 0 f1.2.1) else false) rfl (by kernel_rfl) hc4 (by kernel_rfl))) ?_
      refine XL_cons rfl (X_of_Y0 rfl (Y0_pick1 (b := y2) (p := bif (ltI f1.1 f1.2.2) then true else (bif (eqI f1.1 f1.2.2) then (leI 0 f1.2.1) else false)) (q := false) rfl (by kernel_rfl) hc3 (by kernel_rfl))) ?_
      refine XR 1 ?_
      refine XL_nil ?_
      subst ht6
      kernel_rfl
   ·refine XL_skipT _ rfl rfl (by kernel_rfl) hc3 rfl ?_
    refine XL_skipT _ rfl rfl (by kernel_rfl) hc3 rfl ?_
    refine XL_skipT _ rfl rfl (by kernel_rfl) hc3 rfl ?_
    refine XL_skipT _ rfl rfl (by kernel_rfl) hc3 rfl ?_
    refine XL_skipT _ rfl rfl (by kernel_rfl) hc3 rfl ?_
    refine XL_skipT _ rfl rfl (by kernel_rfl) hc3 rfl ?_
    refine XL_skip2 rfl rfl (by kernel_rfl) rfl ?_
    refine XL_skip2 rfl rfl (by kernel_rfl) rfl ?_
    refine XL_skip2 rfl rfl (by kernel_rfl) rfl ?_
    refine XL_skip2 rfl rfl (by kernel_rfl) rfl ?_
    refine XL_skip2 rfl rfl (by kernel_rfl) rfl ?_
    refine XL_skip2 rfl rfl (by kernel_rfl) rfl ?_
    refine XL_skip2 rfl rfl (by kernel_rfl) rfl ?_
    refine XL_skip2 rfl rfl (by kernel_rfl) rfl ?_
    refine XL_skip2 rfl rfl (by kernel_rfl) rfl ?_
    refine XL_skip2 rfl rfl (by kernel_rfl) rfl ?_
    refine XL_skipT _ rfl rfl (by kernel_rfl) hc3 rfl ?_
    refine XL_cons rfl (X_of_Y0 rfl (Y0_pick0 (b := y2) (p := bif (ltI f1.1 f1.2.2) then true else (bif (eqI f1.1 f1.2.2) then (leI 0 f1.2.1) else false)) (q := false) rfl (by kernel_rfl) hc3 (by kernel_rfl))) ?_
    refine XR 1 ?_
    refine XL_nil ?_
    subst ht6
    kernel_rfl
  refine V_ret ?_
  obtain rfl := some_inj h
  show Post _ _ _ _ _
  exact ⟨.inr rfl, rfl, rfl, rfl⟩
theorem cf_impl_allReduced : ∀ args w, (callFunc 160 args).run Try.prog w = .ok (.enter 160 args) w := run_callFunc Try.func160 (by kernel_rfl) (by kernel_rfl)
theorem s_impl_allReduced {d1 : Int} {r : List ((Int × Int × Int))} (h : r_impl_allReduced d1 = some r) : CallS Try.prog 160 [I d1] (.ow 0) [(0, .arr 45 3 (r.map c45))] := by
  refine CallS_of_text (rs := [.t 2]) (vs := [.tmp 2]) Try.func160 rfl rfl (.cons rfl FitsL.nil) (by decide) 51 rfl ?_
  unfold r_impl_allReduced at h
  show V _ _ ⟨I d1 :: bt 50 [], []⟩ _
  refine V_sreg (mb 51 1) [] (s1 := ⟨I d1 :: bt 50 [], []⟩) ?_ ?_
  ·refine L1 rfl rfl (Y1_nil (e := 45) 3 (by decide) (.inl rfl)) ?_
   exact XE
  refine V_sreg (mb 51 9) [56] (s1 := ⟨I d1 :: .bot :: .bot :: .ow 56 :: bt 47 [], [(56, .arr 45 3 ((([] : List ((Int × Int × Int)))).map c45))]⟩) ?_ ?_
  ·refine L1 rfl rfl (Y1_bslice0 Try.underlying62 sz45 (by decide) rfl rfl) ?_
   exact XE
  refine V_seq ?_
  refine V_e (mb 51 25) [56] (s1 := ⟨I d1 :: .bot :: .bot :: .ow 56 :: I 1 :: bt 46 [], [(56, .arr 45 3 ((([] : List ((Int × Int × Int)))).map c45))]⟩) ?_
  obtain ⟨o5, hLo5, h⟩ := of_bind h
  refine V_toK (mb 51 8) [56] (s1 := ⟨bt 3 (.ow 56 :: bt 47 []), [(56, .arr 45 3 (o5.map c45))]⟩) ?_ ?_
  ·clear h
   refine V_block (V_loop (fun n s => ∃ (a2 : Int) (l3 : List ((Int × Int × Int))), s.keep (mb 51 25) [56] = (⟨I d1 :: .bot :: .bot :: .ow 56 :: I a2 :: bt 46 [], [(56, .arr 45 3 (l3.map c45))]⟩ : St) ∧ r_impl_allReduced_L4 d1 n a2 l3 = some o5) FU ⟨_, _,  by rfl, hLo5⟩ ?_)
   clear hLo5
   rintro n s ⟨a2, l3, hs, h⟩
   refine V_keep _ _ hs ?_
   clear hs
   cases n with
   | zero => cases h
   | succ n =>
    rw [r_impl_allReduced_L4] at h
    refine V_seq ?_
    refine V_e (mb 51 16409) [56] (s1 := ⟨I d1 :: .bot :: .bot :: .ow 56 :: I a2 :: bt 9 (Bo (leI (w64 ((w64 (3 * a2)) * a2)) (w64 (0 - d1))) :: bt 36 []), [(56, .arr 45 3 (l3.map c45))]⟩) ?_
    refine V_cond rfl (fun hc6 => ?_) (fun hc6 => ?_)
    ·have h := of_true h hc6
     refine V_skip ?_
     show V _ _ _ _
     refine V_seq ?_
     refine V_block ?_
     obtain ⟨b7, hb7, h⟩ := of_sI h
     refine V_sreg (mb 51 57) [56] (s1 := ⟨I d1 :: .bot :: .bot :: .ow 56 :: I a2 :: I b7 :: bt 45 [], [(56, .arr 45 3 (l3.map c45))]⟩) ?_ ?_
     ·refine XR 3 ?_
      refine XL_nil ?_
      subst hb7
      kernel_rfl
     obtain ⟨o11, hLo11, h⟩ := of_bind h
     refine V_toK (mb 51 25) [56] (s1 := ⟨I d1 :: .bot :: .bot :: .ow 56 :: I a2 :: bt 46 [], [(56, .arr 45 3 (o11.map c45))]⟩) ?_ ?_
     ·clear h
      refine V_block (V_loop (fun n s => ∃ (b8 : Int) (l9 : List ((Int × Int × Int))), s.keep (mb 51 57) [56] = (⟨I d1 :: .bot :: .bot :: .ow 56 :: I a2 :: I b8 :: bt 45 [], [(56, .arr 45 3 (l9.map c45))]⟩ : St) ∧ r_impl_allReduced_L10 a2 d1 n b8 l9 = some o11) FU ⟨_, _,  by rfl, hLo11⟩ ?_)
      clear hLo11
      rintro n s ⟨b8, l9, hs, h⟩
      refine V_keep _ _ hs ?_
      clear hs
      cases n with
      | zero => cases h
      | succ n =>
       rw [r_impl_allReduced_L10] at h
       refine V_seq ?_
       refine V_e (mb 51 2097209) [56] (s1 := ⟨I d1 :: .bot :: .bot :: .ow 56 :: I a2 :: I b8 :: bt 15 (Bo (leI b8 a2) :: bt 29 []), [(56, .arr 45 3 (l9.map c45))]⟩) ?_
       refine V_cond rfl (fun hc12 => ?_) (fun hc12 => ?_)
       ·have h := of_true h hc12
        refine V_skip ?_
        show V _ _ _ _
        refine V_seq ?_
        refine V_block ?_
        refine V_seq ?_
        obtain ⟨z13, hz13, h⟩ := of_bind h
        obtain ⟨t14, ht14, h⟩ := of_bind h
        have ht14 := some_inj ht14
        refine V_sreg (mb 51 4294967353) [56] (s1 := ⟨I d1 :: .bot :: .bot :: .ow 56 :: I a2 :: I b8 :: bt 26 (Bo t14 :: bt 18 []), [(56, .arr 45 3 (l9.map c45))]⟩) ?_ ?_
        ·refine XR 7 ?_
         refine L0 rfl rfl (Y0_rem (k := .i64) (a := w64 ((w64 (b8 * b8)) - d1)) (b := w64 (4 * a2)) rfl (by kernel_rfl) (by kernel_rfl) (nz_some hz13)) ?_
         refine XR 1 ?_
         refine XL_nil ?_
         subst ht14
         kernel_rfl
        refine V_cond rfl (fun hc15 => ?_) (fun hc15 => ?_)
        ·have h := of_true h hc15
         refine V_exit ?_
         show V _ _ _ _
         obtain ⟨b16, hb16, h⟩ := of_sI h
         refine V_reg (mb 51 57) [56] (s1 := ⟨I d1 :: .bot :: .bot :: .ow 56 :: I a2 :: I b16 :: bt 45 [], [(56, .arr 45 3 (l9.map c45))]⟩) ?_ ?_
         ·refine XR 3 ?_
          refine XL_nil ?_
          subst hb16
          kernel_rfl
         exact ⟨n, Nat.lt_succ_self n, _, _,  by rfl, h⟩
        ·have h := of_false h hc15
         refine V_skip ?_
         show V _ _ _ _
         obtain ⟨z17, hz17, h⟩ := of_bind h
         obtain ⟨f18, hf18, h⟩ := of_sI h
         refine V_sreg (mb 51 121) [48, 56] (s1 := ⟨I d1 :: .bot :: .bot :: .ow 56 :: I a2 :: I b8 :: .pt 48 0 :: bt 44 [], [(48, .box [Ti a2, Ti b8, Ti f18]), (56, .arr 45 3 (l9.map c45))]⟩) ?_ ?_
         ·refine XR 9 ?_
          refine L0 rfl rfl (Y0_quo64 (a := w64 ((w64 (b8 * b8)) - d1)) (b := w64 (4 * a2)) rfl (by kernel_rfl) (by kernel_rfl) (nz_some hz17)) ?_
          refine L0 rfl rfl (Y0_build (cs := [Ti a2, Ti b8, Ti (w64 (Int.tdiv (w64 ((w64 (b8 * b8)) - d1)) (w64 (4 * a2))))]) pl45 bt45 rfl rfl (by kernel_rfl)) ?_
          refine XR 2 ?_
          refine XL_nil ?_
          subst hf18
          kernel_rfl
         obtain ⟨y19, hy19, h⟩ := of_bind h
         refine V_sreg (mb 51 35184372088953) [48, 56] (s1 := ⟨I d1 :: .bot :: .bot :: .ow 56 :: I a2 :: I b8 :: .pt 48 0 :: bt 38 (Bo y19 :: bt 5 []), [(48, .box [Ti a2, Ti b8, Ti f18]), (56, .arr 45 3 (l9.map c45))]⟩) ?_ ?_
         ·refine XR 1 ?_
          refine XC (s_impl_Form_isReduced hy19) cf_impl_Form_isReduced rfl rfl rfl ?_
          exact XE
         refine V_cond rfl (fun hc20 => ?_) (fun hc20 => ?_)
         ·have h := of_true h hc20
          obtain ⟨u21, hu21, h⟩ := of_bind h
          refine V_reg (mb 51 57) [56] (s1 := ⟨I d1 :: .bot :: .bot :: .ow 56 :: I a2 :: I b8 :: bt 45 [], [(56, .arr 45 3 ((l9 ++ ([(a2, b8, f18)])).map c45))]⟩) ?_ ?_
          ·refine XR 2 ?_
           refine L1 rfl rfl (Y1_bslice (z := zv45) (els := [(a2, b8, f18)].map c45) Try.underlying62 iz45 rfl (by decide) rfl (by kernel_rfl) rfl (by simp [c45]) (by decide) (by decide)) ?_
           refine XL_cons rfl (X_appendM (c := c45) (xs := l9) (ys := [(a2, b8, f18)]) (id := 56) (z := zv45) rfl rfl Try.underlying62 izb45 rfl (by kernel_rfl) (by kernel_rfl) (by kernel_rfl) (fun _ => rfl) (by simp) (room_some hu21) (by decide)) ?_
           exact XE
          show V _ _ _ _
          obtain ⟨b22, hb22, h⟩ := of_sI h
          refine V_reg (mb 51 57) [56] (s1 := ⟨I d1 :: .bot :: .bot :: .ow 56 :: I a2 :: I b22 :: bt 45 [], [(56, .arr 45 3 ((l9 ++ ([(a2, b8, f18)])).map c45))]⟩) ?_ ?_
          ·refine XR 3 ?_
           refine XL_nil ?_
           subst hb22
           kernel_rfl
          exact ⟨n, Nat.lt_succ_self n, _, _,  by rfl, h⟩
         ·have h := of_false h hc20
          refine V_skip ?_
          show V _ _ _ _
          obtain ⟨b23, hb23, h⟩ := of_sI h
          refine V_reg (mb 51 57) [56] (s1 := ⟨I d1 :: .bot :: .bot :: .ow 56 :: I a2 :: I b23 :: bt 45 [], [(56, .arr 45 3 (l9.map c45))]⟩) ?_ ?_
          ·refine XR 3 ?_
           refine XL_nil ?_
           subst hb23
           kernel_rfl
          exact ⟨n, Nat.lt_succ_self n, _, _,  by rfl, h⟩
       ·have h := of_false h hc12
        refine V_exit ?_
        obtain rfl := some_inj h
        show St.keep _ _ _ = _
        rfl
     show V _ _ _ _
     obtain ⟨a24, ha24, h⟩ := of_sI h
     refine V_reg (mb 51 25) [56] (s1 := ⟨I d1 :: .bot :: .bot :: .ow 56 :: I a24 :: bt 46 [], [(56, .arr 45 3 (o11.map c45))]⟩) ?_ ?_
     ·refine XR 3 ?_
      refine XL_nil ?_
      subst ha24
      kernel_rfl
     exact ⟨n, Nat.lt_succ_self n, _, _,  by rfl, h⟩
    ·have h := of_false h hc6
     refine V_exit ?_
     obtain rfl := some_inj h
     show St.keep _ _ _ = _
     rfl
  show V _ _ _ _
  refine V_e (mb 51 4) [56] (s1 := ⟨.bot :: .bot :: .ow 56 :: bt 48 [], [(56, .arr 45 3 (o5.map c45))]⟩) ?_
  refine V_ret ?_
  obtain rfl := some_inj h
  show Post _ _ _ _ _
  exact ⟨.inr rfl, rfl, rfl, rfl⟩
theorem cf_impl_Form_content : ∀ args w, (callFunc 178 args).run Try.prog w = .ok (.enter 178 args) w := run_callFunc Try.func178 (by kernel_rfl) (by kernel_rfl)
theorem s_impl_Form_content {f1 : (Int × Int × Int)} {r : Int} (h : r_impl_Form_content f1 = some r) : CallS Try.prog 178 [.ag [Ti f1.1, Ti f1.2.1, Ti f1.2.2]] (I r) [] := by
  refine CallS_of_text (rs := [.t 2]) (vs := [.tmp 2]) Try.func178 rfl rfl (.cons rfl FitsL.nil) (by decide) 11 rfl ?_
  unfold r_impl_Form_content at h
  show V _ _ ⟨.ag [Ti f1.1, Ti f1.2.1, Ti f1.2.2] :: bt 10 [], []⟩ _
  refine V_e (mb 11 2) [8] (s1 := ⟨.bot :: .pt 8 0 :: bt 9 [], [(8, .box [Ti f1.1, Ti f1.2.1, Ti f1.2.2])]⟩) ?_
  obtain ⟨y2, hy2, h⟩ := of_bind h
  obtain ⟨y3, hy3, h⟩ := of_bind h
  refine V_sdreg [0, 1, 0, 4, 0, 16, 60, 127, 255] 9 (cdm 9 [10912, 10913, 2570, 2586, 170, 426, 1370, 5461, 21845]) (mb 11 4) [] (s1 := ⟨.bot :: .bot :: I y3 :: bt 8 [], []⟩) (by kernel_rfl) (by kernel_rfl) ?_ ?_
  ·refine DR 6 ?_
   refine DC 6 (s_impl_gcd hy2) cf_impl_gcd rfl rfl rfl rfl 9 rfl ?_
   refine DC 7 (s_impl_gcd hy3) cf_impl_gcd rfl rfl rfl rfl 10 rfl ?_
   refine DA 1 ?_
   exact XE
  refine V_ret ?_
  obtain rfl := some_inj h
  show Post _ _ _ _ _
  exact ⟨.inr rfl, rfl, rfl, rfl⟩
theorem cf_impl_primitiveOf : ∀ args w, (callFunc 159 args).run Try.prog w = .ok (.enter 159 args) w := run_callFunc Try.func159 (by kernel_rfl) (by kernel_rfl)
theorem s_impl_primitiveOf {forms1 : List ((Int × Int × Int))} {r : List ((Int × Int × Int))} (h : r_impl_primitiveOf forms1 = some r) : CallS Try.prog 159 [.c (.sl (forms1.map c45))] (.ow 0) [(0, .arr 45 3 (r.map c45))] := by
  refine CallS_of_text (rs := [.t 2]) (vs := [.tmp 2]) Try.func159 rfl rfl (.cons rfl FitsL.nil) (by decide) 22 rfl ?_
  unfold r_impl_primitiveOf at h
  show V _ _ ⟨.c (.sl (forms1.map c45)) :: bt 21 [], []⟩ _
  refine V_sreg (mb 22 1) [] (s1 := ⟨.c (.sl (forms1.map c45)) :: bt 21 [], []⟩) ?_ ?_
  ·refine L1 rfl rfl (Y1_nil (e := 45) 3 (by decide) (.inl rfl)) ?_
   exact XE
  refine V_sreg (mb 22 9) [48] (s1 := ⟨.c (.sl (forms1.map c45)) :: .bot :: .bot :: .ow 48 :: bt 18 [], [(48, .arr 45 3 ((([] : List ((Int × Int × Int)))).map c45))]⟩) ?_ ?_
  ·refine L1 rfl rfl (Y1_bslice0 Try.underlying62 sz45 (by decide) rfl rfl) ?_
   exact XE
  refine V_seq ?_
  refine V_sreg (mb 22 904) [48] (s1 := ⟨bt 3 (.ow 48 :: bt 3 (.c (.sl (forms1.map c45)) :: I ((forms1.length : Int)) :: I 0 :: bt 12 [])), [(48, .arr 45 3 ((([] : List ((Int × Int × Int)))).map c45))]⟩) ?_ ?_
  ·refine XR 1 ?_
   refine L0 rfl rfl (Y0_lenM (c := c45) (xs := forms1) Try.underlying62 rfl (by kernel_rfl)) ?_
   exact XE
  obtain ⟨o5, hLo5, h⟩ := of_bind h
  refine V_toK (mb 22 8) [48] (s1 := ⟨bt 3 (.ow 48 :: bt 18 []), [(48, .arr 45 3 (o5.map c45))]⟩) ?_ ?_
  ·clear h
   refine V_block (V_loop (fun n s => ∃ (t2 : Int) (l3 : List ((Int × Int × Int))), s.keep (mb 22 904) [48] = (⟨bt 3 (.ow 48 :: bt 3 (.c (.sl (forms1.map c45)) :: I ((forms1.length : Int)) :: I t2 :: bt 12 [])), [(48, .arr 45 3 (l3.map c45))]⟩ : St) ∧ r_impl_primitiveOf_L4 forms1 n t2 l3 = some o5) FU ⟨_, _,  by rfl, hLo5⟩ ?_)
   clear hLo5
   rintro n s ⟨t2, l3, hs, h⟩
   refine V_keep _ _ hs ?_
   clear hs
   cases n with
   | zero => cases h
   | succ n =>
    rw [r_impl_primitiveOf_L4] at h
    refine V_e (mb 22 1928) [48] (s1 := ⟨bt 3 (.ow 48 :: bt 3 (.c (.sl (forms1.map c45)) :: I ((forms1.length : Int)) :: I t2 :: Bo (ltI t2 ((forms1.length : Int))) :: bt 11 [])), [(48, .arr 45 3 (l3.map c45))]⟩) ?_
    refine V_seq ?_
    refine V_cond rfl (fun hc6 => ?_) (fun hc6 => ?_)
    ·have h := of_true h hc6
     refine V_skip ?_
     show V _ _ _ _
     refine V_seq ?_
     refine V_block ?_
     obtain ⟨e7, he7, h⟩ := of_bind h
     refine V_sreg (mb 22 936) [40, 48] (s1 := ⟨bt 3 (.ow 48 :: .bot :: .pt 40 0 :: .bot :: .c (.sl (forms1.map c45)) :: I ((forms1.length : Int)) :: I t2 :: bt 12 []), [(40, .box [Ti e7.1, Ti e7.2.1, Ti e7.2.2]), (48, .arr 45 3 (l3.map c45))]⟩) ?_ ?_
     ·refine L0 rfl rfl (Y0_idxM (c := c45) (xs := forms1) (v := e7) (n := t2) Try.underlying62 sz45 rfl (by kernel_rfl) (by kernel_rfl) he7) ?_
      exact XE
     obtain ⟨y8, hy8, h⟩ := of_bind h
     refine V_sreg (mb 22 33704) [40, 48] (s1 := ⟨bt 3 (.ow 48 :: .bot :: .pt 40 0 :: .bot :: .c (.sl (forms1.map c45)) :: I ((forms1.length : Int)) :: I t2 :: bt 5 (Bo (eqI y8 1) :: bt 6 [])), [(40, .box [Ti e7.1, Ti e7.2.1, Ti e7.2.2]), (48, .arr 45 3 (l3.map c45))]⟩) ?_ ?_
     ·refine XR 1 ?_
      refine XC (s_impl_Form_content hy8) cf_impl_Form_content rfl rfl rfl ?_
      exact XE
     refine V_cond rfl (fun hc9 => ?_) (fun hc9 => ?_)
     ·have h := of_true h hc9
      obtain ⟨u10, hu10, h⟩ := of_bind h
      refine V_reg (mb 22 904) [48] (s1 := ⟨bt 3 (.ow 48 :: bt 3 (.c (.sl (forms1.map c45)) :: I ((forms1.length : Int)) :: I t2 :: bt 12 [])), [(48, .arr 45 3 ((l3 ++ ([e7])).map c45))]⟩) ?_ ?_
      ·refine XR 2 ?_
       refine L1 rfl rfl (Y1_bslice (z := zv45) (els := [e7].map c45) Try.underlying62 iz45 rfl (by decide) rfl (by kernel_rfl) rfl (by simp [c45]) (by decide) (by decide)) ?_
       refine XL_cons rfl (X_appendM (c := c45) (xs := l3) (ys := [e7]) (id := 48) (z := zv45) rfl rfl Try.underlying62 izb45 rfl (by kernel_rfl) (by kernel_rfl) (by kernel_rfl) (fun _ => rfl) (by simp) (room_some hu10) (by decide)) ?_
       exact XE
      show V _ _ _ _
      obtain ⟨t11, ht11, h⟩ := of_sI h
      refine V_reg (mb 22 904) [48] (s1 := ⟨bt 3 (.ow 48 :: bt 3 (.c (.sl (forms1.map c45)) :: I ((forms1.length : Int)) :: I t11 :: bt 12 [])), [(48, .arr 45 3 ((l3 ++ ([e7])).map c45))]⟩) ?_ ?_
      ·refine XR 2 ?_
       refine XL_nil ?_
       subst ht11
       kernel_rfl
      exact ⟨n, Nat.lt_succ_self n, _, _,  by rfl, h⟩
     ·have h := of_false h hc9
      refine V_skip ?_
      show V _ _ _ _
      obtain ⟨t12, ht12, h⟩ := of_sI h
      refine V_reg (mb 22 904) [48] (s1 := ⟨bt 3 (.ow 48 :: bt 3 (.c (.sl (forms1.map c45)) :: I ((forms1.length : Int)) :: I t12 :: bt 12 [])), [(48, .arr 45 3 (l3.map c45))]⟩) ?_ ?_
      ·refine XR 2 ?_
       refine XL_nil ?_
       subst ht12
       kernel_rfl
      exact ⟨n, Nat.lt_succ_self n, _, _,  by rfl, h⟩
    ·have h := of_false h hc6
     refine V_exit ?_
     obtain rfl := some_inj h
     show St.keep _ _ _ = _
     rfl
  show V _ _ _ _
  refine V_e (mb 22 4) [48] (s1 := ⟨.bot :: .bot :: .ow 48 :: bt 19 [], [(48, .arr 45 3 (o5.map c45))]⟩) ?_
  refine V_ret ?_
  obtain rfl := some_inj h
  show Post _ _ _ _ _
  exact ⟨.inr rfl, rfl, rfl, rfl⟩
theorem cf_impl_reducedForms : ∀ args w, (callFunc 100 args).run Try.prog w = .ok (.enter 100 args) w := run_callFunc Try.func100 (by kernel_rfl) (by kernel_rfl)
theorem s_impl_reducedForms {d1 : Int} {r : List ((Int × Int × Int))} (h : r_impl_reducedForms d1 = some r) : CallS Try.prog 100 [I d1] (.ow 0) [(0, .arr 45 3 (r.map c45))] := by
  refine CallS_of_text (rs := [.t 2]) (vs := [.tmp 2]) Try.func100 rfl rfl (.cons rfl FitsL.nil) (by decide) 6 rfl ?_
  unfold r_impl_reducedForms at h
  show V _ _ ⟨I d1 :: bt 5 [], []⟩ _
  refine V_sreg (mb 6 1) [] (s1 := ⟨I d1 :: bt 5 [], []⟩) ?_ ?_
  ·refine L1 rfl rfl (Y1_nil (e := 45) 3 (by decide) (.inl rfl)) ?_
   exact XE
  obtain ⟨y2, hy2, h⟩ := of_bind h
  obtain ⟨y3, hy3, h⟩ := of_bind h
  refine V_sreg (mb 6 4) [40] (s1 := ⟨.bot :: .bot :: .ow 40 :: bt 3 [], [(40, .arr 45 3 (y3.map c45))]⟩) ?_ ?_
  ·refine XR 1 ?_
   refine XC (s_impl_allReduced hy2) cf_impl_allReduced rfl rfl rfl ?_
   refine L1 rfl rfl (Y1_callS (s_impl_primitiveOf hy3) cf_impl_primitiveOf rfl (by kernel_rfl) rfl (flatE_cons (fun _ => rfl) rfl)) ?_
   exact XE
  refine V_ret ?_
  obtain rfl := some_inj h
  show Post _ _ _ _ _
  exact ⟨.inr rfl, rfl, rfl, rfl⟩
theorem cf_impl_Form_at : ∀ args w, (callFunc 131 args).run Try.prog w = .ok (.enter 131 args) w := run_callFunc Try.func131 (by kernel_rfl) (by kernel_rfl)
theorem s_impl_Form_at {f1 : (Int × Int × Int)} {x2 : Int} {y3 : Int} {r : Int} (h : r_impl_Form_at f1 x2 y3 = some r) : CallS Try.prog 131 [.ag [Ti f1.1, Ti f1.2.1, Ti f1.2.2], I x2, I y3] (I r) [] := by
  refine CallS_of_text (rs := [.t 6]) (vs := [.tmp 6]) Try.func131 rfl rfl (.cons rfl FitsL.nil) (by decide) 27 rfl ?_
  unfold r_impl_Form_at at h
  show V _ _ ⟨.ag [Ti f1.1, Ti f1.2.1, Ti f1.2.2] :: I x2 :: I y3 :: bt 24 [], []⟩ _
  refine V_e (mb 27 14) [24] (s1 := ⟨.bot :: I x2 :: I y3 :: .pt 24 0 :: bt 23 [], [(24, .box [Ti f1.1, Ti f1.2.1, Ti f1.2.2])]⟩) ?_
  obtain ⟨t4, ht4, h⟩ := of_sI h
  refine V_sreg (mb 27 64) [] (s1 := ⟨bt 6 (I t4 :: bt 20 []), []⟩) ?_ ?_
  ·refine XR 21 ?_
   refine XL_nil ?_
   subst ht4
   kernel_rfl
  refine V_ret ?_
  obtain rfl := some_inj h
  show Post _ _ _ _ _
  exact ⟨.inr rfl, rfl, rfl, rfl⟩
theorem cf_impl_firstPoint : ∀ args w, (callFunc 161 args).run Try.prog w = .ok (.enter 161 args) w := run_callFunc Try.func161 (by kernel_rfl) (by kernel_rfl)
theorem s_impl_firstPoint {g1 : (Int × Int × Int)} {a2 : Int} {r : (Int × Int)} (h : r_impl_firstPoint g1 a2 = some r) : CallS Try.prog 161 [.ag [Ti g1.1, Ti g1.2.1, Ti g1.2.2], I a2] (.tc (I r.1) (.tc (I r.2) .tn)) [] := by
  refine CallS_of_text (rs := [.t 4, .t 5]) (vs := [.tmp 4, .tmp 5]) Try.func161 rfl rfl (.cons rfl (.cons rfl FitsL.nil)) (by decide) 43 rfl ?_
  unfold r_impl_firstPoint at h
  show V _ _ ⟨.ag [Ti g1.1, Ti g1.2.1, Ti g1.2.2] :: I a2 :: bt 41 [], []⟩ _
  refine V_e (mb 43 6) [16] (s1 := ⟨.bot :: I a2 :: .pt 16 0 :: bt 40 [], [(16, .box [Ti g1.1, Ti g1.2.1, Ti g1.2.2])]⟩) ?_
  refine V_e (mb 43 70) [16] (s1 := ⟨.bot :: I a2 :: .pt 16 0 :: bt 3 (I 0 :: bt 36 []), [(16, .box [Ti g1.1, Ti g1.2.1, Ti g1.2.2])]⟩) ?_
  obtain ⟨qo5, hLo5, hko5⟩ := of_bind h
  refine V_toS (q := qo5) (S := fun _ => (⟨[], []⟩ : St)) [] [] ?_ ?_
  ·refine V_block (V_loop (fun n s => ∃ (size3 : Int), s.keep (mb 43 70) [16] = (⟨.bot :: I a2 :: .pt 16 0 :: bt 3 (I size3 :: bt 36 []), [(16, .box [Ti g1.1, Ti g1.2.1, Ti g1.2.2])]⟩ : St) ∧ r_impl_firstPoint_L4 a2 g1 n size3 = some qo5) FU ⟨_,  by rfl, hLo5⟩ ?_)
   clear hLo5
   rintro n s ⟨size3, hs, h⟩
   refine V_keep _ _ hs ?_
   clear hs
   cases n with
   | zero => cases h
   | succ n =>
    rw [r_impl_firstPoint_L4] at h
    refine V_seq ?_
    refine V_block ?_
    refine V_e (mb 43 198) [16] (s1 := ⟨.bot :: I a2 :: .pt 16 0 :: bt 3 (I size3 :: I 0 :: bt 35 []), [(16, .box [Ti g1.1, Ti g1.2.1, Ti g1.2.2])]⟩) ?_
    obtain ⟨qo8, hLo8, hko8⟩ := of_bind h
    refine V_toS (q := qo8) (S := fun o8 => ⟨.bot :: I a2 :: .pt 16 0 :: bt 3 (I size3 :: bt 36 []), [(16, .box [Ti g1.1, Ti g1.2.1, Ti g1.2.2])]⟩) (mb 43 70) [16] ?_ ?_
    ·refine V_block (V_loop (fun n s => ∃ (x6 : Int), s.keep (mb 43 198) [16] = (⟨.bot :: I a2 :: .pt 16 0 :: bt 3 (I size3 :: I x6 :: bt 35 []), [(16, .box [Ti g1.1, Ti g1.2.1, Ti g1.2.2])]⟩ : St) ∧ r_impl_firstPoint_L7 a2 g1 size3 n x6 = some qo8) FU ⟨_,  by rfl, hLo8⟩ ?_)
     clear hLo8
     rintro n s ⟨x6, hs, h⟩
     refine V_keep _ _ hs ?_
     clear hs
     cases n with
     | zero => cases h
     | succ n =>
      rw [r_impl_firstPoint_L7] at h
      refine V_seq ?_
      refine V_e (mb 43 8390) [16] (s1 := ⟨.bot :: I a2 :: .pt 16 0 :: bt 3 (I size3 :: I x6 :: bt 5 (Bo (leI x6 size3) :: bt 29 [])), [(16, .box [Ti g1.1, Ti g1.2.1, Ti g1.2.2])]⟩) ?_
      refine V_cond rfl (fun hc9 => ?_) (fun hc9 => ?_)
      ·have h := of_true h hc9
       refine V_skip ?_
       show V _ _ _ _
       refine V_seq ?_
       refine V_block ?_
       refine V_e (mb 43 454) [16] (s1 := ⟨.bot :: I a2 :: .pt 16 0 :: bt 3 (I size3 :: I x6 :: I 0 :: bt 34 []), [(16, .box [Ti g1.1, Ti g1.2.1, Ti g1.2.2])]⟩) ?_
       obtain ⟨qo12, hLo12, hko12⟩ := of_bind h
       refine V_toS (q := qo12) (S := fun o12 => ⟨.bot :: I a2 :: .pt 16 0 :: bt 3 (I size3 :: I x6 :: bt 35 []), [(16, .box [Ti g1.1, Ti g1.2.1, Ti g1.2.2])]⟩) (mb 43 198) [16] ?_ ?_
       ·refine V_block (V_loop (fun n s => ∃ (y10 : Int), s.keep (mb 43 454) [16] = (⟨.bot :: I a2 :: .pt 16 0 :: bt 3 (I size3 :: I x6 :: I y10 :: bt 34 []), [(16, .box [Ti g1.1, Ti g1.2.1, Ti g1.2.2])]⟩ : St) ∧ r_impl_firstPoint_L11 a2 g1 size3 x6 n y10 = some qo12) FU ⟨_,  by rfl, hLo12⟩ ?_)
        clear hLo12
        rintro n s ⟨y10, hs, h⟩
        refine V_keep _ _ hs ?_
        clear hs
        cases n with
        | zero => cases h
        | succ n =>
         rw [r_impl_firstPoint_L11] at h
         refine V_seq ?_
         refine V_e (mb 43 262598) [16] (s1 := ⟨.bot :: I a2 :: .pt 16 0 :: bt 3 (I size3 :: I x6 :: I y10 :: bt 9 (Bo (leI y10 size3) :: bt 24 [])), [(16, .box [Ti g1.1, Ti g1.2.1, Ti g1.2.2])]⟩) ?_
         refine V_cond rfl (fun hc13 => ?_) (fun hc13 => ?_)
         ·have h := of_true h hc13
          refine V_skip ?_
          show V _ _ _ _
          refine V_seq ?_
          refine V_block ?_
          obtain ⟨b16, hb16, h⟩ := of_bind h
          obtain ⟨b20, hb20, h⟩ := of_bind h
          refine V_sreg (mb 43 1099511628230) [16] (s1 := ⟨.bot :: I a2 :: .pt 16 0 :: bt 3 (I size3 :: I x6 :: I y10 :: bt 31 (Bo b20 :: .bot :: .bot :: [])), [(16, .box [Ti g1.1, Ti g1.2.1, Ti g1.2.2])]⟩) ?_ ?_
          ·refine XR 2 ?_
           refine L0 rfl rfl (Y0_max (a := x6) (b := y10) rfl (by kernel_rfl) (by kernel_rfl)) ?_
           refine XR 3 ?_
           refine XL_split (eqI (mxI x6 y10) size3) (fun hc14 => ?_) (fun hc14 => ?_)
           ·have hb16 := of_true hb16 hc14
            obtain ⟨y15, hy15, hb16⟩ := of_bind hb16
            have hb16 := some_inj hb16
            refine XL_takeC _ rfl rfl (by kernel_rfl) hc14 (X_of_Y0 rfl (E_move (I x6) rfl (by kernel_rfl))) ?_
            refine XL_takeC _ rfl rfl (by kernel_rfl) hc14 (X_of_Y0 rfl (E_move (I y10) rfl (by kernel_rfl))) ?_
            refine XL_takeC _ rfl rfl (by kernel_rfl) hc14 (X_of_Y1 rfl (Y1_call (s_impl_gcd hy15) cf_impl_gcd rfl (by kernel_rfl))) ?_
            refine XL_takeC _ rfl rfl (by kernel_rfl) hc14 (X_of_Y0 rfl (Y0_eqw (k := .i64) (a := y15) (b := 1) rfl (by kernel_rfl) (by kernel_rfl))) ?_
            refine XL_cons rfl (X_of_Y0 rfl (Y0_pickTe (b := eqI (mxI x6 y10) size3) (p := eqI y15 1) rfl (by kernel_rfl) hc14 (by kernel_rfl) hb16)) ?_
            refine XR 1 ?_
            refine XL_split b16 (fun hc17 => ?_) (fun hc17 => ?_)
            ·have hb20 := of_true hb20 hc17
             obtain ⟨y18, hy18, hb20⟩ := of_bind hb20
             obtain ⟨y19, hy19, hb20⟩ := of_bind hb20
             have hb20 := some_inj hb20
             refine XL_takeC _ rfl rfl (by kernel_rfl) hc17 (X_of_Y0 rfl (E_loadn (cs := [Ti g1.1, Ti g1.2.1, Ti g1.2.2]) [Ti g1.1, Ti g1.2.1, Ti g1.2.2] wd45 rfl (by kernel_rfl) (Nat.le_of_ble_eq_true rfl) (by kernel_rfl))) ?_
             refine XL_takeC _ rfl rfl (by kernel_rfl) hc17 (X_of_Y0 rfl (E_move (I x6) rfl (by kernel_rfl))) ?_
             refine XL_takeC _ rfl rfl (by kernel_rfl) hc17 (X_of_Y0 rfl (E_move (I y10) rfl (by kernel_rfl))) ?_
             refine XL_takeC _ rfl rfl (by kernel_rfl) hc17 (X_of_Y1 rfl (Y1_call (s_impl_Form_at hy18) cf_impl_Form_at rfl (by kernel_rfl))) ?_
             refine XL_takeC _ rfl rfl (by kernel_rfl) hc17 (X_of_Y0 rfl (E_move (I a2) rfl (by kernel_rfl))) ?_
             refine XL_takeC _ rfl rfl (by kernel_rfl) hc17 (X_of_Y1 rfl (Y1_call (s_impl_gcd hy19) cf_impl_gcd rfl (by kernel_rfl))) ?_
             refine XL_takeC _ rfl rfl (by kernel_rfl) hc17 (X_of_Y0 rfl (Y0_eqw (k := .i64) (a := y19) (b := 1) rfl (by kernel_rfl) (by kernel_rfl))) ?_
             refine XL_cons rfl (X_of_Y0 rfl (Y0_pickTe (b := b16) (p := eqI y19 1) rfl (by kernel_rfl) hc17 (by kernel_rfl) hb20)) ?_
             exact XE
            ·have hb20 := some_inj (of_false hb20 hc17)
             refine XL_skipT _ rfl rfl (by kernel_rfl) hc17 rfl ?_
             refine XL_skipT _ rfl rfl (by kernel_rfl) hc17 rfl ?_
             refine XL_skipT _ rfl rfl (by kernel_rfl) hc17 rfl ?_
             refine XL_skipT _ rfl rfl (by kernel_rfl) hc17 rfl ?_
             refine XL_skipT _ rfl rfl (by kernel_rfl) hc17 rfl ?_
             refine XL_skipT _ rfl rfl (by kernel_rfl) hc17 rfl ?_
             refine XL_skipT _ rfl rfl (by kernel_rfl) hc17 rfl ?_
             refine XL_cons rfl (X_of_Y0 rfl (Y0_pickFe (b := b16) (p := false) rfl (by kernel_rfl) hc17 (by kernel_rfl) hb20)) ?_
             exact XE
           ·have hb16 := some_inj (of_false hb16 hc14)
            refine XL_skipT _ rfl rfl (by kernel_rfl) hc14 rfl ?_
            refine XL_skipT _ rfl rfl (by kernel_rfl) hc14 rfl ?_
            refine XL_skipT _ rfl rfl (by kernel_rfl) hc14 rfl ?_
            refine XL_skipT _ rfl rfl (by kernel_rfl) hc14 rfl ?_
            refine XL_cons rfl (X_of_Y0 rfl (Y0_pickFe (b := eqI (mxI x6 y10) size3) (p := false) rfl (by kernel_rfl) hc14 (by kernel_rfl) hb16)) ?_
            refine XR 1 ?_
            refine XL_split b16 (fun hc17 => ?_) (fun hc17 => ?_)
            ·have hb20 := of_true hb20 hc17
             obtain ⟨y18, hy18, hb20⟩ := of_bind hb20
             obtain ⟨y19, hy19, hb20⟩ := of_bind hb20
             have hb20 := some_inj hb20
             refine XL_takeC _ rfl rfl (by kernel_rfl) hc17 (X_of_Y0 rfl (E_loadn (cs := [Ti g1.1, Ti g1.2.1, Ti g1.2.2]) [Ti g1.1, Ti g1.2.1, Ti g1.2.2] wd45 rfl (by kernel_rfl) (Nat.le_of_ble_eq_true rfl) (by kernel_rfl))) ?_
             refine XL_takeC _ rfl rfl (by kernel_rfl) hc17 (X_of_Y0 rfl (E_move (I x6) rfl (by kernel_rfl))) ?_
             refine XL_takeC _ rfl rfl (by kernel_rfl) hc17 (X_of_Y0 rfl (E_move (I y10) rfl (by kernel_rfl))) ?_
             refine XL_takeC _ rfl rfl (by kernel_rfl) hc17 (X_of_Y1 rfl (Y1_call (s_impl_Form_at hy18) cf_impl_Form_at rfl (by kernel_rfl))) ?_
             refine XL_takeC _ rfl rfl (by kernel_rfl) hc17 (X_of_Y0 rfl (E_move (I a2) rfl (by kernel_rfl))) ?_
             refine XL_takeC _ rfl rfl (by kernel_rfl) hc17 (X_of_Y1 rfl (Y1_call (s_impl_gcd hy19) cf_impl_gcd rfl (by kernel_rfl))) ?_
             refine XL_takeC _ rfl rfl (by kernel_rfl) hc17 (X_of_Y0 rfl (Y0_eqw (k := .i64) (a := y19) (b := 1) rfl (by kernel_rfl) (by kernel_rfl))) ?_
             refine XL_cons rfl (X_of_Y0 rfl (Y0_pickTe (b := b16) (p := eqI y19 1) rfl (by kernel_rfl) hc17 (by kernel_rfl) hb20)) ?_
             exact XE
            ·have hb20 := some_inj (of_false hb20 hc17)
             refine XL_skipT _ rfl rfl (by kernel_rfl) hc17 rfl ?_
             refine XL_skipT _ rfl rfl (by kernel_rfl) hc17 rfl ?_
             refine XL_skipT _ rfl rfl (by kernel_rfl) hc17 rfl ?_
             refine XL_skipT _ rfl rfl (by kernel_rfl) hc17 rfl ?_
             refine XL_skipT _ rfl rfl (by kernel_rfl) hc17 rfl ?_
             refine XL_skipT _ rfl rfl (by kernel_rfl) hc17 rfl ?_
             refine XL_skipT _ rfl rfl (by kernel_rfl) hc17 rfl ?_
             refine XL_cons rfl (X_of_Y0 rfl (Y0_pickFe (b := b16) (p := false) rfl (by kernel_rfl) hc17 (by kernel_rfl) hb20)) ?_
             exact XE
          refine V_cond rfl (fun hc21 => ?_) (fun hc21 => ?_)
          ·have h := of_true h hc21
           refine V_e (mb 43 48) [] (s1 := ⟨bt 4 (I x6 :: I y10 :: bt 37 []), []⟩) ?_
           refine V_ret ?_
           obtain rfl := some_inj h
           have h := hko12
           obtain rfl := some_inj h
           have h := hko8
           obtain rfl := some_inj h
           have h := hko5
           obtain rfl := some_inj h
           show Post _ _ _ _ _
           exact ⟨.inr rfl, rfl, rfl, rfl⟩
          ·have h := of_false h hc21
           refine V_skip ?_
           show V _ _ _ _
           obtain ⟨y22, hy22, h⟩ := of_sI h
           refine V_reg (mb 43 454) [16] (s1 := ⟨.bot :: I a2 :: .pt 16 0 :: bt 3 (I size3 :: I x6 :: I y22 :: bt 34 []), [(16, .box [Ti g1.1, Ti g1.2.1, Ti g1.2.2])]⟩) ?_ ?_
           ·refine XR 3 ?_
            refine XL_nil ?_
            subst hy22
            kernel_rfl
           exact ⟨n, Nat.lt_succ_self n, _,  by rfl, h⟩
         ·have h := of_false h hc13
          refine V_exit ?_
          obtain rfl := some_inj h
          exact ⟨_, rfl, by rfl⟩
       rintro o12 rfl
       have h := hko12
       clear hko12
       show V _ _ _ _
       obtain ⟨x23, hx23, h⟩ := of_sI h
       refine V_reg (mb 43 198) [16] (s1 := ⟨.bot :: I a2 :: .pt 16 0 :: bt 3 (I size3 :: I x23 :: bt 35 []), [(16, .box [Ti g1.1, Ti g1.2.1, Ti g1.2.2])]⟩) ?_ ?_
       ·refine XR 3 ?_
        refine XL_nil ?_
        subst hx23
        kernel_rfl
       exact ⟨n, Nat.lt_succ_self n, _,  by rfl, h⟩
      ·have h := of_false h hc9
       refine V_exit ?_
       obtain rfl := some_inj h
       exact ⟨_, rfl, by rfl⟩
    rintro o8 rfl
    have h := hko8
    clear hko8
    show V _ _ _ _
    obtain ⟨size24, hsize24, h⟩ := of_sI h
    refine V_reg (mb 43 70) [16] (s1 := ⟨.bot :: I a2 :: .pt 16 0 :: bt 3 (I size24 :: bt 36 []), [(16, .box [Ti g1.1, Ti g1.2.1, Ti g1.2.2])]⟩) ?_ ?_
    ·refine XR 3 ?_
     refine XL_nil ?_
     subst hsize24
     kernel_rfl
    exact ⟨n, Nat.lt_succ_self n, _,  by rfl, h⟩
  rintro o5 rfl
  cases hko5
theorem cf_impl_inverse : ∀ args w, (callFunc 204 args).run Try.prog w = .ok (.enter 204 args) w := run_callFunc Try.func204 (by kernel_rfl) (by kernel_rfl)
theorem s_impl_inverse {a1 : Int} {vm2 : Int} {r : Int} (h : r_impl_inverse a1 vm2 = some r) : CallS Try.prog 204 [I a1, I vm2] (I r) [] := by
  refine CallS_of_text (rs := [.t 4]) (vs := [.tmp 4]) Try.func204 rfl rfl (.cons rfl FitsL.nil) (by decide) 34 rfl ?_
  unfold r_impl_inverse at h
  show V _ _ ⟨I a1 :: I vm2 :: bt 32 [], []⟩ _
  refine V_e (mb 34 3) [] (s1 := ⟨I a1 :: I vm2 :: bt 32 [], []⟩) ?_
  refine V_e (mb 34 99) [] (s1 := ⟨I a1 :: I vm2 :: bt 3 (I 1 :: I 0 :: bt 27 []), []⟩) ?_
  refine V_seq ?_
  obtain ⟨y3, hy3, h⟩ := of_bind h
  refine V_sreg (mb 34 482) [] (s1 := ⟨.bot :: I vm2 :: bt 3 (I 1 :: I 0 :: I y3 :: I vm2 :: bt 25 []), []⟩) ?_ ?_
  ·refine XR 2 ?_
   refine XC (s_impl_mod hy3) cf_impl_mod rfl rfl rfl ?_
   exact XE
  obtain ⟨o9, hLo9, h⟩ := of_bind h
  refine V_toK (mb 34 34) [] (s1 := ⟨.bot :: I vm2 :: bt 3 (I o9 :: bt 28 []), []⟩) ?_ ?_
  ·clear h
   refine V_block (V_loop (fun n s => ∃ (x4 : Int) (y5 : Int) (vr6 : Int) (vs7 : Int), s.keep (mb 34 482) [] = (⟨.bot :: I vm2 :: bt 3 (I x4 :: I y5 :: I vr6 :: I vs7 :: bt 25 []), []⟩ : St) ∧ r_impl_inverse_L8 vm2 n x4 y5 vr6 vs7 = some o9) FU ⟨_, _, _, _,  by rfl, hLo9⟩ ?_)
   clear hLo9
   rintro n s ⟨x4, y5, vr6, vs7, hs, h⟩
   refine V_keep _ _ hs ?_
   clear hs
   cases n with
   | zero => cases h
   | succ n =>
    rw [r_impl_inverse_L8] at h
    refine V_seq ?_
    refine V_e (mb 34 33250) [] (s1 := ⟨.bot :: I vm2 :: bt 3 (I x4 :: I y5 :: I vr6 :: I vs7 :: bt 6 (Bo (!eqI vs7 0) :: bt 18 [])), []⟩) ?_
    refine V_cond rfl (fun hc10 => ?_) (fun hc10 => ?_)
    ·have h := of_true h hc10
     refine V_skip ?_
     show V _ _ _ _
     refine V_block ?_
     obtain ⟨z11, hz11, h⟩ := of_bind h
     obtain ⟨q12, hq12, h⟩ := of_sI h
     refine V_sreg (mb 34 994) [] (s1 := ⟨.bot :: I vm2 :: bt 3 (I x4 :: I y5 :: I vr6 :: I vs7 :: I q12 :: bt 24 []), []⟩) ?_ ?_
     ·refine XR 2 ?_
      refine L0 rfl rfl (Y0_quo64 (a := vr6) (b := vs7) rfl (by kernel_rfl) (by kernel_rfl) (nz_some hz11)) ?_
      refine XR 1 ?_
      refine XL_nil ?_
      subst hq12
      kernel_rfl
     obtain ⟨vs13, hvs13, h⟩ := of_sI h
     refine V_sreg (mb 34 994) [] (s1 := ⟨.bot :: I vm2 :: bt 3 (I x4 :: I y5 :: I vs7 :: I vs13 :: I q12 :: bt 24 []), []⟩) ?_ ?_
     ·refine XR 8 ?_
      refine XL_nil ?_
      subst hvs13
      kernel_rfl
     obtain ⟨y14, hy14, h⟩ := of_sI h
     refine V_reg (mb 34 482) [] (s1 := ⟨.bot :: I vm2 :: bt 3 (I y5 :: I y14 :: I vs7 :: I vs13 :: bt 25 []), []⟩) ?_ ?_
     ·refine XR 8 ?_
      refine XL_nil ?_
      subst hy14
      kernel_rfl
     exact ⟨n, Nat.lt_succ_self n, _, _, _, _,  by rfl, h⟩
    ·have h := of_false h hc10
     refine V_exit ?_
     obtain rfl := some_inj h
     show St.keep _ _ _ = _
     rfl
  show V _ _ _ _
  obtain ⟨y15, hy15, h⟩ := of_bind h
  refine V_sreg (mb 34 16) [] (s1 := ⟨bt 4 (I y15 :: bt 29 []), []⟩) ?_ ?_
  ·refine XR 2 ?_
   refine XC (s_impl_mod hy15) cf_impl_mod rfl rfl rfl ?_
   exact XE
  refine V_ret ?_
  obtain rfl := some_inj h
  show Post _ _ _ _ _
  exact ⟨.inr rfl, rfl, rfl, rfl⟩
theorem cf_impl_Form_polar : ∀ args w, (callFunc 224 args).run Try.prog w = .ok (.enter 224 args) w := run_callFunc Try.func224 (by kernel_rfl) (by kernel_rfl)
theorem s_impl_Form_polar {f1 : (Int × Int × Int)} {x2 : Int} {y3 : Int} {u4 : Int} {v5 : Int} {r : Int} (h : r_impl_Form_polar f1 x2 y3 u4 v5 = some r) : CallS Try.prog 224 [.ag [Ti f1.1, Ti f1.2.1, Ti f1.2.2], I x2, I y3, I u4, I v5] (I r) [] := by
  refine CallS_of_text (rs := [.t 10]) (vs := [.tmp 10]) Try.func224 rfl rfl (.cons rfl FitsL.nil) (by decide) 37 rfl ?_
  unfold r_impl_Form_polar at h
  show V _ _ ⟨.ag [Ti f1.1, Ti f1.2.1, Ti f1.2.2] :: I x2 :: I y3 :: I u4 :: I v5 :: bt 32 [], []⟩ _
  refine V_e (mb 37 62) [40] (s1 := ⟨.bot :: I x2 :: I y3 :: I u4 :: I v5 :: .pt 40 0 :: bt 31 [], [(40, .box [Ti f1.1, Ti f1.2.1, Ti f1.2.2])]⟩) ?_
  obtain ⟨t6, ht6, h⟩ := of_sI h
  refine V_sreg (mb 37 1024) [] (s1 := ⟨bt 10 (I t6 :: bt 26 []), []⟩) ?_ ?_
  ·refine XR 27 ?_
   refine XL_nil ?_
   subst ht6
   kernel_rfl
  refine V_ret ?_
  obtain rfl := some_inj h
  show Post _ _ _ _ _
  exact ⟨.inr rfl, rfl, rfl, rfl⟩
theorem cf_impl_Form_substitute : ∀ args w, (callFunc 205 args).run Try.prog w = .ok (.enter 205 args) w := run_callFunc Try.func205 (by kernel_rfl) (by kernel_rfl)
theorem s_impl_Form_substitute {f1 : (Int × Int × Int)} {vm2 : (Int × Int × Int × Int)} {r : (Int × Int × Int)} (h : r_impl_Form_substitute f1 vm2 = some r) : CallS Try.prog 205 [.ag [Ti f1.1, Ti f1.2.1, Ti f1.2.2], .ag [Ti vm2.1, Ti vm2.2.1, Ti vm2.2.2.1, Ti vm2.2.2.2]] (.ag [Ti r.1, Ti r.2.1, Ti r.2.2]) [] := by
  refine CallS_of_text (rs := [.w 4 3]) (vs := [.cell 4 45]) Try.func205 rfl rfl (.cons ⟨rfl, wd45⟩ FitsL.nil) (by decide) 28 rfl ?_
  unfold r_impl_Form_substitute at h
  show V _ _ ⟨.ag [Ti f1.1, Ti f1.2.1, Ti f1.2.2] :: .ag [Ti vm2.1, Ti vm2.2.1, Ti vm2.2.2.1, Ti vm2.2.2.2] :: bt 26 [], []⟩ _
  refine V_e (mb 28 28) [32, 24, 16] (s1 := ⟨.bot :: .bot :: .pt 16 0 :: .pt 24 0 :: .pt 32 0 :: bt 23 [], [(32, .box [Ti 0, Ti 0, Ti 0]), (24, .box [Ti vm2.1, Ti vm2.2.1, Ti vm2.2.2.1, Ti vm2.2.2.2]), (16, .box [Ti f1.1, Ti f1.2.1, Ti f1.2.2])]⟩) ?_
  obtain ⟨y3, hy3, h⟩ := of_bind h
  obtain ⟨y4, hy4, h⟩ := of_bind h
  obtain ⟨y5, hy5, h⟩ := of_bind h
  refine V_sdreg [0, 0, 2, 0, 8, 31, 0, 0, 128, 0, 512, 0, 2048, 0, 8192, 32767, 0, 0, 131072, 0, 524288, 2097151, 4194303, 8388607] 23 (cdm 23 [2929883521704, 2929883521666, 2929883521670, 2929883521066, 2929883521130, 2929883521365, 2929883515562, 2929883359914, 2929883376298, 2929880902314, 2929881164458, 2929841580714, 2929845775018, 2929212435114, 2929279543978, 2929525609813, 2923441072810, 2760232315562, 2777412184746, 183251937962, 458129844906, 1466015503701, 5864062014805]) (mb 28 16) [32] (s1 := ⟨bt 4 (.pt 32 0 :: bt 23 []), [(32, .box [Ti y3, Ti y4, Ti y5])]⟩) (by kernel_rfl) (by kernel_rfl) ?_ ?_
  ·refine DR 5 ?_
   refine DC 5 (s_impl_Form_at hy3) cf_impl_Form_at rfl rfl rfl rfl 10 rfl ?_
   refine DR 9 ?_
   refine DC 15 (s_impl_Form_polar hy4) cf_impl_Form_polar rfl rfl rfl rfl 20 rfl ?_
   refine DR 5 ?_
   refine DC 21 (s_impl_Form_at hy5) cf_impl_Form_at rfl rfl rfl rfl 26 rfl ?_
   refine DE_0 22 (.ag [Ti y3, Ti y4, Ti y5]) (by kernel_rfl) rfl rfl rfl (gsat_none rfl) (by kernel_rfl) (Y0_build (cs := [Ti y3, Ti y4, Ti y5]) pl45 bt45 rfl rfl (by kernel_rfl)) 27 rfl ?_
   refine DA 0 ?_
   exact XE
  refine V_ret ?_
  obtain rfl := some_inj h
  show Post _ _ _ _ _
  exact ⟨.inr rfl, rfl, rfl, rfl⟩
theorem cf_impl_floorDiv : ∀ args w, (callFunc 206 args).run Try.prog w = .ok (.enter 206 args) w := run_callFunc Try.func206 (by kernel_rfl) (by kernel_rfl)
theorem s_impl_floorDiv {a1 : Int} {vm2 : Int} {r : Int} (h : r_impl_floorDiv a1 vm2 = some r) : CallS Try.prog 206 [I a1, I vm2] (I r) [] := by
  refine CallS_of_text (rs := [.t 4]) (vs := [.tmp 4]) Try.func206 rfl rfl (.cons rfl FitsL.nil) (by decide) 12 rfl ?_
  unfold r_impl_floorDiv at h
  show V _ _ ⟨I a1 :: I vm2 :: bt 10 [], []⟩ _
  refine V_e (mb 12 3) [] (s1 := ⟨I a1 :: I vm2 :: bt 10 [], []⟩) ?_
  obtain ⟨y3, hy3, h⟩ := of_bind h
  obtain ⟨z4, hz4, h⟩ := of_bind h
  obtain ⟨t5, ht5, h⟩ := of_sI h
  refine V_sreg (mb 12 16) [] (s1 := ⟨bt 4 (I t5 :: bt 7 []), []⟩) ?_ ?_
  ·refine XR 3 ?_
   refine XC (s_impl_mod hy3) cf_impl_mod rfl rfl rfl ?_
   refine XR 2 ?_
   refine L0 rfl rfl (Y0_quo64 (a := w64 (a1 - y3)) (b := vm2) rfl (by kernel_rfl) (by kernel_rfl) (nz_some hz4)) ?_
   refine XR 1 ?_
   refine XL_nil ?_
   subst ht5
   kernel_rfl
  refine V_ret ?_
  obtain rfl := some_inj h
  show Post _ _ _ _ _
  exact ⟨.inr rfl, rfl, rfl, rfl⟩
theorem cf_impl_Form_complete : ∀ args w, (callFunc 162 args).run Try.prog w = .ok (.enter 162 args) w := run_callFunc Try.func162 (by kernel_rfl) (by kernel_rfl)
theorem s_impl_Form_complete {f1 : (Int × Int × Int)} {x2 : Int} {y3 : Int} {r : (((Int × Int × Int)) × ((Int × Int × Int × Int)))} (h : r_impl_Form_complete f1 x2 y3 = some r) : CallS Try.prog 162 [.ag [Ti f1.1, Ti f1.2.1, Ti f1.2.2], I x2, I y3] (.tc (.ag [Ti r.1.1, Ti r.1.2.1, Ti r.1.2.2]) (.tc (.ag [Ti r.2.1, Ti r.2.2.1, Ti r.2.2.2.1, Ti r.2.2.2.2]) .tn)) [] := by
  refine CallS_of_text (rs := [.w 6 3, .w 7 4]) (vs := [.cell 6 45, .cell 7 110]) Try.func162 rfl rfl (.cons ⟨rfl, wd45⟩ (.cons ⟨rfl, wd110⟩ FitsL.nil)) (by decide) 59 rfl ?_
  unfold r_impl_Form_complete at h
  show V _ _ ⟨.ag [Ti f1.1, Ti f1.2.1, Ti f1.2.2] :: I x2 :: I y3 :: bt 56 [], []⟩ _
  refine V_e (mb 59 206) [56, 48, 24] (s1 := ⟨.bot :: I x2 :: I y3 :: .pt 24 0 :: .bot :: .bot :: .pt 48 0 :: .pt 56 0 :: bt 51 [], [(56, .box [Ti 0, Ti 0, Ti 0, Ti 0]), (48, .box [Ti 0, Ti 0, Ti 0]), (24, .box [Ti f1.1, Ti f1.2.1, Ti f1.2.2])]⟩) ?_
  refine V_sreg (mb 59 462) [64, 56, 48, 24] (s1 := ⟨.bot :: I x2 :: I y3 :: .pt 24 0 :: .bot :: .bot :: .pt 48 0 :: .pt 56 0 :: .pt 64 0 :: bt 50 [], [(64, .box [Ti x2, Ti 0, Ti y3, Ti 0]), (56, .box [Ti 0, Ti 0, Ti 0, Ti 0]), (48, .box [Ti 0, Ti 0, Ti 0]), (24, .box [Ti f1.1, Ti f1.2.1, Ti f1.2.2])]⟩) ?_ ?_
  ·refine XR 2 ?_
   refine L0 rfl rfl (Y0_build (cs := [Ti x2, Ti 0, Ti y3, Ti 0]) pl110 bt110 rfl rfl (by kernel_rfl)) ?_
   exact XE
  obtain ⟨j4, hj4, h⟩ := of_bind h
  refine V_cutK (mb 59 462) [64, 56, 48, 24] (s1 := ⟨.bot :: I x2 :: I y3 :: .pt 24 0 :: .bot :: .bot :: .pt 48 0 :: .pt 56 0 :: .pt 64 0 :: bt 50 [], [(64, .box [Ti x2, Ti j4.1, Ti y3, Ti j4.2]), (56, .box [Ti 0, Ti 0, Ti 0, Ti 0]), (48, .box [Ti 0, Ti 0, Ti 0]), (24, .box [Ti f1.1, Ti f1.2.1, Ti f1.2.2])]⟩) ?_ ?_
  ·clear h
   have h := hj4
   clear hj4
   refine V_e (mb 59 33230) [64, 56, 48, 24] (s1 := ⟨.bot :: I x2 :: I y3 :: .pt 24 0 :: .bot :: .bot :: .pt 48 0 :: .pt 56 0 :: .pt 64 0 :: bt 6 (Bo (eqI y3 0) :: bt 43 []), [(64, .box [Ti x2, Ti 0, Ti y3, Ti 0]), (56, .box [Ti 0, Ti 0, Ti 0, Ti 0]), (48, .box [Ti 0, Ti 0, Ti 0]), (24, .box [Ti f1.1, Ti f1.2.1, Ti f1.2.2])]⟩) ?_
   refine V_cond rfl (fun hc5 => ?_) (fun hc5 => ?_)
   ·have h := of_true h hc5
    refine V_reg (mb 59 462) [64, 56, 48, 24] (s1 := ⟨.bot :: I x2 :: I y3 :: .pt 24 0 :: .bot :: .bot :: .pt 48 0 :: .pt 56 0 :: .pt 64 0 :: bt 50 [], [(64, .box [Ti x2, Ti 0, Ti y3, Ti x2]), (56, .box [Ti 0, Ti 0, Ti 0, Ti 0]), (48, .box [Ti 0, Ti 0, Ti 0]), (24, .box [Ti f1.1, Ti f1.2.1, Ti f1.2.2])]⟩) ?_ ?_
    ·exact XE
    obtain rfl := some_inj h
    show St.keep _ _ _ = _
    rfl
   ·have h := of_false h hc5
    obtain ⟨y6, hy6, h⟩ := of_bind h
    obtain ⟨y7, hy7, h⟩ := of_bind h
    refine V_sreg (mb 59 462) [64, 56, 48, 24] (s1 := ⟨.bot :: I x2 :: I y3 :: .pt 24 0 :: .bot :: .bot :: .pt 48 0 :: .pt 56 0 :: .pt 64 0 :: bt 50 [], [(64, .box [Ti x2, Ti 0, Ti y3, Ti y7]), (56, .box [Ti 0, Ti 0, Ti 0, Ti 0]), (48, .box [Ti 0, Ti 0, Ti 0]), (24, .box [Ti f1.1, Ti f1.2.1, Ti f1.2.2])]⟩) ?_ ?_
    ·refine XR 2 ?_
     refine XC (s_impl_abs hy6) cf_impl_abs rfl rfl rfl ?_
     refine XC (s_impl_inverse hy7) cf_impl_inverse rfl rfl rfl ?_
     exact XE
    obtain ⟨z8, hz8, h⟩ := of_bind h
    obtain ⟨f9, hf9, h⟩ := of_sI h
    refine V_reg (mb 59 462) [64, 56, 48, 24] (s1 := ⟨.bot :: I x2 :: I y3 :: .pt 24 0 :: .bot :: .bot :: .pt 48 0 :: .pt 56 0 :: .pt 64 0 :: bt 50 [], [(64, .box [Ti x2, Ti f9, Ti y3, Ti y7]), (56, .box [Ti 0, Ti 0, Ti 0, Ti 0]), (48, .box [Ti 0, Ti 0, Ti 0]), (24, .box [Ti f1.1, Ti f1.2.1, Ti f1.2.2])]⟩) ?_ ?_
    ·refine XR 6 ?_
     refine L0 rfl rfl (Y0_quo64 (a := w64 ((w64 (x2 * y7)) - 1)) (b := y3) rfl (by kernel_rfl) (by kernel_rfl) (nz_some hz8)) ?_
     refine XR 2 ?_
     refine XL_nil ?_
     subst hf9
     kernel_rfl
    obtain rfl := some_inj h
    show St.keep _ _ _ = _
    rfl
  obtain ⟨y10, hy10, h⟩ := of_bind h
  refine V_sreg (mb 59 974) [72, 64, 56, 48, 24] (s1 := ⟨.bot :: I x2 :: I y3 :: .pt 24 0 :: .bot :: .bot :: .pt 48 0 :: .pt 56 0 :: .pt 64 0 :: .pt 72 0 :: bt 49 [], [(72, .box [Ti y10.1, Ti y10.2.1, Ti y10.2.2]), (64, .box [Ti x2, Ti j4.1, Ti y3, Ti j4.2]), (56, .box [Ti 0, Ti 0, Ti 0, Ti 0]), (48, .box [Ti 0, Ti 0, Ti 0]), (24, .box [Ti f1.1, Ti f1.2.1, Ti f1.2.2])]⟩) ?_ ?_
  ·refine XR 2 ?_
   refine XC (s_impl_Form_substitute hy10) cf_impl_Form_substitute rfl rfl rfl ?_
   exact XE
  obtain ⟨y11, hy11, h⟩ := of_bind h
  obtain ⟨t12, ht12, h⟩ := of_sI h
  refine V_sreg (mb 59 1486) [64, 56, 48, 24] (s1 := ⟨.bot :: I x2 :: I y3 :: .pt 24 0 :: .bot :: .bot :: .pt 48 0 :: .pt 56 0 :: .pt 64 0 :: .bot :: I t12 :: bt 48 [], [(64, .box [Ti x2, Ti j4.1, Ti y3, Ti j4.2]), (56, .box [Ti 0, Ti 0, Ti 0, Ti 0]), (48, .box [Ti 0, Ti 0, Ti 0]), (24, .box [Ti f1.1, Ti f1.2.1, Ti f1.2.2])]⟩) ?_ ?_
  ·refine XR 5 ?_
   refine XC (s_impl_floorDiv hy11) cf_impl_floorDiv rfl rfl rfl ?_
   refine XR 2 ?_
   refine XL_nil ?_
   subst ht12
   kernel_rfl
  obtain ⟨f13, hf13, h⟩ := of_sI h
  refine V_sreg (mb 59 1484) [64, 56, 48, 24] (s1 := ⟨.bot :: .bot :: I y3 :: .pt 24 0 :: .bot :: .bot :: .pt 48 0 :: .pt 56 0 :: .pt 64 0 :: .bot :: I t12 :: bt 48 [], [(64, .box [Ti x2, Ti f13, Ti y3, Ti j4.2]), (56, .box [Ti 0, Ti 0, Ti 0, Ti 0]), (48, .box [Ti 0, Ti 0, Ti 0]), (24, .box [Ti f1.1, Ti f1.2.1, Ti f1.2.2])]⟩) ?_ ?_
  ·refine XR 8 ?_
   refine XL_nil ?_
   subst hf13
   kernel_rfl
  obtain ⟨f14, hf14, h⟩ := of_sI h
  refine V_sreg (mb 59 456) [64, 56, 48, 24] (s1 := ⟨bt 3 (.pt 24 0 :: .bot :: .bot :: .pt 48 0 :: .pt 56 0 :: .pt 64 0 :: bt 50 []), [(64, .box [Ti x2, Ti f13, Ti y3, Ti f14]), (56, .box [Ti 0, Ti 0, Ti 0, Ti 0]), (48, .box [Ti 0, Ti 0, Ti 0]), (24, .box [Ti f1.1, Ti f1.2.1, Ti f1.2.2])]⟩) ?_ ?_
  ·refine XR 8 ?_
   refine XL_nil ?_
   subst hf14
   kernel_rfl
  obtain ⟨y15, hy15, h⟩ := of_bind h
  refine V_sdreg [0, 0, 3, 0, 7, 31] 5 [[.z, .b, .z, .b, .z], [.b, .z, .z, .b, .z], [.a, .a, .z, .b, .z], [.b, .b, .b, .z, .r 48], [.a, .a, .a, .b, .z]] (mb 59 192) [56, 48] (s1 := ⟨bt 6 (.pt 48 0 :: .pt 56 0 :: bt 51 []), [(56, .box [Ti x2, Ti f13, Ti y3, Ti f14]), (48, .box [Ti y15.1, Ti y15.2.1, Ti y15.2.2])]⟩) (by kernel_rfl) (by kernel_rfl) ?_ ?_
  ·refine DR 2 ?_
   refine DC 2 (s_impl_Form_substitute hy15) cf_impl_Form_substitute rfl rfl rfl rfl 57 rfl ?_
   refine DA 2 ?_
   exact XE
  refine V_ret ?_
  obtain rfl := some_inj h
  show Post _ _ _ _ _
  exact ⟨.inr rfl, rfl, rfl, rfl⟩
theorem cf_impl_Form_disc : ∀ args w, (callFunc 78 args).run Try.prog w = .ok (.enter 78 args) w := run_callFunc Try.func78 (by kernel_rfl) (by kernel_rfl)
theorem s_impl_Form_disc {f1 : (Int × Int × Int)} {r : Int} (h : r_impl_Form_disc f1 = some r) : CallS Try.prog 78 [.ag [Ti f1.1, Ti f1.2.1, Ti f1.2.2]] (I r) [] := by
  refine CallS_of_text (rs := [.t 2]) (vs := [.tmp 2]) Try.func78 rfl rfl (.cons rfl FitsL.nil) (by decide) 15 rfl ?_
  unfold r_impl_Form_disc at h
  show V _ _ ⟨.ag [Ti f1.1, Ti f1.2.1, Ti f1.2.2] :: bt 14 [], []⟩ _
  refine V_e (mb 15 2) [8] (s1 := ⟨.bot :: .pt 8 0 :: bt 13 [], [(8, .box [Ti f1.1, Ti f1.2.1, Ti f1.2.2])]⟩) ?_
  obtain ⟨t2, ht2, h⟩ := of_sI h
  refine V_sreg (mb 15 4) [] (s1 := ⟨.bot :: .bot :: I t2 :: bt 12 [], []⟩) ?_ ?_
  ·refine XR 13 ?_
   refine XL_nil ?_
   subst ht2
   kernel_rfl
  refine V_ret ?_
  obtain rfl := some_inj h
  show Post _ _ _ _ _
  exact ⟨.inr rfl, rfl, rfl, rfl⟩
theorem cf_impl_areNumbers : ∀ args w, (callFunc 79 args).run Try.prog w = .ok (.enter 79 args) w := run_callFunc Try.func79 (by kernel_rfl) (by kernel_rfl)
theorem s_impl_areNumbers {list1 : List Int} {r : Bool} (h : r_impl_areNumbers list1 = some r) : CallS Try.prog 79 [.c (.sl (list1.map c3))] (Bo r) [] := by
  refine CallS_of_text (rs := [.t 2]) (vs := [.tmp 2]) Try.func79 rfl rfl (.cons rfl FitsL.nil) (by decide) 18 rfl ?_
  unfold r_impl_areNumbers at h
  show V _ _ ⟨.c (.sl (list1.map c3)) :: bt 17 [], []⟩ _
  refine V_e (mb 18 1) [] (s1 := ⟨.c (.sl (list1.map c3)) :: bt 17 [], []⟩) ?_
  refine V_seq ?_
  refine V_sreg (mb 18 224) [] (s1 := ⟨bt 5 (.c (.sl (list1.map c3)) :: I ((list1.length : Int)) :: I 0 :: bt 10 []), []⟩) ?_ ?_
  ·refine XR 1 ?_
   refine L0 rfl rfl (Y0_lenM (c := c3) (xs := list1) Try.underlying41 rfl (by kernel_rfl)) ?_
   exact XE
  obtain ⟨qo4, hLo4, hko4⟩ := of_bind h
  refine V_toS (q := qo4) (S := fun o4 => ⟨bt 18 [], []⟩) (mb 18 0) [] ?_ ?_
  ·refine V_block (V_loop (fun n s => ∃ (t2 : Int), s.keep (mb 18 224) [] = (⟨bt 5 (.c (.sl (list1.map c3)) :: I ((list1.length : Int)) :: I t2 :: bt 10 []), []⟩ : St) ∧ r_impl_areNumbers_L3 list1 n t2 = some qo4) FU ⟨_,  by rfl, hLo4⟩ ?_)
   clear hLo4
   rintro n s ⟨t2, hs, h⟩
   refine V_keep _ _ hs ?_
   clear hs
   cases n with
   | zero => cases h
   | succ n =>
    rw [r_impl_areNumbers_L3] at h
    refine V_e (mb 18 480) [] (s1 := ⟨bt 5 (.c (.sl (list1.map c3)) :: I ((list1.length : Int)) :: I t2 :: Bo (ltI t2 ((list1.length : Int))) :: bt 9 []), []⟩) ?_
    refine V_seq ?_
    refine V_cond rfl (fun hc5 => ?_) (fun hc5 => ?_)
    ·have h := of_true h hc5
     refine V_skip ?_
     show V _ _ _ _
     refine V_seq ?_
     refine V_block ?_
     obtain ⟨e6, he6, h⟩ := of_bind h
     refine V_sreg (mb 18 240) [] (s1 := ⟨bt 4 (I e6 :: .c (.sl (list1.map c3)) :: I ((list1.length : Int)) :: I t2 :: bt 10 []), []⟩) ?_ ?_
     ·refine L0 rfl rfl (Y0_idxM (c := c3) (xs := list1) (v := e6) (n := t2) Try.underlying41 sz3 rfl (by kernel_rfl) (by kernel_rfl) he6) ?_
      exact XE
     refine V_sreg (mb 18 65760) [] (s1 := ⟨bt 5 (.c (.sl (list1.map c3)) :: I ((list1.length : Int)) :: I t2 :: bt 8 (Bo (bif (ltI e6 (-1000000)) then true else (ltI 1000000 e6)) :: .bot :: [])), []⟩) ?_ ?_
     ·refine XR 3 ?_
      refine XL_split (ltI e6 (-1000000)) (fun hc7 => ?_) (fun hc7 => ?_)
      ·refine XL_skipF _ rfl rfl (by kernel_rfl) hc7 rfl ?_
       refine XL_skipF _ rfl rfl (by kernel_rfl) hc7 rfl ?_
       refine XL_cons rfl (X_of_Y0 rfl (Y0_pick1 (b := ltI e6 (-1000000)) (p := true) (q := ltI 1000000 e6) rfl (by kernel_rfl) hc7 (by kernel_rfl))) ?_
       exact XE
      ·refine XL_takeC _ rfl rfl (by kernel_rfl) hc7 (X_of_Y0 rfl (E_move (I e6) rfl (by kernel_rfl))) ?_
       refine XL_takeC _ rfl rfl (by kernel_rfl) hc7 (X_of_Y0 rfl (Y0_gtw (k := .i64) (a := e6) (b := 1000000) rfl (by kernel_rfl) (by kernel_rfl))) ?_
       refine XL_cons rfl (X_of_Y0 rfl (Y0_pick0 (b := ltI e6 (-1000000)) (p := true) (q := ltI 1000000 e6) rfl (by kernel_rfl) hc7 (by kernel_rfl))) ?_
       exact XE
     refine V_cond rfl (fun hc8 => ?_) (fun hc8 => ?_)
     ·have h := of_true h hc8
      refine V_e (mb 18 4) [] (s1 := ⟨.bot :: .bot :: Bo false :: bt 15 [], []⟩) ?_
      refine V_ret ?_
      obtain rfl := some_inj h
      have h := hko4
      obtain rfl := some_inj h
      show Post _ _ _ _ _
      exact ⟨.inr rfl, rfl, rfl, rfl⟩
     ·have h := of_false h hc8
      refine V_skip ?_
      show V _ _ _ _
      obtain ⟨t9, ht9, h⟩ := of_sI h
      refine V_reg (mb 18 224) [] (s1 := ⟨bt 5 (.c (.sl (list1.map c3)) :: I ((list1.length : Int)) :: I t9 :: bt 10 []), []⟩) ?_ ?_
      ·refine XR 2 ?_
       refine XL_nil ?_
       subst ht9
       kernel_rfl
      exact ⟨n, Nat.lt_succ_self n, _,  by rfl, h⟩
    ·have h := of_false h hc5
     refine V_exit ?_
     obtain rfl := some_inj h
     exact ⟨_, rfl, by rfl⟩
  rintro o4 rfl
  have h := hko4
  clear hko4
  show V _ _ _ _
  refine V_e (mb 18 4) [] (s1 := ⟨.bot :: .bot :: Bo true :: bt 15 [], []⟩) ?_
  refine V_ret ?_
  obtain rfl := some_inj h
  show Post _ _ _ _ _
  exact ⟨.inr rfl, rfl, rfl, rfl⟩
theorem cf_impl_IsForm : ∀ args w, (callFunc 77 args).run Try.prog w = .ok (.enter 77 args) w := run_callFunc Try.func77 (by kernel_rfl) (by kernel_rfl)
theorem s_impl_IsForm {f1 : (Int × Int × Int)} {r : Bool} (h : r_impl_IsForm f1 = some r) : CallS Try.prog 77 [.ag [Ti f1.1, Ti f1.2.1, Ti f1.2.2]] (Bo r) [] := by
  refine CallS_of_text (rs := [.t 2]) (vs := [.tmp 2]) Try.func77 rfl rfl (.cons rfl FitsL.nil) (by decide) 11 rfl ?_
  unfold r_impl_IsForm at h
  show V _ _ ⟨.ag [Ti f1.1, Ti f1.2.1, Ti f1.2.2] :: bt 10 [], []⟩ _
  refine V_e (mb 11 2) [8] (s1 := ⟨.bot :: .pt 8 0 :: bt 9 [], [(8, .box [Ti f1.1, Ti f1.2.1, Ti f1.2.2])]⟩) ?_
  obtain ⟨y2, hy2, h⟩ := of_bind h
  refine V_sreg (mb 11 4) [] (s1 := ⟨.bot :: .bot :: Bo y2 :: bt 8 [], []⟩) ?_ ?_
  ·refine XR 6 ?_
   refine L1 rfl rfl (Y1_bslice (z := zv3) (els := [f1.1, f1.2.1, f1.2.2].map c3) Try.underlying41 iz3 rfl (by decide) rfl (by kernel_rfl) rfl (by simp [c3]) (by decide) (by decide)) ?_
   refine L1 rfl rfl (Y1_callS (s_impl_areNumbers hy2) cf_impl_areNumbers rfl (by kernel_rfl) rfl rfl) ?_
   exact XE
  refine V_ret ?_
  obtain rfl := some_inj h
  show Post _ _ _ _ _
  exact ⟨.inr rfl, rfl, rfl, rfl⟩
theorem cf_impl_levelForm : ∀ args w, (callFunc 101 args).run Try.prog w = .ok (.enter 101 args) w := run_callFunc Try.func101 (by kernel_rfl) (by kernel_rfl)
theorem s_impl_levelForm {f1 : (Int × Int × Int)} {vn2 : Int} {vr3 : Int} {r : (((Int × Int × Int)) × Bool)} (h : r_impl_levelForm f1 vn2 vr3 = some r) : CallS Try.prog 101 [.ag [Ti f1.1, Ti f1.2.1, Ti f1.2.2], I vn2, I vr3] (.tc (.ag [Ti r.1.1, Ti r.1.2.1, Ti r.1.2.2]) (.tc (Bo r.2) .tn)) [] := by
  refine CallS_of_text (rs := [.w 6 3, .t 7]) (vs := [.cell 6 45, .tmp 7]) Try.func101 rfl rfl (.cons ⟨rfl, wd45⟩ (.cons rfl FitsL.nil)) (by decide) 76 rfl ?_
  unfold r_impl_levelForm at h
  show V _ _ ⟨.ag [Ti f1.1, Ti f1.2.1, Ti f1.2.2] :: I vn2 :: I vr3 :: bt 73 [], []⟩ _
  refine V_e (mb 76 78) [48, 24] (s1 := ⟨.bot :: I vn2 :: I vr3 :: .pt 24 0 :: .bot :: .bot :: .pt 48 0 :: bt 69 [], [(48, .box [Ti 0, Ti 0, Ti 0]), (24, .box [Ti f1.1, Ti f1.2.1, Ti f1.2.2])]⟩) ?_
  obtain ⟨y4, hy4, h⟩ := of_bind h
  refine V_sreg (mb 76 846) [48, 24] (s1 := ⟨.bot :: I vn2 :: I vr3 :: .pt 24 0 :: .bot :: .bot :: .pt 48 0 :: .bot :: I y4.1 :: I y4.2 :: bt 66 [], [(48, .box [Ti 0, Ti 0, Ti 0]), (24, .box [Ti f1.1, Ti f1.2.1, Ti f1.2.2])]⟩) ?_ ?_
  ·refine XR 2 ?_
   refine XC (s_impl_firstPoint hy4) cf_impl_firstPoint rfl rfl rfl ?_
   exact XE
  obtain ⟨y5, hy5, h⟩ := of_bind h
  refine V_sreg (mb 76 1102) [80, 48, 24] (s1 := ⟨.bot :: I vn2 :: I vr3 :: .pt 24 0 :: .bot :: .bot :: .pt 48 0 :: bt 3 (.pt 80 0 :: bt 65 []), [(80, .box [Ti y5.1.1, Ti y5.1.2.1, Ti y5.1.2.2]), (48, .box [Ti 0, Ti 0, Ti 0]), (24, .box [Ti f1.1, Ti f1.2.1, Ti f1.2.2])]⟩) ?_ ?_
  ·refine XR 3 ?_
   refine XC (s_impl_Form_complete hy5) cf_impl_Form_complete rfl rfl rfl ?_
   exact XE
  refine V_e (mb 76 5198) [80, 48, 24] (s1 := ⟨.bot :: I vn2 :: I vr3 :: .pt 24 0 :: .bot :: .bot :: .pt 48 0 :: bt 3 (.pt 80 0 :: .bot :: I y5.1.2.1 :: bt 63 []), [(80, .box [Ti y5.1.1, Ti y5.1.2.1, Ti y5.1.2.2]), (48, .box [Ti 0, Ti 0, Ti 0]), (24, .box [Ti f1.1, Ti f1.2.1, Ti f1.2.2])]⟩) ?_
  refine V_seq ?_
  obtain ⟨o8, hLo8, h⟩ := of_bind h
  refine V_toK (mb 76 5194) [80, 48, 24] (s1 := ⟨.bot :: I vn2 :: .bot :: .pt 24 0 :: .bot :: .bot :: .pt 48 0 :: bt 3 (.pt 80 0 :: .bot :: I o8 :: bt 63 []), [(80, .box [Ti y5.1.1, Ti y5.1.2.1, Ti y5.1.2.2]), (48, .box [Ti 0, Ti 0, Ti 0]), (24, .box [Ti f1.1, Ti f1.2.1, Ti f1.2.2])]⟩) ?_ ?_
  ·clear h
   refine V_block (V_loop (fun n s => ∃ (b6 : Int), s.keep (mb 76 5198) [80, 48, 24] = (⟨.bot :: I vn2 :: I vr3 :: .pt 24 0 :: .bot :: .bot :: .pt 48 0 :: bt 3 (.pt 80 0 :: .bot :: I b6 :: bt 63 []), [(80, .box [Ti y5.1.1, Ti y5.1.2.1, Ti y5.1.2.2]), (48, .box [Ti 0, Ti 0, Ti 0]), (24, .box [Ti f1.1, Ti f1.2.1, Ti f1.2.2])]⟩ : St) ∧ r_impl_levelForm_L7 f1 vn2 vr3 y5 n b6 = some o8) FU ⟨_,  by rfl, hLo8⟩ ?_)
   clear hLo8
   rintro n s ⟨b6, hs, h⟩
   refine V_keep _ _ hs ?_
   clear hs
   cases n with
   | zero => cases h
   | succ n =>
    rw [r_impl_levelForm_L7] at h
    refine V_seq ?_
    obtain ⟨y9, hy9, h⟩ := of_bind h
    refine V_sreg (mb 76 34359743566) [80, 48, 24] (s1 := ⟨.bot :: I vn2 :: I vr3 :: .pt 24 0 :: .bot :: .bot :: .pt 48 0 :: bt 3 (.pt 80 0 :: .bot :: I b6 :: bt 22 (Bo (!eqI y9 0) :: bt 40 [])), [(80, .box [Ti y5.1.1, Ti y5.1.2.1, Ti y5.1.2.2]), (48, .box [Ti 0, Ti 0, Ti 0]), (24, .box [Ti f1.1, Ti f1.2.1, Ti f1.2.2])]⟩) ?_ ?_
    ·refine XR 5 ?_
     refine XC (s_impl_mod hy9) cf_impl_mod rfl rfl rfl ?_
     exact XE
    refine V_cond rfl (fun hc10 => ?_) (fun hc10 => ?_)
    ·have h := of_true h hc10
     refine V_skip ?_
     show V _ _ _ _
     refine V_block ?_
     obtain ⟨b11, hb11, h⟩ := of_sI h
     refine V_reg (mb 76 5198) [80, 48, 24] (s1 := ⟨.bot :: I vn2 :: I vr3 :: .pt 24 0 :: .bot :: .bot :: .pt 48 0 :: bt 3 (.pt 80 0 :: .bot :: I b11 :: bt 63 []), [(80, .box [Ti y5.1.1, Ti y5.1.2.1, Ti y5.1.2.2]), (48, .box [Ti 0, Ti 0, Ti 0]), (24, .box [Ti f1.1, Ti f1.2.1, Ti f1.2.2])]⟩) ?_ ?_
     ·refine XR 6 ?_
      refine XL_nil ?_
      subst hb11
      kernel_rfl
     exact ⟨n, Nat.lt_succ_self n, _,  by rfl, h⟩
    ·have h := of_false h hc10
     refine V_exit ?_
     obtain rfl := some_inj h
     show St.keep _ _ _ = _
     rfl
  show V _ _ _ _
  obtain ⟨y12, hy12, h⟩ := of_bind h
  obtain ⟨b13, hb13, h⟩ := of_sI h
  refine V_sdreg [0, 1, 0, 7, 0, 16, 0, 112, 0, 496, 0, 1024, 3072, 0, 15360, 32752, 65535, 131071] 18 (cdm 18 [2863311392, 2863311393, 2863311370, 2863311381, 715268266, 715268522, 715262634, 715265450, 715172522, 715216298, 134916778, 135965354, 140159658, 44739242, 89828010, 357914026, 1431655765, 5726623061]) (mb 76 5192) [80, 48, 24] (s1 := ⟨bt 3 (.pt 24 0 :: .bot :: .bot :: .pt 48 0 :: bt 3 (.pt 80 0 :: .bot :: I b13 :: bt 63 [])), [(80, .box [Ti y5.1.1, Ti y5.1.2.1, Ti y5.1.2.2]), (48, .box [Ti 0, Ti 0, Ti 0]), (24, .box [Ti f1.1, Ti f1.2.1, Ti f1.2.2])]⟩) (by kernel_rfl) (by kernel_rfl) ?_ ?_
  ·refine DR 15 ?_
   refine DC 15 (s_impl_mod hy12) cf_impl_mod rfl rfl rfl rfl 56 rfl ?_
   refine DA 2 ?_
   refine XL_nil ?_
   subst hb13
   kernel_rfl
  obtain ⟨y14, hy14, h⟩ := of_bind h
  obtain ⟨z15, hz15, h⟩ := of_bind h
  obtain ⟨f16, hf16, h⟩ := of_sI h
  obtain ⟨f17, hf17, h⟩ := of_sI h
  refine V_sdreg [0, 0, 3, 0, 8, 31, 0, 64, 192, 511, 0, 1024, 0, 4096, 16383, 0, 65535] 16 (cdm 16 [2325914248, 2325914242, 2325914245, 2325913642, 2325913706, 2325913941, 2325744298, 2325748394, 2325764778, 2325828949, 2315954858, 2317003434, 2158668458, 2175445674, 2236962133, 715827882]) (mb 76 8256) [104, 48] (s1 := ⟨bt 6 (.pt 48 0 :: bt 6 (.pt 104 0 :: bt 62 [])), [(104, .box [Ti f16, Ti f17, Ti y5.1.1]), (48, .box [Ti 0, Ti 0, Ti 0])]⟩) (by kernel_rfl) (by kernel_rfl) ?_ ?_
  ·refine DR 4 ?_
   refine DC 4 (s_impl_Form_disc hy14) cf_impl_Form_disc rfl rfl rfl rfl 62 rfl ?_
   refine DR 4 ?_
   refine DE_0 9 (I (w64 (Int.tdiv (w64 ((w64 (b13 * b13)) - y14)) (w64 (4 * y5.1.1))))) (by kernel_rfl) rfl rfl rfl (gsat_none rfl) (by kernel_rfl) (Y0_quo64 (a := w64 ((w64 (b13 * b13)) - y14)) (b := w64 (4 * y5.1.1)) rfl (by kernel_rfl) (by kernel_rfl) (nz_some hz15)) 67 rfl ?_
   refine DR 4 ?_
   refine DE_0 14 (.ag [Ti (w64 (Int.tdiv (w64 ((w64 (b13 * b13)) - y14)) (w64 (4 * y5.1.1)))), Ti (w64 (0 - b13)), Ti y5.1.1]) (by kernel_rfl) rfl rfl rfl (gsat_none rfl) (by kernel_rfl) (Y0_build (cs := [Ti (w64 (Int.tdiv (w64 ((w64 (b13 * b13)) - y14)) (w64 (4 * y5.1.1)))), Ti (w64 (0 - b13)), Ti y5.1.1]) pl45 bt45 rfl rfl (by kernel_rfl)) 72 rfl ?_
   refine DA 1 ?_
   refine XR 1 ?_
   refine XL_nil ?_
   subst hf16 hf17
   kernel_rfl
  obtain ⟨y18, hy18, h⟩ := of_bind h
  refine V_sdreg [0, 0, 2, 7, 15] 3 (cdm 3 [40, 2, 6]) (mb 76 192) [48] (s1 := ⟨bt 6 (.pt 48 0 :: Bo y18 :: bt 68 []), [(48, .box [Ti f16, Ti f17, Ti y5.1.1])]⟩) (by kernel_rfl) (by kernel_rfl) ?_ ?_
  ·refine DR 2 ?_
   refine DC 2 (s_impl_IsForm hy18) cf_impl_IsForm rfl rfl rfl rfl 75 rfl ?_
   refine DA 0 ?_
   exact XE
  refine V_ret ?_
  obtain rfl := some_inj h
  show Post _ _ _ _ _
  exact ⟨.inr rfl, rfl, rfl, rfl⟩
theorem cf_impl_LevelClasses : ∀ args w, (callFunc 40 args).run Try.prog w = .ok (.enter 40 args) w := run_callFunc Try.func40 (by kernel_rfl) (by kernel_rfl)
theorem s_impl_LevelClasses {d1 : Int} {vn2 : Int} {r : ((List ((Int × Int × Int))) × Bool)} (h : r_impl_LevelClasses d1 vn2 = some r) : CallS Try.prog 40 [I d1, I vn2] (.tc (.ow 0) (.tc (Bo r.2) .tn)) [(0, .arr 45 3 (r.1.map c45))] := by
  refine CallS_of_text (rs := [.t 4, .t 5]) (vs := [.tmp 4, .tmp 5]) Try.func40 rfl rfl (.cons rfl (.cons rfl FitsL.nil)) (by decide) 55 rfl ?_
  unfold r_impl_LevelClasses at h
  show V _ _ ⟨I d1 :: I vn2 :: bt 53 [], []⟩ _
  refine V_sreg (mb 55 3) [] (s1 := ⟨I d1 :: I vn2 :: bt 53 [], []⟩) ?_ ?_
  ·refine L1 rfl rfl (Y1_nil (e := 45) 3 (by decide) (.inl rfl)) ?_
   exact XE
  obtain ⟨y3, hy3, h⟩ := of_bind h
  refine V_sreg (mb 55 195) [144] (s1 := ⟨I d1 :: I vn2 :: bt 4 (.ow 144 :: Bo y3.2 :: bt 47 []), [(144, .arr 3 1 (y3.1.map c3))]⟩) ?_ ?_
  ·refine XR 2 ?_
   refine XC (s_impl_LevelRoots hy3) cf_impl_LevelRoots rfl rfl rfl ?_
   exact XE
  refine V_seq ?_
  refine V_e (mb 55 4194371) [144] (s1 := ⟨I d1 :: I vn2 :: bt 4 (.ow 144 :: bt 15 (Bo (!y3.2) :: bt 32 [])), [(144, .arr 3 1 (y3.1.map c3))]⟩) ?_
  refine V_cond rfl (fun hc4 => ?_) (fun hc4 => ?_)
  ·have h := of_true h hc4
   refine V_sreg (mb 55 48) [184] (s1 := ⟨bt 4 (.ow 184 :: Bo false :: bt 49 []), [(184, .arr 45 3 ((([] : List ((Int × Int × Int)))).map c45))]⟩) ?_ ?_
   ·refine L1 rfl rfl (Y1_bslice0 Try.underlying62 sz45 (by decide) rfl rfl) ?_
    exact XE
   refine V_ret ?_
   obtain rfl := some_inj h
   show Post _ _ _ _ _
   exact ⟨.inr rfl, rfl, rfl, rfl⟩
  ·have h := of_false h hc4
   refine V_skip ?_
   show V _ _ _ _
   refine V_sreg (mb 55 323) [192, 144] (s1 := ⟨I d1 :: I vn2 :: bt 4 (.ow 144 :: .bot :: .ow 192 :: bt 46 []), [(192, .arr 45 3 ((([] : List ((Int × Int × Int)))).map c45)), (144, .arr 3 1 (y3.1.map c3))]⟩) ?_ ?_
   ·refine L1 rfl rfl (Y1_bslice0 Try.underlying62 sz45 (by decide) rfl rfl) ?_
    exact XE
   refine V_seq ?_
   refine V_sreg (mb 55 234881283) [192, 144] (s1 := ⟨I d1 :: I vn2 :: bt 6 (.ow 192 :: bt 16 (.ow 144 :: I ((y3.1.length : Int)) :: I 0 :: bt 27 [])), [(192, .arr 45 3 ((([] : List ((Int × Int × Int)))).map c45)), (144, .arr 3 1 (y3.1.map c3))]⟩) ?_ ?_
   ·refine XR 1 ?_
    refine L0 rfl rfl (Y0_lenM (c := c3) (xs := y3.1) Try.underlying41 rfl (by kernel_rfl)) ?_
    exact XE
   obtain ⟨qo8, hLo8, hko8⟩ := of_bind h
   refine V_toS (q := qo8) (S := fun o8 => ⟨bt 8 (.ow 192 :: bt 46 []), [(192, .arr 45 3 (o8.map c45))]⟩) (mb 55 256) [192] ?_ ?_
   ·refine V_block (V_loop (fun n s => ∃ (t5 : Int) (l6 : List ((Int × Int × Int))), s.keep (mb 55 234881283) [192, 144] = (⟨I d1 :: I vn2 :: bt 6 (.ow 192 :: bt 16 (.ow 144 :: I ((y3.1.length : Int)) :: I t5 :: bt 27 [])), [(192, .arr 45 3 (l6.map c45)), (144, .arr 3 1 (y3.1.map c3))]⟩ : St) ∧ r_impl_LevelClasses_L7 d1 vn2 y3 n t5 l6 = some qo8) FU ⟨_, _,  by rfl, hLo8⟩ ?_)
    clear hLo8
    rintro n s ⟨t5, l6, hs, h⟩
    refine V_keep _ _ hs ?_
    clear hs
    cases n with
    | zero => cases h
    | succ n =>
     rw [r_impl_LevelClasses_L7] at h
     refine V_e (mb 55 503316739) [192, 144] (s1 := ⟨I d1 :: I vn2 :: bt 6 (.ow 192 :: bt 16 (.ow 144 :: I ((y3.1.length : Int)) :: I t5 :: Bo (ltI t5 ((y3.1.length : Int))) :: bt 26 [])), [(192, .arr 45 3 (l6.map c45)), (144, .arr 3 1 (y3.1.map c3))]⟩) ?_
     refine V_seq ?_
     refine V_cond rfl (fun hc9 => ?_) (fun hc9 => ?_)
     ·have h := of_true h hc9
      refine V_skip ?_
      show V _ _ _ _
      refine V_seq ?_
      refine V_block ?_
      obtain ⟨e10, he10, h⟩ := of_bind h
      obtain ⟨e11, he11, h⟩ := of_bind h
      refine V_sreg (mb 55 234882307) [192, 144] (s1 := ⟨I d1 :: I vn2 :: bt 6 (.ow 192 :: .bot :: I e11 :: bt 14 (.ow 144 :: I ((y3.1.length : Int)) :: I t5 :: bt 27 [])), [(192, .arr 45 3 (l6.map c45)), (144, .arr 3 1 (y3.1.map c3))]⟩) ?_ ?_
      ·refine L0 rfl rfl (Y0_idxoM (c := c3) (xs := y3.1) (v := e10) (id := 144) (T := 3) (sz := 1) (n := t5) Try.underlying41 sz3 rfl (by kernel_rfl) (by kernel_rfl) (by kernel_rfl) he10) ?_
       refine L0 rfl rfl (Y0_loado1 (c := c3) (xs := y3.1) (v := e11) (id := 144) (sz := 1) (T := 3) (off := 0) (n := t5) (d := Ti e11) (ds := []) sc3 rfl (by kernel_rfl) (by kernel_rfl) he11 (by kernel_rfl)) ?_
       exact XE
      obtain ⟨y12, hy12, h⟩ := of_bind h
      refine V_sreg (mb 55 30299653379) [256, 192, 144] (s1 := ⟨I d1 :: I vn2 :: bt 6 (.ow 192 :: .bot :: I e11 :: bt 14 (.ow 144 :: I ((y3.1.length : Int)) :: I t5 :: bt 4 (.ow 256 :: I ((y12.length : Int)) :: I 0 :: bt 20 []))), [(256, .arr 45 3 (y12.map c45)), (192, .arr 45 3 (l6.map c45)), (144, .arr 3 1 (y3.1.map c3))]⟩) ?_ ?_
      ·refine XR 1 ?_
       refine XC (s_impl_reducedForms hy12) cf_impl_reducedForms rfl rfl rfl ?_
       refine L0 rfl rfl (Y0_lenM (c := c45) (xs := y12) Try.underlying62 rfl (by kernel_rfl)) ?_
       exact XE
      obtain ⟨qo16, hLo16, hko16⟩ := of_bind h
      refine V_toS (q := qo16) (S := fun o16 => ⟨I d1 :: I vn2 :: bt 6 (.ow 192 :: bt 16 (.ow 144 :: I ((y3.1.length : Int)) :: I t5 :: bt 27 [])), [(192, .arr 45 3 (o16.map c45)), (144, .arr 3 1 (y3.1.map c3))]⟩) (mb 55 234881283) [192, 144] ?_ ?_
      ·refine V_block (V_loop (fun n s => ∃ (t13 : Int) (l14 : List ((Int × Int × Int))), s.keep (mb 55 30299653379) [256, 192, 144] = (⟨I d1 :: I vn2 :: bt 6 (.ow 192 :: .bot :: I e11 :: bt 14 (.ow 144 :: I ((y3.1.length : Int)) :: I t5 :: bt 4 (.ow 256 :: I ((y12.length : Int)) :: I t13 :: bt 20 []))), [(256, .arr 45 3 (y12.map c45)), (192, .arr 45 3 (l14.map c45)), (144, .arr 3 1 (y3.1.map c3))]⟩ : St) ∧ r_impl_LevelClasses_L15 d1 e11 t5 vn2 y12 y3 n t13 l14 = some qo16) FU ⟨_, _,  by rfl, hLo16⟩ ?_)
       clear hLo16
       rintro n s ⟨t13, l14, hs, h⟩
       refine V_keep _ _ hs ?_
       clear hs
       cases n with
       | zero => cases h
       | succ n =>
        rw [r_impl_LevelClasses_L15] at h
        refine V_e (mb 55 64659391747) [256, 192, 144] (s1 := ⟨I d1 :: I vn2 :: bt 6 (.ow 192 :: .bot :: I e11 :: bt 14 (.ow 144 :: I ((y3.1.length : Int)) :: I t5 :: bt 4 (.ow 256 :: I ((y12.length : Int)) :: I t13 :: Bo (ltI t13 ((y12.length : Int))) :: bt 19 []))), [(256, .arr 45 3 (y12.map c45)), (192, .arr 45 3 (l14.map c45)), (144, .arr 3 1 (y3.1.map c3))]⟩) ?_
        refine V_seq ?_
        refine V_cond rfl (fun hc17 => ?_) (fun hc17 => ?_)
        ·have h := of_true h hc17
         refine V_skip ?_
         show V _ _ _ _
         refine V_seq ?_
         refine V_block ?_
         obtain ⟨e18, he18, h⟩ := of_bind h
         obtain ⟨e19, he19, h⟩ := of_bind h
         refine V_sreg (mb 55 30299657475) [96, 256, 192, 144] (s1 := ⟨I d1 :: I vn2 :: bt 6 (.ow 192 :: .bot :: I e11 :: .bot :: .pt 96 0 :: bt 12 (.ow 144 :: I ((y3.1.length : Int)) :: I t5 :: bt 4 (.ow 256 :: I ((y12.length : Int)) :: I t13 :: bt 20 []))), [(96, .box [Ti e19.1, Ti e19.2.1, Ti e19.2.2]), (256, .arr 45 3 (y12.map c45)), (192, .arr 45 3 (l14.map c45)), (144, .arr 3 1 (y3.1.map c3))]⟩) ?_ ?_
         ·refine L0 rfl rfl (Y0_idxoM (c := c45) (xs := y12) (v := e18) (id := 256) (T := 45) (sz := 3) (n := t13) Try.underlying62 sz45 rfl (by kernel_rfl) (by kernel_rfl) (by kernel_rfl) he18) ?_
          refine L0 rfl rfl (E_loadon (c := c45) (xs := y12) (v := e19) (id := 256) (sz := 3) (T := 45) (off := 0) (n := t13) [Ti e19.1, Ti e19.2.1, Ti e19.2.2] wd45 rfl (by kernel_rfl) (by kernel_rfl) he19 (Nat.le_of_ble_eq_true rfl) (by kernel_rfl)) ?_
          exact XE
         obtain ⟨y20, hy20, h⟩ := of_bind h
         refine V_sreg (mb 55 30299677955) [104, 256, 192, 144] (s1 := ⟨I d1 :: I vn2 :: bt 6 (.ow 192 :: .bot :: I e11 :: .bot :: .bot :: .pt 104 0 :: Bo y20.2 :: bt 10 (.ow 144 :: I ((y3.1.length : Int)) :: I t5 :: bt 4 (.ow 256 :: I ((y12.length : Int)) :: I t13 :: bt 20 []))), [(104, .box [Ti y20.1.1, Ti y20.1.2.1, Ti y20.1.2.2]), (256, .arr 45 3 (y12.map c45)), (192, .arr 45 3 (l14.map c45)), (144, .arr 3 1 (y3.1.map c3))]⟩) ?_ ?_
         ·refine XR 3 ?_
          refine XC (s_impl_levelForm hy20) cf_impl_levelForm rfl rfl rfl ?_
          exact XE
         refine V_seq ?_
         refine V_e (mb 55 70399043839235) [104, 256, 192, 144] (s1 := ⟨I d1 :: I vn2 :: bt 6 (.ow 192 :: .bot :: I e11 :: .bot :: .bot :: .pt 104 0 :: bt 11 (.ow 144 :: I ((y3.1.length : Int)) :: I t5 :: bt 4 (.ow 256 :: I ((y12.length : Int)) :: I t13 :: bt 11 (Bo (!y20.2) :: bt 8 [])))), [(104, .box [Ti y20.1.1, Ti y20.1.2.1, Ti y20.1.2.2]), (256, .arr 45 3 (y12.map c45)), (192, .arr 45 3 (l14.map c45)), (144, .arr 3 1 (y3.1.map c3))]⟩) ?_
         refine V_cond rfl (fun hc21 => ?_) (fun hc21 => ?_)
         ·have h := of_true h hc21
          refine V_sreg (mb 55 48) [376] (s1 := ⟨bt 4 (.ow 376 :: Bo false :: bt 49 []), [(376, .arr 45 3 ((([] : List ((Int × Int × Int)))).map c45))]⟩) ?_ ?_
          ·refine L1 rfl rfl (Y1_bslice0 Try.underlying62 sz45 (by decide) rfl rfl) ?_
           exact XE
          refine V_ret ?_
          obtain rfl := some_inj h
          have h := hko16
          obtain rfl := some_inj h
          have h := hko8
          obtain rfl := some_inj h
          show Post _ _ _ _ _
          exact ⟨.inr rfl, rfl, rfl, rfl⟩
         ·have h := of_false h hc21
          refine V_skip ?_
          show V _ _ _ _
          obtain ⟨u22, hu22, h⟩ := of_bind h
          refine V_reg (mb 55 30299653379) [256, 192, 144] (s1 := ⟨I d1 :: I vn2 :: bt 6 (.ow 192 :: .bot :: I e11 :: bt 14 (.ow 144 :: I ((y3.1.length : Int)) :: I t5 :: bt 4 (.ow 256 :: I ((y12.length : Int)) :: I t13 :: bt 20 []))), [(256, .arr 45 3 (y12.map c45)), (192, .arr 45 3 ((l14 ++ ([y20.1])).map c45)), (144, .arr 3 1 (y3.1.map c3))]⟩) ?_ ?_
          ·refine XR 2 ?_
           refine L1 rfl rfl (Y1_bslice (z := zv45) (els := [y20.1].map c45) Try.underlying62 iz45 rfl (by decide) rfl (by kernel_rfl) rfl (by simp [c45]) (by decide) (by decide)) ?_
           refine XL_cons rfl (X_appendM (c := c45) (xs := l14) (ys := [y20.1]) (id := 192) (z := zv45) rfl rfl Try.underlying62 izb45 rfl (by kernel_rfl) (by kernel_rfl) (by kernel_rfl) (fun _ => rfl) (by simp) (room_some hu22) (by decide)) ?_
           exact XE
          show V _ _ _ _
          obtain ⟨t23, ht23, h⟩ := of_sI h
          refine V_reg (mb 55 30299653379) [256, 192, 144] (s1 := ⟨I d1 :: I vn2 :: bt 6 (.ow 192 :: .bot :: I e11 :: bt 14 (.ow 144 :: I ((y3.1.length : Int)) :: I t5 :: bt 4 (.ow 256 :: I ((y12.length : Int)) :: I t23 :: bt 20 []))), [(256, .arr 45 3 (y12.map c45)), (192, .arr 45 3 ((l14 ++ ([y20.1])).map c45)), (144, .arr 3 1 (y3.1.map c3))]⟩) ?_ ?_
          ·refine XR 2 ?_
           refine XL_nil ?_
           subst ht23
           kernel_rfl
          exact ⟨n, Nat.lt_succ_self n, _, _,  by rfl, h⟩
        ·have h := of_false h hc17
         refine V_exit ?_
         obtain rfl := some_inj h
         exact ⟨_, rfl, by rfl⟩
      rintro o16 rfl
      have h := hko16
      clear hko16
      show V _ _ _ _
      obtain ⟨t24, ht24, h⟩ := of_sI h
      refine V_reg (mb 55 234881283) [192, 144] (s1 := ⟨I d1 :: I vn2 :: bt 6 (.ow 192 :: bt 16 (.ow 144 :: I ((y3.1.length : Int)) :: I t24 :: bt 27 [])), [(192, .arr 45 3 (o16.map c45)), (144, .arr 3 1 (y3.1.map c3))]⟩) ?_ ?_
      ·refine XR 2 ?_
       refine XL_nil ?_
       subst ht24
       kernel_rfl
      exact ⟨n, Nat.lt_succ_self n, _, _,  by rfl, h⟩
     ·have h := of_false h hc9
      refine V_exit ?_
      obtain rfl := some_inj h
      exact ⟨_, rfl, by rfl⟩
   rintro o8 rfl
   have h := hko8
   clear hko8
   show V _ _ _ _
   refine V_e (mb 55 48) [192] (s1 := ⟨bt 4 (.ow 192 :: Bo true :: bt 49 []), [(192, .arr 45 3 (o8.map c45))]⟩) ?_
   refine V_ret ?_
   obtain rfl := some_inj h
   show Post _ _ _ _ _
   exact ⟨.inr rfl, rfl, rfl, rfl⟩
theorem cf_spec_lvGood : ∀ args w, (callFunc 103 args).run Try.prog w = .ok (.enter 103 args) w := run_callFunc Try.func103 (by kernel_rfl) (by kernel_rfl)
theorem s_spec_lvGood {d1 : Int} {vn2 : Int} {r : Bool} (h : r_spec_lvGood d1 vn2 = some r) : CallS Try.prog 103 [I d1, I vn2] (Bo r) [] := by
  refine CallS_of_text (rs := [.t 4]) (vs := [.tmp 4]) Try.func103 rfl rfl (.cons rfl FitsL.nil) (by decide) 13 rfl ?_
  unfold r_spec_lvGood at h
  show V _ _ ⟨I d1 :: I vn2 :: bt 11 [], []⟩ _
  refine V_e (mb 13 3) [] (s1 := ⟨I d1 :: I vn2 :: bt 11 [], []⟩) ?_
  obtain ⟨y3, hy3, h⟩ := of_bind h
  obtain ⟨b6, hb6, h⟩ := of_bind h
  refine V_sreg (mb 13 16) [] (s1 := ⟨bt 4 (Bo b6 :: bt 8 []), []⟩) ?_ ?_
  ·refine XR 1 ?_
   refine XC (s_spec_l1In hy3) cf_spec_l1In rfl rfl rfl ?_
   refine XR 1 ?_
   refine XL_split y3 (fun hc4 => ?_) (fun hc4 => ?_)
   ·have hb6 := of_true hb6 hc4
    obtain ⟨y5, hy5, hb6⟩ := of_bind hb6
    have hb6 := some_inj hb6
    refine XL_takeC _ rfl rfl (by kernel_rfl) hc4 (X_of_Y0 rfl (E_move (I d1) rfl (by kernel_rfl))) ?_
    refine XL_takeC _ rfl rfl (by kernel_rfl) hc4 (X_of_Y0 rfl (E_move (I vn2) rfl (by kernel_rfl))) ?_
    refine XL_takeC _ rfl rfl (by kernel_rfl) hc4 (X_of_Y1 rfl (Y1_call (s_spec_nuGcd hy5) cf_spec_nuGcd rfl (by kernel_rfl))) ?_
    refine XL_takeC _ rfl rfl (by kernel_rfl) hc4 (X_of_Y0 rfl (Y0_eqw (k := .i64) (a := y5) (b := 1) rfl (by kernel_rfl) (by kernel_rfl))) ?_
    refine XL_cons rfl (X_of_Y0 rfl (Y0_pickTe (b := y3) (p := eqI y5 1) rfl (by kernel_rfl) hc4 (by kernel_rfl) hb6)) ?_
    exact XE
   ·have hb6 := some_inj (of_false hb6 hc4)
    refine XL_skipT _ rfl rfl (by kernel_rfl) hc4 rfl ?_
    refine XL_skipT _ rfl rfl (by kernel_rfl) hc4 rfl ?_
    refine XL_skipT _ rfl rfl (by kernel_rfl) hc4 rfl ?_
    refine XL_skipT _ rfl rfl (by kernel_rfl) hc4 rfl ?_
    refine XL_cons rfl (X_of_Y0 rfl (Y0_pickFe (b := y3) (p := false) rfl (by kernel_rfl) hc4 (by kernel_rfl) hb6)) ?_
    exact XE
  refine V_ret ?_
  obtain rfl := some_inj h
  show Post _ _ _ _ _
  exact ⟨.inr rfl, rfl, rfl, rfl⟩
theorem cf_spec_foDisc : ∀ args w, (callFunc 126 args).run Try.prog w = .ok (.enter 126 args) w := run_callFunc Try.func126 (by kernel_rfl) (by kernel_rfl)
theorem s_spec_foDisc {f1 : (Int × Int × Int)} {r : Int} (h : r_spec_foDisc f1 = some r) : CallS Try.prog 126 [.ag [Ti f1.1, Ti f1.2.1, Ti f1.2.2]] (I r) [] := by
  refine CallS_of_text (rs := [.t 2]) (vs := [.tmp 2]) Try.func126 rfl rfl (.cons rfl FitsL.nil) (by decide) 15 rfl ?_
  unfold r_spec_foDisc at h
  show V _ _ ⟨.ag [Ti f1.1, Ti f1.2.1, Ti f1.2.2] :: bt 14 [], []⟩ _
  refine V_e (mb 15 2) [8] (s1 := ⟨.bot :: .pt 8 0 :: bt 13 [], [(8, .box [Ti f1.1, Ti f1.2.1, Ti f1.2.2])]⟩) ?_
  obtain ⟨t2, ht2, h⟩ := of_sI h
  refine V_sreg (mb 15 4) [] (s1 := ⟨.bot :: .bot :: I t2 :: bt 12 [], []⟩) ?_ ?_
  ·refine XR 13 ?_
   refine XL_nil ?_
   subst ht2
   kernel_rfl
  refine V_ret ?_
  obtain rfl := some_inj h
  show Post _ _ _ _ _
  exact ⟨.inr rfl, rfl, rfl, rfl⟩
end Go.Proofs.Ytgeajejmikaniaa
