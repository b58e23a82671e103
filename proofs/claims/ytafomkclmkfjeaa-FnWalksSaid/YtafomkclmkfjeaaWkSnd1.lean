/-
  The functions of the program compute what the plain functions say.
  Conditions: none.
-/
import Derived.Test.YtafomkclmkfjeaaShEx
import Derived.Test.YtafomkclmkfjeaaShVw
import Derived.Test.YtafomkclmkfjeaaShMp
import Derived.Test.YtafomkclmkfjeaaWkRaw
import Derived.Test.YtafomkclmkfjeaaRows
namespace Go.Proofs.Ytafomkclmkfjeaa
open Go.RowKit
set_option linter.unusedVariables false
set_option linter.unusedSimpArgs false
set_option maxRecDepth 100000
set_option maxHeartbeats 400000
def c5 (x : Int) : List Tr := [.v (.int .u8 x)]
def c3 (x : Int) : List Tr := [Ti x]
def c25 (x : (Int × Int × Int)) : List Tr := [Ti x.1, Ti x.2.1, Ti x.2.2]
def c86 (x : (Int × Int × Int × Int)) : List Tr := [Ti x.1, Ti x.2.1, Ti x.2.2.1, Ti x.2.2.2]
def c47 (x : List Int) : List Tr := [.sl (x.map c3)]
def c44 (x : List ((Int × Int × Int))) : List Tr := [.sl (x.map c25)]
def zv3 : Value := .int .i64 0
theorem zf3 : (Try.prog.info? 3).bind (·.zero) = some zv3 := by kernel_rfl
def zv25 : Value := .agg #[.int .i64 0, .int .i64 0, .int .i64 0]
theorem zf25 : (Try.prog.info? 25).bind (·.zero) = some zv25 := by kernel_rfl
def zv44 : Value := .slice none 0 0
theorem zf44 : (Try.prog.info? 44).bind (·.zero) = some zv44 := by kernel_rfl
def zv47 : Value := .slice none 0 0
theorem zf47 : (Try.prog.info? 47).bind (·.zero) = some zv47 := by kernel_rfl
def zv86 : Value := .agg #[.int .i64 0, .int .i64 0, .int .i64 0, .int .i64 0]
theorem zf86 : (Try.prog.info? 86).bind (·.zero) = some zv86 := by kernel_rfl
theorem iz3 : (Try.prog.info? 3).map (fun i => (i.zero, i.size)) = some (some zv3, 1) := by kernel_rfl
theorem iz25 : (Try.prog.info? 25).map (fun i => (i.zero, i.size)) = some (some zv25, 3) := by kernel_rfl
theorem iz44 : (Try.prog.info? 44).map (fun i => (i.zero, i.size)) = some (some zv44, 1) := by kernel_rfl
theorem iz47 : (Try.prog.info? 47).map (fun i => (i.zero, i.size)) = some (some zv47, 1) := by kernel_rfl
theorem iz86 : (Try.prog.info? 86).map (fun i => (i.zero, i.size)) = some (some zv86, 4) := by kernel_rfl
theorem izb3 : (Try.prog.info? 3).map (fun i => (i.zero, i.size, i.bytes)) = some (some zv3, 1, 8) := by kernel_rfl
theorem izb25 : (Try.prog.info? 25).map (fun i => (i.zero, i.size, i.bytes)) = some (some zv25, 3, 24) := by kernel_rfl
theorem izb44 : (Try.prog.info? 44).map (fun i => (i.zero, i.size, i.bytes)) = some (some zv44, 1, 24) := by kernel_rfl
theorem izb47 : (Try.prog.info? 47).map (fun i => (i.zero, i.size, i.bytes)) = some (some zv47, 1, 24) := by kernel_rfl
theorem izb86 : (Try.prog.info? 86).map (fun i => (i.zero, i.size, i.bytes)) = some (some zv86, 4, 32) := by kernel_rfl
theorem sc3 : scalar Try.prog 3 := ⟨_, Try.underlying3, rfl⟩
theorem sc5 : scalar Try.prog 5 := ⟨_, Try.underlying5, rfl⟩
theorem sc22 : scalar Try.prog 22 := ⟨_, Try.underlying22, rfl⟩
theorem sc44 : scalar Try.prog 44 := ⟨_, Try.underlying44, rfl⟩
theorem sc47 : scalar Try.prog 47 := ⟨_, Try.underlying47, rfl⟩
theorem sc67 : scalar Try.prog 67 := ⟨_, Try.underlying67, rfl⟩
theorem sc78 : scalar Try.prog 78 := ⟨_, Try.underlying78, rfl⟩
theorem sz3 : (Try.prog.info? 3).map (·.size) = some 1 := by kernel_rfl
theorem sz5 : (Try.prog.info? 5).map (·.size) = some 1 := by kernel_rfl
theorem sz22 : (Try.prog.info? 22).map (·.size) = some 1 := by kernel_rfl
theorem sz25 : (Try.prog.info? 25).map (·.size) = some 3 := by kernel_rfl
theorem sz44 : (Try.prog.info? 44).map (·.size) = some 1 := by kernel_rfl
theorem sz47 : (Try.prog.info? 47).map (·.size) = some 1 := by kernel_rfl
theorem sz67 : (Try.prog.info? 67).map (·.size) = some 1 := by kernel_rfl
theorem sz78 : (Try.prog.info? 78).map (·.size) = some 1 := by kernel_rfl
theorem sz86 : (Try.prog.info? 86).map (·.size) = some 4 := by kernel_rfl
theorem wd25 : wide Try.prog 25 3 := ⟨⟨_, Try.underlying25, rfl⟩, by kernel_rfl⟩
theorem wd86 : wide Try.prog 86 4 := ⟨⟨_, Try.underlying86, rfl⟩, by kernel_rfl⟩
def pl25 : Nat → Option (Nat × Nat) := fun i => (#[(0, 1), (1, 1), (2, 1)] : Array (Nat × Nat))[i]?
theorem bt25 : ∀ ps, Try.prog.built 25 ps = Instr.fill pl25 #[.int .i64 0, .int .i64 0, .int .i64 0] ps := fun ps => by kernel_rfl
def pl69 : Nat → Option (Nat × Nat) := fun i => (#[(0, 1), (1, 1), (2, 1)] : Array (Nat × Nat))[i]?
theorem bt69 : ∀ ps, Try.prog.built 69 ps = Instr.fill pl69 #[.slice none 0 0, .int .i64 0, .int .u64 0] ps := fun ps => by kernel_rfl
def pl83 : Nat → Option (Nat × Nat) := fun i => (#[(0, 1), (1, 1)] : Array (Nat × Nat))[i]?
theorem bt83 : ∀ ps, Try.prog.built 83 ps = Instr.fill pl83 #[.slice none 0 0, .map none] ps := fun ps => by kernel_rfl
def pl86 : Nat → Option (Nat × Nat) := fun i => (#[(0, 1), (1, 1), (2, 1), (3, 1)] : Array (Nat × Nat))[i]?
theorem bt86 : ∀ ps, Try.prog.built 86 ps = Instr.fill pl86 #[.int .i64 0, .int .i64 0, .int .i64 0, .int .i64 0] ps := fun ps => by kernel_rfl
theorem eqg25 : EqAg3 Try.prog .eql 25 := by
  intro a0 a1 a2 b0 b1 b2 x y w
  have hg : (eqGuard .eql 25 x y (.agg #[.int .i64 a0, .int .i64 a1, .int .i64 a2]) (.agg #[.int .i64 b0, .int .i64 b1, .int .i64 b2])).run Try.prog w = .ok () w := by simp [eqGuard, (by kernel_rfl : Try.prog.eqGuardType Try.prog.depth 25 = false)]
  have hf : (Try.prog.fieldsOf 25).toList = (match Try.prog.underlying 25 with | some (.struct fs) => fs.toList | _ => []) := by kernel_rfl
  refine ⟨hg, ?_⟩
  rw [run_eql_struct, run_equalIn_agg (d := 9999) (ht := by kernel_rfl) (hp := by kernel_rfl), hf, Try.underlying25]
  by_cases h0 : a0 = b0 <;> by_cases h1 : a1 = b1 <;> by_cases h2 : a2 = b2 <;> simp [Op.eqFields, part, go_sem, h0, h1, h2]
theorem neg25 : EqAg3 Try.prog .neq 25 := by
  intro a0 a1 a2 b0 b1 b2 x y w
  have hg : (eqGuard .neq 25 x y (.agg #[.int .i64 a0, .int .i64 a1, .int .i64 a2]) (.agg #[.int .i64 b0, .int .i64 b1, .int .i64 b2])).run Try.prog w = .ok () w := by simp [eqGuard, (by kernel_rfl : Try.prog.eqGuardType Try.prog.depth 25 = false)]
  have hf : (Try.prog.fieldsOf 25).toList = (match Try.prog.underlying 25 with | some (.struct fs) => fs.toList | _ => []) := by kernel_rfl
  refine ⟨hg, ?_⟩
  rw [run_neq_struct, run_equalIn_agg (d := 9999) (ht := by kernel_rfl) (hp := by kernel_rfl), hf, Try.underlying25]
  by_cases h0 : a0 = b0 <;> by_cases h1 : a1 = b1 <;> by_cases h2 : a2 = b2 <;> simp [Op.eqFields, part, go_sem, h0, h1, h2]
def ek78 (x : (Int × Int × Int)) : Value := .agg #[.int .i64 x.1, .int .i64 x.2.1, .int .i64 x.2.2]
def ev78 (x : Int) : Value := .int .i64 x
def kv78 (p : ((Int × Int × Int)) × Int) : Value × Value := (ek78 p.1, ev78 p.2)
theorem kt78 : KeyT Try.prog 25 ek78 := by
  have hf : (Try.prog.fieldsOf 25).toList = (match Try.prog.underlying 25 with | some (.struct fs) => fs.toList | _ => []) := by kernel_rfl
  refine keyT_ask _ Try.underlying25 (fun b a w => ?_) (fun a b w => ?_) (fun _ _ => rfl) (fun a => ?_)
  · obtain ⟨a0, a1, a2⟩ := a
    have hi : ∀ (b : Bool) (a : Int) (w : World), (Instr.checkKey b 9999 3 (.int .i64 a)).run Try.prog w = .ok () w := fun b a w => MapKept.run_checkKey Try.underlying3 (by simp [MapKept.IsKey]) b 9998
    show (Instr.checkKey b (9998 + 1 + 1) _ (.agg #[.int .i64 a0, .int .i64 a1, .int .i64 a2])).run _ w = _
    unfold Instr.checkKey
    simp [part, go_sem, hi]
  · obtain ⟨a0, a1, a2⟩ := a
    obtain ⟨b0, b1, b2⟩ := b
    unfold ek78
    rw [show Op.equal 25 = Op.equalIn 10000 25 from rfl, run_equalIn_agg (d := 9999) (ht := by kernel_rfl) (hp := by kernel_rfl), hf, Try.underlying25]
    by_cases h0 : a0 = b0 <;> by_cases h1 : a1 = b1 <;> by_cases h2 : a2 = b2 <;> simp [Op.eqFields, part, go_sem, h0, h1, h2]
  · obtain ⟨a0, a1, a2⟩ := a
    exact bits_ints 9999 [a0, a1, a2]
theorem mo78 : MpOk Try.prog 78 ek78 ev78 0 := ⟨25, 3, Try.underlying78, kt78, by kernel_rfl, fun _ => rfl⟩
theorem cf_laws_big : ∀ args w, (callFunc 6 args).run Try.prog w = .ok (.enter 6 args) w := run_callFunc Try.func6 (by kernel_rfl) (by kernel_rfl)
theorem s_laws_big {code1 : List Int} {more2 : List Int} {r : Bool} (h : r_laws_big code1 more2 = some r) : CallS Try.prog 6 [.c (.sl (code1.map c5)), .c (.sl (more2.map c5))] (Bo r) [] := by
  refine CallS_of_text (rs := [.t 4]) (vs := [.tmp 4]) Try.func6 rfl rfl (.cons rfl FitsL.nil) (by decide) 16 rfl ?_
  unfold r_laws_big at h
  show V _ _ ⟨.c (.sl (code1.map c5)) :: .c (.sl (more2.map c5)) :: bt 14 [], []⟩ _
  refine V_e (mb 16 3) [] (s1 := ⟨.c (.sl (code1.map c5)) :: .c (.sl (more2.map c5)) :: bt 14 [], []⟩) ?_
  obtain ⟨t4, ht4, h⟩ := of_bind h
  have ht4 := some_inj ht4
  refine V_sreg (mb 16 16) [] (s1 := ⟨bt 4 (Bo t4 :: bt 11 []), []⟩) ?_ ?_
  ·refine XR 1 ?_
   refine L0 rfl rfl (Y0_lenM (c := c5) (xs := code1) Try.underlying22 rfl (by kernel_rfl)) ?_
   refine XR 2 ?_
   refine XL_split (ltI 1048576 ((code1.length : Int))) (fun hc3 => ?_) (fun hc3 => ?_)
   ·refine XL_skipF _ rfl rfl (by kernel_rfl) hc3 rfl ?_
    refine XL_skipF _ rfl rfl (by kernel_rfl) hc3 rfl ?_
    refine XL_skipF _ rfl rfl (by kernel_rfl) hc3 rfl ?_
    refine XL_skipF _ rfl rfl (by kernel_rfl) hc3 rfl ?_
    refine XL_skipF _ rfl rfl (by kernel_rfl) hc3 rfl ?_
    refine XL_skipF _ rfl rfl (by kernel_rfl) hc3 rfl ?_
    refine XL_cons rfl (X_of_Y0 rfl (Y0_pick1 (b := ltI 1048576 ((code1.length : Int))) (p := true) (q := ltI (w64 (1048576 - ((code1.length : Int)))) ((more2.length : Int))) rfl (by kernel_rfl) hc3 (by kernel_rfl))) ?_
    refine XR 1 ?_
    refine XL_nil ?_
    subst ht4
    kernel_rfl
   ·refine XL_takeC _ rfl rfl (by kernel_rfl) hc3 (X_of_Y0 rfl (E_move (.c (.sl (more2.map c5))) rfl (by kernel_rfl))) ?_
    refine XL_takeC _ rfl rfl (by kernel_rfl) hc3 (X_of_Y0 rfl (Y0_lenM (c := c5) (xs := more2) Try.underlying22 rfl (by kernel_rfl))) ?_
    refine XL_takeC _ rfl rfl (by kernel_rfl) hc3 (X_of_Y0 rfl (E_move (.c (.sl (code1.map c5))) rfl (by kernel_rfl))) ?_
    refine XL_takeC _ rfl rfl (by kernel_rfl) hc3 (X_of_Y0 rfl (Y0_lenM (c := c5) (xs := code1) Try.underlying22 rfl (by kernel_rfl))) ?_
    refine XL_takeC _ rfl rfl (by kernel_rfl) hc3 (X_of_Y0 rfl (Y0_sub64 (a := 1048576) (b := (code1.length : Int)) rfl (by kernel_rfl) (by kernel_rfl))) ?_
    refine XL_takeC _ rfl rfl (by kernel_rfl) hc3 (X_of_Y0 rfl (Y0_gtw (k := .i64) (a := (more2.length : Int)) (b := w64 (1048576 - ((code1.length : Int)))) rfl (by kernel_rfl) (by kernel_rfl))) ?_
    refine XL_cons rfl (X_of_Y0 rfl (Y0_pick0 (b := ltI 1048576 ((code1.length : Int))) (p := true) (q := ltI (w64 (1048576 - ((code1.length : Int)))) ((more2.length : Int))) rfl (by kernel_rfl) hc3 (by kernel_rfl))) ?_
    refine XR 1 ?_
    refine XL_nil ?_
    subst ht4
    kernel_rfl
  refine V_ret ?_
  obtain rfl := some_inj h
  show Post _ _ _ _ _
  exact ⟨.inr rfl, rfl, rfl, rfl⟩
theorem cf_spec_l1Cur_next : ∀ args w, (callFunc 87 args).run Try.prog w = .ok (.enter 87 args) w := run_callFunc Try.func87 (by kernel_rfl) (by kernel_rfl)
theorem s_spec_l1Cur_next {c1 : ((List Int) × Int × Int)} {r : (Int × (((List Int) × Int × Int)))} (h : r_spec_l1Cur_next c1 = some r) : CallR Try.prog 87 [.pt 80000 0] [(80000, .box [.sl (c1.1.map c5), Ti c1.2.1, .v (.int .u64 c1.2.2)])] (I r.1) [] [(80000, .box [.sl (r.2.1.map c5), Ti r.2.2.1, .v (.int .u64 r.2.2.2)])] := by
  refine CallR_of_text (rs := [.t 2]) (vs := [.tmp 2]) Try.func87 rfl rfl (.cons rfl FitsL.nil) (by decide) 62 rfl rfl fun σ => ?_
  unfold r_spec_l1Cur_next at h
  show V _ _ ⟨.pt 80000 0 :: bt 61 [], [(80000, .pbox (σ 80000) [.sl (c1.1.map c5), Ti c1.2.1, .v (.int .u64 c1.2.2)])]⟩ _
  refine V_e (mb 62 1) [80000] (s1 := ⟨.pt 80000 0 :: bt 61 [], [(80000, .pbox (σ 80000) [.sl (c1.1.map c5), Ti c1.2.1, .v (.int .u64 c1.2.2)])]⟩) ?_
  refine V_e (mb 62 9) [80000] (s1 := ⟨.pt 80000 0 :: .bot :: .bot :: I 0 :: bt 58 [], [(80000, .pbox (σ 80000) [.sl (c1.1.map c5), Ti c1.2.1, .v (.int .u64 c1.2.2)])]⟩) ?_
  obtain ⟨j2, hj2, h⟩ := of_bind h
  refine V_cutK (mb 62 9) [80000] (s1 := ⟨.pt 80000 0 :: .bot :: .bot :: I j2 :: bt 58 [], [(80000, .pbox (σ 80000) [.sl (c1.1.map c5), Ti c1.2.1, .v (.int .u64 c1.2.2)])]⟩) ?_ ?_
  ·clear h
   have h := hj2
   clear hj2
   refine V_sdreg [0, 1, 3, 7, 0, 16, 48, 112, 240, 511] 10 (cdm 10 [174592, 174593, 174597, 174613, 170, 426, 1450, 5546, 21930, 87381]) (mb 62 8201) [80000] (s1 := ⟨.pt 80000 0 :: .bot :: .bot :: I 0 :: bt 9 (Bo (ltI c1.2.1 ((c1.1.length : Int))) :: bt 48 []), [(80000, .pbox (σ 80000) [.sl (c1.1.map c5), Ti c1.2.1, .v (.int .u64 c1.2.2)])]⟩) (by kernel_rfl) (by kernel_rfl) ?_ ?_
   ·refine DR 1 ?_
    refine DE_0 1 (.pt 80000 0) (by kernel_rfl) rfl rfl rfl (gsat_none rfl) (by kernel_rfl) (E_nil (.pt 80000 0) rfl (by kernel_rfl) (by intro hh; cases hh)) 5 rfl ?_
    refine DR 3 ?_
    refine DE_0 5 (.pt 80000 0) (by kernel_rfl) rfl rfl rfl (gsat_none rfl) (by kernel_rfl) (E_nil (.pt 80000 0) rfl (by kernel_rfl) (by intro hh; cases hh)) 9 rfl ?_
    refine DR 2 ?_
    refine DE_0 8 (I ((c1.1.length : Int))) (by kernel_rfl) rfl rfl rfl (gsat_none rfl) (by kernel_rfl) (Y0_lenM (c := c5) (xs := c1.1) Try.underlying22 rfl (by kernel_rfl)) 12 rfl ?_
    refine DA 1 ?_
    exact XE
   refine V_cond rfl (fun hc3 => ?_) (fun hc3 => ?_)
   ·have h := of_true h hc3
    obtain ⟨e4, he4, h⟩ := of_bind h
    obtain ⟨b5, hb5, h⟩ := of_sI h
    refine V_dreg [0, 1, 3, 7, 0, 16, 48, 112, 255, 511, 1023, 2047] 12 (cdm 12 [43520, 43521, 43525, 43541, 170, 426, 1450, 5546, 21845, 87381, 349525, 1398101]) (mb 62 9) [80000] (s1 := ⟨.pt 80000 0 :: .bot :: .bot :: I b5 :: bt 58 [], [(80000, .pbox (σ 80000) [.sl (c1.1.map c5), Ti c1.2.1, .v (.int .u64 c1.2.2)])]⟩) (by kernel_rfl) (by kernel_rfl) ?_ ?_
    ·refine DR 1 ?_
     refine DE_0 1 (.pt 80000 0) (by kernel_rfl) rfl rfl rfl (gsat_none rfl) (by kernel_rfl) (E_nil (.pt 80000 0) rfl (by kernel_rfl) (by intro hh; cases hh)) 15 rfl ?_
     refine DR 3 ?_
     refine DE_0 5 (.pt 80000 0) (by kernel_rfl) rfl rfl rfl (gsat_none rfl) (by kernel_rfl) (E_nil (.pt 80000 0) rfl (by kernel_rfl) (by intro hh; cases hh)) 19 rfl ?_
     refine DR 2 ?_
     refine DE_0 8 (.pe [.v (.int .u8 e4)]) (by kernel_rfl) rfl rfl rfl (gsat_none rfl) (by kernel_rfl) (Y0_idxM (c := c5) (xs := c1.1) (v := e4) (n := c1.2.1) Try.underlying22 sz5 rfl (by kernel_rfl) (by kernel_rfl) he4) 22 rfl ?_
     refine DR 1 ?_
     refine DE_0 10 (I (IntKind.i64.wrap e4)) (by kernel_rfl) rfl rfl rfl (gsat_none rfl) (by kernel_rfl) (Y0_conv (k2 := .u8) (a := e4) Try.underlying5 Try.underlying3 rfl (by kernel_rfl)) 24 rfl ?_
     refine DA 1 ?_
     refine XL_nil ?_
     subst hb5
     kernel_rfl
    obtain rfl := some_inj h
    show St.keep _ _ _ = _
    rfl
   ·have h := of_false h hc3
    refine V_skip ?_
    obtain rfl := some_inj h
    show St.keep _ _ _ = _
    rfl
  obtain ⟨f6, hf6, h⟩ := of_sI h
  refine V_sreg (mb 62 9) [80000] (s1 := ⟨.pt 80000 0 :: .bot :: .bot :: I j2 :: bt 58 [], [(80000, .pbox (σ 80000) [.sl (c1.1.map c5), Ti f6, .v (.int .u64 c1.2.2)])]⟩) ?_ ?_
  ·refine XR 1 ?_
   refine L0 rfl rfl (E_nil (.pt 80000 0) rfl (by kernel_rfl) (by intro hh; cases hh)) ?_
   refine XR 3 ?_
   refine L0 rfl rfl (E_nil (.pt 80000 0) rfl (by kernel_rfl) (by intro hh; cases hh)) ?_
   refine XR 2 ?_
   refine XL_nil ?_
   subst hf6
   kernel_rfl
  obtain ⟨f7, hf7, h⟩ := of_sI h
  refine V_sreg (mb 62 9) [80000] (s1 := ⟨.pt 80000 0 :: .bot :: .bot :: I j2 :: bt 58 [], [(80000, .pbox (σ 80000) [.sl (c1.1.map c5), Ti f6, .v (.int .u64 f7)])]⟩) ?_ ?_
  ·refine XR 2 ?_
   refine L0 rfl rfl (E_nil (.pt 80000 0) rfl (by kernel_rfl) (by intro hh; cases hh)) ?_
   refine XR 2 ?_
   refine L0 rfl rfl (Y0_mul (k := .u64) (a := c1.2.2) (b := 6364136223846793005) rfl (by kernel_rfl) (by kernel_rfl)) ?_
   refine XR 1 ?_
   refine L0 rfl rfl (Y0_conv (k2 := .i64) (a := j2) Try.underlying3 Try.underlying67 rfl (by kernel_rfl)) ?_
   refine L0 rfl rfl (Y0_add (k := .u64) (a := IntKind.u64.wrap (c1.2.2 * 6364136223846793005)) (b := IntKind.u64.wrap j2) rfl (by kernel_rfl) (by kernel_rfl)) ?_
   refine L0 rfl rfl (Y0_add (k := .u64) (a := IntKind.u64.wrap ((IntKind.u64.wrap (c1.2.2 * 6364136223846793005)) + (IntKind.u64.wrap j2))) (b := 1442695040888963407) rfl (by kernel_rfl) (by kernel_rfl)) ?_
   refine L0 rfl rfl (E_nil (.pt 80000 0) rfl (by kernel_rfl) (by intro hh; cases hh)) ?_
   refine XR 2 ?_
   refine XL_nil ?_
   subst hf7
   kernel_rfl
  refine V_seq ?_
  refine V_sdreg [0, 1, 3, 7, 0, 16, 48, 112, 240, 511] 10 (cdm 10 [174592, 174593, 174597, 174613, 170, 426, 1450, 5546, 21930, 87381]) (mb 62 9007199254741001) [80000] (s1 := ⟨.pt 80000 0 :: .bot :: .bot :: I j2 :: bt 49 (Bo (leI f6 ((c1.1.length : Int))) :: bt 8 []), [(80000, .pbox (σ 80000) [.sl (c1.1.map c5), Ti f6, .v (.int .u64 f7)])]⟩) (by kernel_rfl) (by kernel_rfl) ?_ ?_
  ·refine DR 1 ?_
   refine DE_0 1 (.pt 80000 0) (by kernel_rfl) rfl rfl rfl (gsat_none rfl) (by kernel_rfl) (E_nil (.pt 80000 0) rfl (by kernel_rfl) (by intro hh; cases hh)) 45 rfl ?_
   refine DR 3 ?_
   refine DE_0 5 (.pt 80000 0) (by kernel_rfl) rfl rfl rfl (gsat_none rfl) (by kernel_rfl) (E_nil (.pt 80000 0) rfl (by kernel_rfl) (by intro hh; cases hh)) 49 rfl ?_
   refine DR 2 ?_
   refine DE_0 8 (I ((c1.1.length : Int))) (by kernel_rfl) rfl rfl rfl (gsat_none rfl) (by kernel_rfl) (Y0_lenM (c := c5) (xs := c1.1) Try.underlying22 rfl (by kernel_rfl)) 52 rfl ?_
   refine DA 1 ?_
   exact XE
  refine V_cond rfl (fun hc8 => ?_) (fun hc8 => ?_)
  ·have h := of_true h hc8
   refine V_e (mb 62 4) [80000] (s1 := ⟨.bot :: .bot :: I j2 :: bt 59 [], [(80000, .pbox (σ 80000) [.sl (c1.1.map c5), Ti f6, .v (.int .u64 f7)])]⟩) ?_
   refine V_ret ?_
   obtain rfl := some_inj h
   show PostR _ _ _ _ _ _
   exact ⟨⟨.inr rfl, rfl, rfl, rfl⟩, ⟨rfl, trivial⟩⟩
  ·have h := of_false h hc8
   refine V_skip ?_
   show V _ _ _ _
   obtain ⟨t9, ht9, h⟩ := of_sI h
   refine V_sreg (mb 62 4) [80000] (s1 := ⟨.bot :: .bot :: I t9 :: bt 59 [], [(80000, .pbox (σ 80000) [.sl (c1.1.map c5), Ti f6, .v (.int .u64 f7)])]⟩) ?_ ?_
   ·refine XR 1 ?_
    refine L0 rfl rfl (E_nil (.pt 80000 0) rfl (by kernel_rfl) (by intro hh; cases hh)) ?_
    refine XR 2 ?_
    refine L0 rfl rfl (Y0_shr (k := .u64) (k2 := .u64) (a := f7) (b := 40) rfl (by kernel_rfl) (by kernel_rfl) (by decide)) ?_
    refine L0 rfl rfl (Y0_and (k := .u64) (a := shrI .u64 f7 40) (b := 255) rfl (by kernel_rfl) (by kernel_rfl)) ?_
    refine L0 rfl rfl (Y0_conv (k2 := .u64) (a := andI .u64 (shrI .u64 f7 40) 255) Try.underlying67 Try.underlying3 rfl (by kernel_rfl)) ?_
    refine XR 1 ?_
    refine XL_nil ?_
    subst ht9
    kernel_rfl
   refine V_ret ?_
   obtain rfl := some_inj h
   show PostR _ _ _ _ _ _
   exact ⟨⟨.inr rfl, rfl, rfl, rfl⟩, ⟨rfl, trivial⟩⟩
theorem cf_spec_l1Cur_pick : ∀ args w, (callFunc 46 args).run Try.prog w = .ok (.enter 46 args) w := run_callFunc Try.func46 (by kernel_rfl) (by kernel_rfl)
theorem s_spec_l1Cur_pick {c1 : ((List Int) × Int × Int)} {vn2 : Int} {r : (Int × (((List Int) × Int × Int)))} (h : r_spec_l1Cur_pick c1 vn2 = some r) : CallR Try.prog 46 [.pt 80000 0, I vn2] [(80000, .box [.sl (c1.1.map c5), Ti c1.2.1, .v (.int .u64 c1.2.2)])] (I r.1) [] [(80000, .box [.sl (r.2.1.map c5), Ti r.2.2.1, .v (.int .u64 r.2.2.2)])] := by
  refine CallR_of_text (rs := [.t 4]) (vs := [.tmp 4]) Try.func46 rfl rfl (.cons rfl FitsL.nil) (by decide) 20 rfl rfl fun σ => ?_
  unfold r_spec_l1Cur_pick at h
  show V _ _ ⟨.pt 80000 0 :: I vn2 :: bt 18 [], [(80000, .pbox (σ 80000) [.sl (c1.1.map c5), Ti c1.2.1, .v (.int .u64 c1.2.2)])]⟩ _
  refine V_e (mb 20 3) [80000] (s1 := ⟨.pt 80000 0 :: I vn2 :: bt 18 [], [(80000, .pbox (σ 80000) [.sl (c1.1.map c5), Ti c1.2.1, .v (.int .u64 c1.2.2)])]⟩) ?_
  refine V_seq ?_
  refine V_e (mb 20 131) [80000] (s1 := ⟨.pt 80000 0 :: I vn2 :: bt 5 (Bo (leI vn2 1) :: bt 12 []), [(80000, .pbox (σ 80000) [.sl (c1.1.map c5), Ti c1.2.1, .v (.int .u64 c1.2.2)])]⟩) ?_
  refine V_cond rfl (fun hc3 => ?_) (fun hc3 => ?_)
  ·have h := of_true h hc3
   refine V_e (mb 20 16) [80000] (s1 := ⟨bt 4 (I 0 :: bt 15 []), [(80000, .pbox (σ 80000) [.sl (c1.1.map c5), Ti c1.2.1, .v (.int .u64 c1.2.2)])]⟩) ?_
   refine V_ret ?_
   obtain rfl := some_inj h
   show PostR _ _ _ _ _ _
   exact ⟨⟨.inr rfl, rfl, rfl, rfl⟩, ⟨rfl, trivial⟩⟩
  ·have h := of_false h hc3
   refine V_skip ?_
   show V _ _ _ _
   obtain ⟨y4, hy4, h⟩ := of_bind h
   refine V_sreg (mb 20 35) [80000] (s1 := ⟨.pt 80000 0 :: I vn2 :: bt 3 (I y4.1 :: bt 14 []), [(80000, .pbox (σ 80000) [.sl (y4.2.1.map c5), Ti y4.2.2.1, .v (.int .u64 y4.2.2.2)])]⟩) ?_ ?_
   ·refine XR 1 ?_
    refine XL_cons rfl (X_callR (E' := [(80000, .pbox (σ 80000) [.sl (y4.2.1.map c5), Ti y4.2.2.1, .v (.int .u64 y4.2.2.2)])]) [(80000, 80000)] 9 (s_spec_l1Cur_next hy4) cf_spec_l1Cur_next rfl rfl (by kernel_rfl) rfl (mE_cons (by kernel_rfl) mE_nil) rfl (by kernel_rfl) rfl rfl (by kernel_rfl)) ?_
    exact XE
   refine V_seq ?_
   refine V_e (mb 20 2083) [80000] (s1 := ⟨.pt 80000 0 :: I vn2 :: bt 3 (I y4.1 :: bt 5 (Bo (ltI 200 vn2) :: bt 8 [])), [(80000, .pbox (σ 80000) [.sl (y4.2.1.map c5), Ti y4.2.2.1, .v (.int .u64 y4.2.2.2)])]⟩) ?_
   refine V_cond rfl (fun hc5 => ?_) (fun hc5 => ?_)
   ·have h := of_true h hc5
    obtain ⟨y6, hy6, h⟩ := of_bind h
    obtain ⟨x7, hx7, h⟩ := of_sI h
    refine V_reg (mb 20 34) [80000] (s1 := ⟨.bot :: I vn2 :: bt 3 (I x7 :: bt 14 []), [(80000, .pbox (σ 80000) [.sl (y6.2.1.map c5), Ti y6.2.2.1, .v (.int .u64 y6.2.2.2)])]⟩) ?_ ?_
    ·refine XR 3 ?_
     refine XL_cons rfl (X_callR (E' := [(80000, .pbox (σ 80000) [.sl (y6.2.1.map c5), Ti y6.2.2.1, .v (.int .u64 y6.2.2.2)])]) [(80000, 80000)] 15 (s_spec_l1Cur_next hy6) cf_spec_l1Cur_next rfl rfl (by kernel_rfl) rfl (mE_cons (by kernel_rfl) mE_nil) rfl (by kernel_rfl) rfl rfl (by kernel_rfl)) ?_
     refine XR 2 ?_
     refine XL_nil ?_
     subst hx7
     kernel_rfl
    show V _ _ _ _
    obtain ⟨z8, hz8, h⟩ := of_bind h
    obtain ⟨t9, ht9, h⟩ := of_sI h
    refine V_sreg (mb 20 16) [80000] (s1 := ⟨bt 4 (I t9 :: bt 15 []), [(80000, .pbox (σ 80000) [.sl (y6.2.1.map c5), Ti y6.2.2.1, .v (.int .u64 y6.2.2.2)])]⟩) ?_ ?_
    ·refine XR 2 ?_
     refine L0 rfl rfl (Y0_rem (k := .i64) (a := x7) (b := vn2) rfl (by kernel_rfl) (by kernel_rfl) (nz_some hz8)) ?_
     refine XR 1 ?_
     refine XL_nil ?_
     subst ht9
     kernel_rfl
    refine V_ret ?_
    obtain rfl := some_inj h
    show PostR _ _ _ _ _ _
    exact ⟨⟨.inr rfl, rfl, rfl, rfl⟩, ⟨rfl, trivial⟩⟩
   ·have h := of_false h hc5
    refine V_skip ?_
    show V _ _ _ _
    obtain ⟨z10, hz10, h⟩ := of_bind h
    obtain ⟨t11, ht11, h⟩ := of_sI h
    refine V_sreg (mb 20 16) [80000] (s1 := ⟨bt 4 (I t11 :: bt 15 []), [(80000, .pbox (σ 80000) [.sl (y4.2.1.map c5), Ti y4.2.2.1, .v (.int .u64 y4.2.2.2)])]⟩) ?_ ?_
    ·refine XR 2 ?_
     refine L0 rfl rfl (Y0_rem (k := .i64) (a := y4.1) (b := vn2) rfl (by kernel_rfl) (by kernel_rfl) (nz_some hz10)) ?_
     refine XR 1 ?_
     refine XL_nil ?_
     subst ht11
     kernel_rfl
    refine V_ret ?_
    obtain rfl := some_inj h
    show PostR _ _ _ _ _ _
    exact ⟨⟨.inr rfl, rfl, rfl, rfl⟩, ⟨rfl, trivial⟩⟩
theorem cf_spec_l1Cur_among : ∀ args w, (callFunc 45 args).run Try.prog w = .ok (.enter 45 args) w := run_callFunc Try.func45 (by kernel_rfl) (by kernel_rfl)
theorem s_spec_l1Cur_among {c1 : ((List Int) × Int × Int)} {list2 : List Int} {r : (Int × (((List Int) × Int × Int)))} (h : r_spec_l1Cur_among c1 list2 = some r) : CallR Try.prog 45 [.pt 80000 0, .c (.sl (list2.map c3))] [(80000, .box [.sl (c1.1.map c5), Ti c1.2.1, .v (.int .u64 c1.2.2)])] (I r.1) [] [(80000, .box [.sl (r.2.1.map c5), Ti r.2.2.1, .v (.int .u64 r.2.2.2)])] := by
  refine CallR_of_text (rs := [.t 4]) (vs := [.tmp 4]) Try.func45 rfl rfl (.cons rfl FitsL.nil) (by decide) 12 rfl rfl fun σ => ?_
  unfold r_spec_l1Cur_among at h
  show V _ _ ⟨.pt 80000 0 :: .c (.sl (list2.map c3)) :: bt 10 [], [(80000, .pbox (σ 80000) [.sl (c1.1.map c5), Ti c1.2.1, .v (.int .u64 c1.2.2)])]⟩ _
  refine V_e (mb 12 3) [80000] (s1 := ⟨.pt 80000 0 :: .c (.sl (list2.map c3)) :: bt 10 [], [(80000, .pbox (σ 80000) [.sl (c1.1.map c5), Ti c1.2.1, .v (.int .u64 c1.2.2)])]⟩) ?_
  obtain ⟨y3, hy3, h⟩ := of_bind h
  obtain ⟨e4, he4, h⟩ := of_bind h
  refine V_sreg (mb 12 16) [80000] (s1 := ⟨bt 4 (I e4 :: bt 7 []), [(80000, .pbox (σ 80000) [.sl (y3.2.1.map c5), Ti y3.2.2.1, .v (.int .u64 y3.2.2.2)])]⟩) ?_ ?_
  ·refine XR 3 ?_
   refine L0 rfl rfl (Y0_lenM (c := c3) (xs := list2) Try.underlying47 rfl (by kernel_rfl)) ?_
   refine XL_cons rfl (X_callR (E' := [(80000, .pbox (σ 80000) [.sl (y3.2.1.map c5), Ti y3.2.2.1, .v (.int .u64 y3.2.2.2)])]) [(80000, 80000)] 9 (s_spec_l1Cur_pick hy3) cf_spec_l1Cur_pick rfl rfl (by kernel_rfl) rfl (mE_cons (by kernel_rfl) mE_nil) rfl (by kernel_rfl) rfl rfl (by kernel_rfl)) ?_
   refine L0 rfl rfl (Y0_idxM (c := c3) (xs := list2) (v := e4) (n := y3.1) Try.underlying47 sz3 rfl (by kernel_rfl) (by kernel_rfl) he4) ?_
   exact XE
  refine V_ret ?_
  obtain rfl := some_inj h
  show PostR _ _ _ _ _ _
  exact ⟨⟨.inr rfl, rfl, rfl, rfl⟩, ⟨rfl, trivial⟩⟩
theorem cf_spec_nuMod : ∀ args w, (callFunc 85 args).run Try.prog w = .ok (.enter 85 args) w := run_callFunc Try.func85 (by kernel_rfl) (by kernel_rfl)
theorem s_spec_nuMod {a1 : Int} {vm2 : Int} {r : Int} (h : r_spec_nuMod a1 vm2 = some r) : CallS Try.prog 85 [I a1, I vm2] (I r) [] := by
  refine CallS_of_text (rs := [.t 4]) (vs := [.tmp 4]) Try.func85 rfl rfl (.cons rfl FitsL.nil) (by decide) 15 rfl ?_
  unfold r_spec_nuMod at h
  show V _ _ ⟨I a1 :: I vm2 :: bt 13 [], []⟩ _
  refine V_e (mb 15 3) [] (s1 := ⟨I a1 :: I vm2 :: bt 13 [], []⟩) ?_
  obtain ⟨z3, hz3, h⟩ := of_bind h
  obtain ⟨vr4, hvr4, h⟩ := of_sI h
  refine V_sreg (mb 15 34) [] (s1 := ⟨.bot :: I vm2 :: bt 3 (I vr4 :: bt 9 []), []⟩) ?_ ?_
  ·refine XR 2 ?_
   refine L0 rfl rfl (Y0_rem (k := .i64) (a := a1) (b := vm2) rfl (by kernel_rfl) (by kernel_rfl) (nz_some hz3)) ?_
   refine XR 1 ?_
   refine XL_nil ?_
   subst hvr4
   kernel_rfl
  refine V_seq ?_
  refine V_e (mb 15 1058) [] (s1 := ⟨.bot :: I vm2 :: bt 3 (I vr4 :: bt 4 (Bo (ltI vr4 0) :: bt 4 [])), []⟩) ?_
  refine V_cond rfl (fun hc5 => ?_) (fun hc5 => ?_)
  ·have h := of_true h hc5
   obtain ⟨vr6, hvr6, h⟩ := of_sI h
   refine V_reg (mb 15 32) [] (s1 := ⟨bt 5 (I vr6 :: bt 9 []), []⟩) ?_ ?_
   ·refine XR 4 ?_
    refine XL_nil ?_
    subst hvr6
    kernel_rfl
   show V _ _ _ _
   refine V_e (mb 15 16) [] (s1 := ⟨bt 4 (I vr6 :: bt 10 []), []⟩) ?_
   refine V_ret ?_
   obtain rfl := some_inj h
   show Post _ _ _ _ _
   exact ⟨.inr rfl, rfl, rfl, rfl⟩
  ·have h := of_false h hc5
   refine V_skip ?_
   show V _ _ _ _
   refine V_e (mb 15 16) [] (s1 := ⟨bt 4 (I vr4 :: bt 10 []), []⟩) ?_
   refine V_ret ?_
   obtain rfl := some_inj h
   show Post _ _ _ _ _
   exact ⟨.inr rfl, rfl, rfl, rfl⟩
theorem cf_spec_l1Most : ∀ args w, (callFunc 86 args).run Try.prog w = .ok (.enter 86 args) w := run_callFunc Try.func86 (by kernel_rfl) (by kernel_rfl)
theorem s_spec_l1Most {a1 : Int} {b2 : Int} {r : Int} (h : r_spec_l1Most a1 b2 = some r) : CallS Try.prog 86 [I a1, I b2] (I r) [] := by
  refine CallS_of_text (rs := [.t 4]) (vs := [.tmp 4]) Try.func86 rfl rfl (.cons rfl FitsL.nil) (by decide) 10 rfl ?_
  unfold r_spec_l1Most at h
  show V _ _ ⟨I a1 :: I b2 :: bt 8 [], []⟩ _
  refine V_e (mb 10 3) [] (s1 := ⟨I a1 :: I b2 :: bt 8 [], []⟩) ?_
  refine V_seq ?_
  refine V_e (mb 10 131) [] (s1 := ⟨I a1 :: I b2 :: bt 5 (Bo (ltI b2 a1) :: .bot :: .bot :: []), []⟩) ?_
  refine V_cond rfl (fun hc3 => ?_) (fun hc3 => ?_)
  ·have h := of_true h hc3
   refine V_e (mb 10 16) [] (s1 := ⟨bt 4 (I a1 :: bt 5 []), []⟩) ?_
   refine V_ret ?_
   obtain rfl := some_inj h
   show Post _ _ _ _ _
   exact ⟨.inr rfl, rfl, rfl, rfl⟩
  ·have h := of_false h hc3
   refine V_skip ?_
   show V _ _ _ _
   refine V_e (mb 10 16) [] (s1 := ⟨bt 4 (I b2 :: bt 5 []), []⟩) ?_
   refine V_ret ?_
   obtain rfl := some_inj h
   show Post _ _ _ _ _
   exact ⟨.inr rfl, rfl, rfl, rfl⟩
theorem cf_spec_l1Cur_disc : ∀ args w, (callFunc 43 args).run Try.prog w = .ok (.enter 43 args) w := run_callFunc Try.func43 (by kernel_rfl) (by kernel_rfl)
theorem s_spec_l1Cur_disc {c1 : ((List Int) × Int × Int)} {r : (Int × (((List Int) × Int × Int)))} (h : r_spec_l1Cur_disc c1 = some r) : CallR Try.prog 43 [.pt 80000 0] [(80000, .box [.sl (c1.1.map c5), Ti c1.2.1, .v (.int .u64 c1.2.2)])] (I r.1) [] [(80000, .box [.sl (r.2.1.map c5), Ti r.2.2.1, .v (.int .u64 r.2.2.2)])] := by
  refine CallR_of_text (rs := [.t 2]) (vs := [.tmp 2]) Try.func43 rfl rfl (.cons rfl FitsL.nil) (by decide) 42 rfl rfl fun σ => ?_
  unfold r_spec_l1Cur_disc at h
  show V _ _ ⟨.pt 80000 0 :: bt 41 [], [(80000, .pbox (σ 80000) [.sl (c1.1.map c5), Ti c1.2.1, .v (.int .u64 c1.2.2)])]⟩ _
  refine V_e (mb 42 1) [80000] (s1 := ⟨.pt 80000 0 :: bt 41 [], [(80000, .pbox (σ 80000) [.sl (c1.1.map c5), Ti c1.2.1, .v (.int .u64 c1.2.2)])]⟩) ?_
  refine V_seq ?_
  obtain ⟨y2, hy2, h⟩ := of_bind h
  refine V_sreg (mb 42 33) [80000] (s1 := ⟨.pt 80000 0 :: bt 4 (I y2.1 :: bt 36 []), [(80000, .pbox (σ 80000) [.sl (y2.2.1.map c5), Ti y2.2.2.1, .v (.int .u64 y2.2.2.2)])]⟩) ?_ ?_
  ·refine XR 1 ?_
   refine XL_cons rfl (X_callR (E' := [(80000, .pbox (σ 80000) [.sl (y2.2.1.map c5), Ti y2.2.2.1, .v (.int .u64 y2.2.2.2)])]) [(80000, 80000)] 5 (s_spec_l1Cur_pick hy2) cf_spec_l1Cur_pick rfl rfl (by kernel_rfl) rfl (mE_cons (by kernel_rfl) mE_nil) rfl (by kernel_rfl) rfl rfl (by kernel_rfl)) ?_
   exact XE
  refine V_block ?_
  refine V_e (mb 42 97) [80000] (s1 := ⟨.pt 80000 0 :: bt 4 (I y2.1 :: Bo (eqI y2.1 0) :: bt 35 []), [(80000, .pbox (σ 80000) [.sl (y2.2.1.map c5), Ti y2.2.2.1, .v (.int .u64 y2.2.2.2)])]⟩) ?_
  refine V_cond rfl (fun hc3 => ?_) (fun hc3 => ?_)
  ·have h := of_true h hc3
   obtain ⟨y4, hy4, h⟩ := of_bind h
   refine V_sreg (mb 42 4) [80000] (s1 := ⟨.bot :: .bot :: I y4.1 :: bt 39 [], [(80000, .pbox (σ 80000) [.sl (y4.2.1.map c5), Ti y4.2.2.1, .v (.int .u64 y4.2.2.2)])]⟩) ?_ ?_
   ·refine XR 1 ?_
    refine L1 rfl rfl (Y1_bslice (z := zv3) (els := [-3, -4, -2000, -1999, -1996, -1995, -163, -2001, -2003, -2004, 0, 1, 5, -1, -2, -5, -9223372036854775808].map c3) Try.underlying47 iz3 rfl (by decide) rfl (by kernel_rfl) rfl (by simp [c3]) (by decide) (by decide)) ?_
    refine XL_freeze 72 (T := 3) (sz := 1) (els := ([-3, -4, -2000, -1999, -1996, -1995, -163, -2001, -2003, -2004, 0, 1, 5, -1, -2, -5, -9223372036854775808]).map c3) (s1 := ⟨.pt 80000 0 :: bt 4 (I y2.1 :: Bo (eqI y2.1 0) :: .bot :: .pt 80000 0 :: .c (.sl (([-3, -4, -2000, -1999, -1996, -1995, -163, -2001, -2003, -2004, 0, 1, 5, -1, -2, -5, -9223372036854775808]).map c3)) :: bt 32 []), [(80000, .pbox (σ 80000) [.sl (y2.2.1.map c5), Ti y2.2.2.1, .v (.int .u64 y2.2.2.2)])]⟩) (by kernel_rfl) (by kernel_rfl) ?_
    refine XL_cons rfl (X_callR (E' := [(80000, .pbox (σ 80000) [.sl (y4.2.1.map c5), Ti y4.2.2.1, .v (.int .u64 y4.2.2.2)])]) [(80000, 80000)] 10 (s_spec_l1Cur_among hy4) cf_spec_l1Cur_among rfl rfl (by kernel_rfl) rfl (mE_cons (by kernel_rfl) mE_nil) rfl (by kernel_rfl) rfl rfl (by kernel_rfl)) ?_
    exact XE
   refine V_ret ?_
   obtain rfl := some_inj h
   show PostR _ _ _ _ _ _
   exact ⟨⟨.inr rfl, rfl, rfl, rfl⟩, ⟨rfl, trivial⟩⟩
  ·have h := of_false h hc3
   obtain ⟨j5, hj5, h⟩ := of_bind h
   refine V_cutK (mb 42 2081) [80000] (s1 := ⟨.pt 80000 0 :: bt 4 (I y2.1 :: bt 5 (Bo j5 :: bt 30 [])), [(80000, .pbox (σ 80000) [.sl (y2.2.1.map c5), Ti y2.2.2.1, .v (.int .u64 y2.2.2.2)])]⟩) ?_ ?_
   ·clear h
    have h := hj5
    clear hj5
    refine V_e (mb 42 2081) [80000] (s1 := ⟨.pt 80000 0 :: bt 4 (I y2.1 :: bt 5 (Bo (eqI y2.1 1) :: bt 30 [])), [(80000, .pbox (σ 80000) [.sl (y2.2.1.map c5), Ti y2.2.2.1, .v (.int .u64 y2.2.2.2)])]⟩) ?_
    refine V_cond rfl (fun hc6 => ?_) (fun hc6 => ?_)
    ·have h := of_true h hc6
     refine V_skip ?_
     obtain rfl := some_inj h
     show St.keep _ _ _ = _
     rfl
    ·have h := of_false h hc6
     refine V_reg (mb 42 2081) [80000] (s1 := ⟨.pt 80000 0 :: bt 4 (I y2.1 :: bt 5 (Bo (eqI y2.1 2) :: bt 30 [])), [(80000, .pbox (σ 80000) [.sl (y2.2.1.map c5), Ti y2.2.2.1, .v (.int .u64 y2.2.2.2)])]⟩) ?_ ?_
     ·exact XE
     obtain rfl := some_inj h
     show St.keep _ _ _ = _
     rfl
   refine V_cond rfl (fun hc7 => ?_) (fun hc7 => ?_)
   ·have h := of_true h hc7
    obtain ⟨y8, hy8, h⟩ := of_bind h
    obtain ⟨d9, hd9, h⟩ := of_sI h
    refine V_sreg (mb 42 8) [80000] (s1 := ⟨bt 3 (I d9 :: bt 38 []), [(80000, .pbox (σ 80000) [.sl (y8.2.1.map c5), Ti y8.2.2.1, .v (.int .u64 y8.2.2.2)])]⟩) ?_ ?_
    ·refine XR 1 ?_
     refine XL_cons rfl (X_callR (E' := [(80000, .pbox (σ 80000) [.sl (y8.2.1.map c5), Ti y8.2.2.1, .v (.int .u64 y8.2.2.2)])]) [(80000, 80000)] 15 (s_spec_l1Cur_pick hy8) cf_spec_l1Cur_pick rfl rfl (by kernel_rfl) rfl (mE_cons (by kernel_rfl) mE_nil) rfl (by kernel_rfl) rfl rfl (by kernel_rfl)) ?_
     refine XR 2 ?_
     refine XL_nil ?_
     subst hd9
     kernel_rfl
    refine V_seq ?_
    obtain ⟨y10, hy10, h⟩ := of_bind h
    refine V_sreg (mb 42 524296) [80000] (s1 := ⟨bt 3 (I d9 :: bt 15 (Bo (ltI 1 y10) :: bt 22 [])), [(80000, .pbox (σ 80000) [.sl (y8.2.1.map c5), Ti y8.2.2.1, .v (.int .u64 y8.2.2.2)])]⟩) ?_ ?_
    ·refine XR 1 ?_
     refine XC (s_spec_nuMod hy10) cf_spec_nuMod rfl rfl rfl ?_
     exact XE
    refine V_cond rfl (fun hc11 => ?_) (fun hc11 => ?_)
    ·have h := of_true h hc11
     obtain ⟨y12, hy12, h⟩ := of_bind h
     refine V_reg (mb 42 8) [80000] (s1 := ⟨bt 3 (I y12 :: bt 38 []), [(80000, .pbox (σ 80000) [.sl (y8.2.1.map c5), Ti y8.2.2.1, .v (.int .u64 y8.2.2.2)])]⟩) ?_ ?_
     ·refine XR 2 ?_
      refine XC (s_spec_l1Most hy12) cf_spec_l1Most rfl rfl rfl ?_
      exact XE
     show V _ _ _ _
     refine V_e (mb 42 4) [80000] (s1 := ⟨.bot :: .bot :: I y12 :: bt 39 [], [(80000, .pbox (σ 80000) [.sl (y8.2.1.map c5), Ti y8.2.2.1, .v (.int .u64 y8.2.2.2)])]⟩) ?_
     refine V_ret ?_
     obtain rfl := some_inj h
     show PostR _ _ _ _ _ _
     exact ⟨⟨.inr rfl, rfl, rfl, rfl⟩, ⟨rfl, trivial⟩⟩
    ·have h := of_false h hc11
     refine V_skip ?_
     show V _ _ _ _
     refine V_e (mb 42 4) [80000] (s1 := ⟨.bot :: .bot :: I d9 :: bt 39 [], [(80000, .pbox (σ 80000) [.sl (y8.2.1.map c5), Ti y8.2.2.1, .v (.int .u64 y8.2.2.2)])]⟩) ?_
     refine V_ret ?_
     obtain rfl := some_inj h
     show PostR _ _ _ _ _ _
     exact ⟨⟨.inr rfl, rfl, rfl, rfl⟩, ⟨rfl, trivial⟩⟩
   ·have h := of_false h hc7
    obtain ⟨j13, hj13, h⟩ := of_bind h
    refine V_cutK (mb 42 16777249) [80000] (s1 := ⟨.pt 80000 0 :: bt 4 (I y2.1 :: bt 18 (Bo j13 :: bt 17 [])), [(80000, .pbox (σ 80000) [.sl (y2.2.1.map c5), Ti y2.2.2.1, .v (.int .u64 y2.2.2.2)])]⟩) ?_ ?_
    ·clear h
     have h := hj13
     clear hj13
     refine V_e (mb 42 16777249) [80000] (s1 := ⟨.pt 80000 0 :: bt 4 (I y2.1 :: bt 18 (Bo (eqI y2.1 3) :: bt 17 [])), [(80000, .pbox (σ 80000) [.sl (y2.2.1.map c5), Ti y2.2.2.1, .v (.int .u64 y2.2.2.2)])]⟩) ?_
     refine V_cond rfl (fun hc14 => ?_) (fun hc14 => ?_)
     ·have h := of_true h hc14
      refine V_skip ?_
      obtain rfl := some_inj h
      show St.keep _ _ _ = _
      rfl
     ·have h := of_false h hc14
      refine V_e (mb 42 16777249) [80000] (s1 := ⟨.pt 80000 0 :: bt 4 (I y2.1 :: bt 18 (Bo (eqI y2.1 4) :: bt 17 [])), [(80000, .pbox (σ 80000) [.sl (y2.2.1.map c5), Ti y2.2.2.1, .v (.int .u64 y2.2.2.2)])]⟩) ?_
      refine V_cond rfl (fun hc15 => ?_) (fun hc15 => ?_)
      ·have h := of_true h hc15
       refine V_skip ?_
       obtain rfl := some_inj h
       show St.keep _ _ _ = _
       rfl
      ·have h := of_false h hc15
       refine V_reg (mb 42 16777249) [80000] (s1 := ⟨.pt 80000 0 :: bt 4 (I y2.1 :: bt 18 (Bo (eqI y2.1 5) :: bt 17 [])), [(80000, .pbox (σ 80000) [.sl (y2.2.1.map c5), Ti y2.2.2.1, .v (.int .u64 y2.2.2.2)])]⟩) ?_ ?_
       ·exact XE
       obtain rfl := some_inj h
       show St.keep _ _ _ = _
       rfl
    refine V_cond rfl (fun hc16 => ?_) (fun hc16 => ?_)
    ·have h := of_true h hc16
     obtain ⟨y17, hy17, h⟩ := of_bind h
     refine V_sreg (mb 42 4) [80000] (s1 := ⟨.bot :: .bot :: I y17.1 :: bt 39 [], [(80000, .pbox (σ 80000) [.sl (y17.2.1.map c5), Ti y17.2.2.1, .v (.int .u64 y17.2.2.2)])]⟩) ?_ ?_
     ·refine XR 1 ?_
      refine L1 rfl rfl (Y1_bslice (z := zv3) (els := [-84, -420, -231, -260, -455, -520, -660, -1155, -1320, -1380, -1428, -1540, -399, -1092, -1560, -1785].map c3) Try.underlying47 iz3 rfl (by decide) rfl (by kernel_rfl) rfl (by simp [c3]) (by decide) (by decide)) ?_
      refine XL_freeze 232 (T := 3) (sz := 1) (els := ([-84, -420, -231, -260, -455, -520, -660, -1155, -1320, -1380, -1428, -1540, -399, -1092, -1560, -1785]).map c3) (s1 := ⟨.pt 80000 0 :: bt 4 (I y2.1 :: bt 18 (Bo j13 :: bt 3 (.pt 80000 0 :: .c (.sl (([-84, -420, -231, -260, -455, -520, -660, -1155, -1320, -1380, -1428, -1540, -399, -1092, -1560, -1785]).map c3)) :: bt 12 []))), [(80000, .pbox (σ 80000) [.sl (y2.2.1.map c5), Ti y2.2.2.1, .v (.int .u64 y2.2.2.2)])]⟩) (by kernel_rfl) (by kernel_rfl) ?_
      refine XL_cons rfl (X_callR (E' := [(80000, .pbox (σ 80000) [.sl (y17.2.1.map c5), Ti y17.2.2.1, .v (.int .u64 y17.2.2.2)])]) [(80000, 80000)] 30 (s_spec_l1Cur_among hy17) cf_spec_l1Cur_among rfl rfl (by kernel_rfl) rfl (mE_cons (by kernel_rfl) mE_nil) rfl (by kernel_rfl) rfl rfl (by kernel_rfl)) ?_
      exact XE
     refine V_ret ?_
     obtain rfl := some_inj h
     show PostR _ _ _ _ _ _
     exact ⟨⟨.inr rfl, rfl, rfl, rfl⟩, ⟨rfl, trivial⟩⟩
    ·have h := of_false h hc16
     obtain ⟨j18, hj18, h⟩ := of_bind h
     refine V_cutK (mb 42 2147483649) [80000] (s1 := ⟨.pt 80000 0 :: bt 30 (Bo j18 :: bt 10 []), [(80000, .pbox (σ 80000) [.sl (y2.2.1.map c5), Ti y2.2.2.1, .v (.int .u64 y2.2.2.2)])]⟩) ?_ ?_
     ·clear h
      have h := hj18
      clear hj18
      refine V_e (mb 42 2147483681) [80000] (s1 := ⟨.pt 80000 0 :: bt 4 (I y2.1 :: bt 25 (Bo (eqI y2.1 6) :: bt 10 [])), [(80000, .pbox (σ 80000) [.sl (y2.2.1.map c5), Ti y2.2.2.1, .v (.int .u64 y2.2.2.2)])]⟩) ?_
      refine V_cond rfl (fun hc19 => ?_) (fun hc19 => ?_)
      ·have h := of_true h hc19
       refine V_skip ?_
       obtain rfl := some_inj h
       show St.keep _ _ _ = _
       rfl
      ·have h := of_false h hc19
       refine V_reg (mb 42 2147483649) [80000] (s1 := ⟨.pt 80000 0 :: bt 30 (Bo (eqI y2.1 7) :: bt 10 []), [(80000, .pbox (σ 80000) [.sl (y2.2.1.map c5), Ti y2.2.2.1, .v (.int .u64 y2.2.2.2)])]⟩) ?_ ?_
       ·exact XE
       obtain rfl := some_inj h
       show St.keep _ _ _ = _
       rfl
     refine V_cond rfl (fun hc20 => ?_) (fun hc20 => ?_)
     ·have h := of_true h hc20
      obtain ⟨y21, hy21, h⟩ := of_bind h
      obtain ⟨t22, ht22, h⟩ := of_sI h
      refine V_sreg (mb 42 4) [80000] (s1 := ⟨.bot :: .bot :: I t22 :: bt 39 [], [(80000, .pbox (σ 80000) [.sl (y21.2.1.map c5), Ti y21.2.2.1, .v (.int .u64 y21.2.2.2)])]⟩) ?_ ?_
      ·refine XR 1 ?_
       refine XL_cons rfl (X_callR (E' := [(80000, .pbox (σ 80000) [.sl (y21.2.1.map c5), Ti y21.2.2.1, .v (.int .u64 y21.2.2.2)])]) [(80000, 80000)] 35 (s_spec_l1Cur_pick hy21) cf_spec_l1Cur_pick rfl rfl (by kernel_rfl) rfl (mE_cons (by kernel_rfl) mE_nil) rfl (by kernel_rfl) rfl rfl (by kernel_rfl)) ?_
       refine XR 3 ?_
       refine XL_nil ?_
       subst ht22
       kernel_rfl
      refine V_ret ?_
      obtain rfl := some_inj h
      show PostR _ _ _ _ _ _
      exact ⟨⟨.inr rfl, rfl, rfl, rfl⟩, ⟨rfl, trivial⟩⟩
     ·have h := of_false h hc20
      refine V_skip ?_
      show V _ _ _ _
      obtain ⟨y23, hy23, h⟩ := of_bind h
      obtain ⟨t24, ht24, h⟩ := of_sI h
      refine V_sreg (mb 42 4) [80000] (s1 := ⟨.bot :: .bot :: I t24 :: bt 39 [], [(80000, .pbox (σ 80000) [.sl (y23.2.1.map c5), Ti y23.2.2.1, .v (.int .u64 y23.2.2.2)])]⟩) ?_ ?_
      ·refine XR 1 ?_
       refine XL_cons rfl (X_callR (E' := [(80000, .pbox (σ 80000) [.sl (y23.2.1.map c5), Ti y23.2.2.1, .v (.int .u64 y23.2.2.2)])]) [(80000, 80000)] 39 (s_spec_l1Cur_pick hy23) cf_spec_l1Cur_pick rfl rfl (by kernel_rfl) rfl (mE_cons (by kernel_rfl) mE_nil) rfl (by kernel_rfl) rfl rfl (by kernel_rfl)) ?_
       refine XR 3 ?_
       refine XL_nil ?_
       subst ht24
       kernel_rfl
      refine V_ret ?_
      obtain rfl := some_inj h
      show PostR _ _ _ _ _ _
      exact ⟨⟨.inr rfl, rfl, rfl, rfl⟩, ⟨rfl, trivial⟩⟩
theorem cf_spec_l1Cur_index : ∀ args w, (callFunc 44 args).run Try.prog w = .ok (.enter 44 args) w := run_callFunc Try.func44 (by kernel_rfl) (by kernel_rfl)
theorem s_spec_l1Cur_index {c1 : ((List Int) × Int × Int)} {r : (Int × (((List Int) × Int × Int)))} (h : r_spec_l1Cur_index c1 = some r) : CallR Try.prog 44 [.pt 80000 0] [(80000, .box [.sl (c1.1.map c5), Ti c1.2.1, .v (.int .u64 c1.2.2)])] (I r.1) [] [(80000, .box [.sl (r.2.1.map c5), Ti r.2.2.1, .v (.int .u64 r.2.2.2)])] := by
  refine CallR_of_text (rs := [.t 2]) (vs := [.tmp 2]) Try.func44 rfl rfl (.cons rfl FitsL.nil) (by decide) 6 rfl rfl fun σ => ?_
  unfold r_spec_l1Cur_index at h
  show V _ _ ⟨.pt 80000 0 :: bt 5 [], [(80000, .pbox (σ 80000) [.sl (c1.1.map c5), Ti c1.2.1, .v (.int .u64 c1.2.2)])]⟩ _
  refine V_e (mb 6 1) [80000] (s1 := ⟨.pt 80000 0 :: bt 5 [], [(80000, .pbox (σ 80000) [.sl (c1.1.map c5), Ti c1.2.1, .v (.int .u64 c1.2.2)])]⟩) ?_
  obtain ⟨y2, hy2, h⟩ := of_bind h
  refine V_sreg (mb 6 4) [80000] (s1 := ⟨.bot :: .bot :: I y2.1 :: bt 3 [], [(80000, .pbox (σ 80000) [.sl (y2.2.1.map c5), Ti y2.2.2.1, .v (.int .u64 y2.2.2.2)])]⟩) ?_ ?_
  ·refine XR 1 ?_
   refine L1 rfl rfl (Y1_bslice (z := zv3) (els := [2, 2, 3, 3, 5, 5, 7, 11, 13, 17, 23, 41, 43, 47, 4, 1, 0, -2].map c3) Try.underlying47 iz3 rfl (by decide) rfl (by kernel_rfl) rfl (by simp [c3]) (by decide) (by decide)) ?_
   refine XL_freeze 32 (T := 3) (sz := 1) (els := ([2, 2, 3, 3, 5, 5, 7, 11, 13, 17, 23, 41, 43, 47, 4, 1, 0, -2]).map c3) (s1 := ⟨.pt 80000 0 :: .bot :: .bot :: .pt 80000 0 :: .c (.sl (([2, 2, 3, 3, 5, 5, 7, 11, 13, 17, 23, 41, 43, 47, 4, 1, 0, -2]).map c3)) :: .bot :: [], [(80000, .pbox (σ 80000) [.sl (c1.1.map c5), Ti c1.2.1, .v (.int .u64 c1.2.2)])]⟩) (by kernel_rfl) (by kernel_rfl) ?_
   refine XL_cons rfl (X_callR (E' := [(80000, .pbox (σ 80000) [.sl (y2.2.1.map c5), Ti y2.2.2.1, .v (.int .u64 y2.2.2.2)])]) [(80000, 80000)] 5 (s_spec_l1Cur_among hy2) cf_spec_l1Cur_among rfl rfl (by kernel_rfl) rfl (mE_cons (by kernel_rfl) mE_nil) rfl (by kernel_rfl) rfl rfl (by kernel_rfl)) ?_
   exact XE
  refine V_ret ?_
  obtain rfl := some_inj h
  show PostR _ _ _ _ _ _
  exact ⟨⟨.inr rfl, rfl, rfl, rfl⟩, ⟨rfl, trivial⟩⟩
theorem cf_spec_DrawWalkMatrix : ∀ args w, (callFunc 15 args).run Try.prog w = .ok (.enter 15 args) w := run_callFunc Try.func15 (by kernel_rfl) (by kernel_rfl)
theorem s_spec_DrawWalkMatrix {code1 : List Int} {r : (Int × Int × Int)} (h : r_spec_DrawWalkMatrix code1 = some r) : CallS Try.prog 15 [.c (.sl (code1.map c5))] (.tc (I r.1) (.tc (I r.2.1) (.tc (I r.2.2) .tn))) [] := by
  refine CallS_of_text (rs := [.t 2, .t 3, .t 4]) (vs := [.tmp 2, .tmp 3, .tmp 4]) Try.func15 rfl rfl (.cons rfl (.cons rfl (.cons rfl FitsL.nil))) (by decide) 18 rfl ?_
  unfold r_spec_DrawWalkMatrix at h
  show V _ _ ⟨.c (.sl (code1.map c5)) :: bt 17 [], []⟩ _
  refine V_e (mb 18 1) [] (s1 := ⟨.c (.sl (code1.map c5)) :: bt 17 [], []⟩) ?_
  refine V_sreg (mb 18 32) [64] (s1 := ⟨bt 5 (.pt 64 0 :: bt 12 []), [(64, .box [.sl (code1.map c5), Ti 0, .v (.int .u64 0)])]⟩) ?_ ?_
  ·refine XR 1 ?_
   refine L0 rfl rfl (Y0_build (cs := [.sl (code1.map c5), Ti 0, .v (.int .u64 0)]) pl69 bt69 rfl rfl (by kernel_rfl)) ?_
   exact XE
  obtain ⟨y2, hy2, h⟩ := of_bind h
  obtain ⟨y3, hy3, h⟩ := of_bind h
  obtain ⟨y4, hy4, h⟩ := of_bind h
  obtain ⟨y5, hy5, h⟩ := of_bind h
  refine V_sreg (mb 18 28) [] (s1 := ⟨.bot :: .bot :: I y2.1 :: I y3.1 :: I y5.1 :: bt 13 [], []⟩) ?_ ?_
  ·refine XR 1 ?_
   refine XL_cons rfl (X_callR (E' := [(64, .box [.sl (y2.2.1.map c5), Ti y2.2.2.1, .v (.int .u64 y2.2.2.2)])]) [(80000, 64)] 10 (s_spec_l1Cur_disc hy2) cf_spec_l1Cur_disc rfl rfl (by kernel_rfl) rfl (mE_cons (by kernel_rfl) mE_nil) rfl (by kernel_rfl) rfl rfl (by kernel_rfl)) ?_
   refine XR 1 ?_
   refine XL_cons rfl (X_callR (E' := [(64, .box [.sl (y3.2.1.map c5), Ti y3.2.2.1, .v (.int .u64 y3.2.2.2)])]) [(80000, 64)] 12 (s_spec_l1Cur_index hy3) cf_spec_l1Cur_index rfl rfl (by kernel_rfl) rfl (mE_cons (by kernel_rfl) mE_nil) rfl (by kernel_rfl) rfl rfl (by kernel_rfl)) ?_
   refine XR 2 ?_
   refine XL_cons rfl (X_callR (E' := [(64, .box [.sl (y4.2.1.map c5), Ti y4.2.2.1, .v (.int .u64 y4.2.2.2)])]) [(80000, 64)] 15 (s_spec_l1Cur_pick hy4) cf_spec_l1Cur_pick rfl rfl (by kernel_rfl) rfl (mE_cons (by kernel_rfl) mE_nil) rfl (by kernel_rfl) rfl rfl (by kernel_rfl)) ?_
   refine L1 rfl rfl (Y1_bslice (z := zv3) (els := [0, 1, 2, 3, 10, 11, -1, y4.1].map c3) Try.underlying47 iz3 rfl (by decide) rfl (by kernel_rfl) rfl (by simp [c3]) (by decide) (by decide)) ?_
   refine XL_freeze 128 (T := 3) (sz := 1) (els := ([0, 1, 2, 3, 10, 11, -1, y4.1]).map c3) (s1 := ⟨bt 5 (.pt 64 0 :: bt 3 (.pt 64 0 :: I y2.1 :: .pt 64 0 :: I y3.1 :: .pt 64 0 :: .pt 64 0 :: I y4.1 :: .c (.sl (([0, 1, 2, 3, 10, 11, -1, y4.1]).map c3)) :: .bot :: [])), [(64, .box [.sl (y4.2.1.map c5), Ti y4.2.2.1, .v (.int .u64 y4.2.2.2)])]⟩) (by kernel_rfl) (by kernel_rfl) ?_
   refine XL_cons rfl (X_callR (E' := [(64, .box [.sl (y5.2.1.map c5), Ti y5.2.2.1, .v (.int .u64 y5.2.2.2)])]) [(80000, 64)] 17 (s_spec_l1Cur_among hy5) cf_spec_l1Cur_among rfl rfl (by kernel_rfl) rfl (mE_cons (by kernel_rfl) mE_nil) rfl (by kernel_rfl) rfl rfl (by kernel_rfl)) ?_
   exact XE
  refine V_ret ?_
  obtain rfl := some_inj h
  show Post _ _ _ _ _
  exact ⟨.inr rfl, rfl, rfl, rfl⟩
theorem cf_impl_mod : ∀ args w, (callFunc 88 args).run Try.prog w = .ok (.enter 88 args) w := run_callFunc Try.func88 (by kernel_rfl) (by kernel_rfl)
theorem s_impl_mod {a1 : Int} {vm2 : Int} {r : Int} (h : r_impl_mod a1 vm2 = some r) : CallS Try.prog 88 [I a1, I vm2] (I r) [] := by
  refine CallS_of_text (rs := [.t 4]) (vs := [.tmp 4]) Try.func88 rfl rfl (.cons rfl FitsL.nil) (by decide) 15 rfl ?_
  unfold r_impl_mod at h
  show V _ _ ⟨I a1 :: I vm2 :: bt 13 [], []⟩ _
  refine V_e (mb 15 3) [] (s1 := ⟨I a1 :: I vm2 :: bt 13 [], []⟩) ?_
  obtain ⟨z3, hz3, h⟩ := of_bind h
  obtain ⟨vr4, hvr4, h⟩ := of_sI h
  refine V_sreg (mb 15 34) [] (s1 := ⟨.bot :: I vm2 :: bt 3 (I vr4 :: bt 9 []), []⟩) ?_ ?_
  ·refine XR 2 ?_
   refine L0 rfl rfl (Y0_rem (k := .i64) (a := a1) (b := vm2) rfl (by kernel_rfl) (by kernel_rfl) (nz_some hz3)) ?_
   refine XR 1 ?_
   refine XL_nil ?_
   subst hvr4
   kernel_rfl
  refine V_seq ?_
  refine V_e (mb 15 1058) [] (s1 := ⟨.bot :: I vm2 :: bt 3 (I vr4 :: bt 4 (Bo (ltI vr4 0) :: bt 4 [])), []⟩) ?_
  refine V_cond rfl (fun hc5 => ?_) (fun hc5 => ?_)
  ·have h := of_true h hc5
   obtain ⟨vr6, hvr6, h⟩ := of_sI h
   refine V_reg (mb 15 32) [] (s1 := ⟨bt 5 (I vr6 :: bt 9 []), []⟩) ?_ ?_
   ·refine XR 4 ?_
    refine XL_nil ?_
    subst hvr6
    kernel_rfl
   show V _ _ _ _
   refine V_e (mb 15 16) [] (s1 := ⟨bt 4 (I vr6 :: bt 10 []), []⟩) ?_
   refine V_ret ?_
   obtain rfl := some_inj h
   show Post _ _ _ _ _
   exact ⟨.inr rfl, rfl, rfl, rfl⟩
  ·have h := of_false h hc5
   refine V_skip ?_
   show V _ _ _ _
   refine V_e (mb 15 16) [] (s1 := ⟨bt 4 (I vr4 :: bt 10 []), []⟩) ?_
   refine V_ret ?_
   obtain rfl := some_inj h
   show Post _ _ _ _ _
   exact ⟨.inr rfl, rfl, rfl, rfl⟩
theorem cf_impl_isNegativeDisc : ∀ args w, (callFunc 47 args).run Try.prog w = .ok (.enter 47 args) w := run_callFunc Try.func47 (by kernel_rfl) (by kernel_rfl)
theorem s_impl_isNegativeDisc {d1 : Int} {r : Bool} (h : r_impl_isNegativeDisc d1 = some r) : CallS Try.prog 47 [I d1] (Bo r) [] := by
  refine CallS_of_text (rs := [.t 2]) (vs := [.tmp 2]) Try.func47 rfl rfl (.cons rfl FitsL.nil) (by decide) 14 rfl ?_
  unfold r_impl_isNegativeDisc at h
  show V _ _ ⟨I d1 :: bt 13 [], []⟩ _
  refine V_e (mb 14 1) [] (s1 := ⟨I d1 :: bt 13 [], []⟩) ?_
  obtain ⟨b5, hb5, h⟩ := of_bind h
  refine V_sreg (mb 14 4) [] (s1 := ⟨.bot :: .bot :: Bo b5 :: bt 11 [], []⟩) ?_ ?_
  ·refine XR 3 ?_
   refine XL_split (leI (-2000) d1) (fun hc2 => ?_) (fun hc2 => ?_)
   ·refine XL_takeC _ rfl rfl (by kernel_rfl) hc2 (X_of_Y0 rfl (E_move (I d1) rfl (by kernel_rfl))) ?_
    refine XL_takeC _ rfl rfl (by kernel_rfl) hc2 (X_of_Y0 rfl (Y0_lew (k := .i64) (a := d1) (b := -3) rfl (by kernel_rfl) (by kernel_rfl))) ?_
    refine XL_cons rfl (X_of_Y0 rfl (Y0_pick1 (b := leI (-2000) d1) (p := leI d1 (-3)) (q := false) rfl (by kernel_rfl) hc2 (by kernel_rfl))) ?_
    refine XR 1 ?_
    refine XL_split (bif (leI (-2000) d1) then (leI d1 (-3)) else false) (fun hc3 => ?_) (fun hc3 => ?_)
    ·have hb5 := of_true hb5 hc3
     obtain ⟨y4, hy4, hb5⟩ := of_bind hb5
     have hb5 := some_inj hb5
     refine XL_takeC _ rfl rfl (by kernel_rfl) hc3 (X_of_Y0 rfl (E_move (I d1) rfl (by kernel_rfl))) ?_
     refine XL_takeC _ rfl rfl (by kernel_rfl) hc3 (X_of_Y1 rfl (Y1_call (s_impl_mod hy4) cf_impl_mod rfl (by kernel_rfl))) ?_
     refine XL_takeC _ rfl rfl (by kernel_rfl) hc3 (X_of_Y0 rfl (Y0_lew (k := .i64) (a := y4) (b := 1) rfl (by kernel_rfl) (by kernel_rfl))) ?_
     refine XL_cons rfl (X_of_Y0 rfl (Y0_pickTe (b := bif (leI (-2000) d1) then (leI d1 (-3)) else false) (p := leI y4 1) rfl (by kernel_rfl) hc3 (by kernel_rfl) hb5)) ?_
     exact XE
    ·have hb5 := some_inj (of_false hb5 hc3)
     refine XL_skipT _ rfl rfl (by kernel_rfl) hc3 rfl ?_
     refine XL_skipT _ rfl rfl (by kernel_rfl) hc3 rfl ?_
     refine XL_skipT _ rfl rfl (by kernel_rfl) hc3 rfl ?_
     refine XL_cons rfl (X_of_Y0 rfl (Y0_pickFe (b := bif (leI (-2000) d1) then (leI d1 (-3)) else false) (p := false) rfl (by kernel_rfl) hc3 (by kernel_rfl) hb5)) ?_
     exact XE
   ·refine XL_skipT _ rfl rfl (by kernel_rfl) hc2 rfl ?_
    refine XL_skipT _ rfl rfl (by kernel_rfl) hc2 rfl ?_
    refine XL_cons rfl (X_of_Y0 rfl (Y0_pick0 (b := leI (-2000) d1) (p := leI d1 (-3)) (q := false) rfl (by kernel_rfl) hc2 (by kernel_rfl))) ?_
    refine XR 1 ?_
    refine XL_split (bif (leI (-2000) d1) then (leI d1 (-3)) else false) (fun hc3 => ?_) (fun hc3 => ?_)
    ·have hb5 := of_true hb5 hc3
     obtain ⟨y4, hy4, hb5⟩ := of_bind hb5
     have hb5 := some_inj hb5
     refine XL_takeC _ rfl rfl (by kernel_rfl) hc3 (X_of_Y0 rfl (E_move (I d1) rfl (by kernel_rfl))) ?_
     refine XL_takeC _ rfl rfl (by kernel_rfl) hc3 (X_of_Y1 rfl (Y1_call (s_impl_mod hy4) cf_impl_mod rfl (by kernel_rfl))) ?_
     refine XL_takeC _ rfl rfl (by kernel_rfl) hc3 (X_of_Y0 rfl (Y0_lew (k := .i64) (a := y4) (b := 1) rfl (by kernel_rfl) (by kernel_rfl))) ?_
     refine XL_cons rfl (X_of_Y0 rfl (Y0_pickTe (b := bif (leI (-2000) d1) then (leI d1 (-3)) else false) (p := leI y4 1) rfl (by kernel_rfl) hc3 (by kernel_rfl) hb5)) ?_
     exact XE
    ·have hb5 := some_inj (of_false hb5 hc3)
     refine XL_skipT _ rfl rfl (by kernel_rfl) hc3 rfl ?_
     refine XL_skipT _ rfl rfl (by kernel_rfl) hc3 rfl ?_
     refine XL_skipT _ rfl rfl (by kernel_rfl) hc3 rfl ?_
     refine XL_cons rfl (X_of_Y0 rfl (Y0_pickFe (b := bif (leI (-2000) d1) then (leI d1 (-3)) else false) (p := false) rfl (by kernel_rfl) hc3 (by kernel_rfl) hb5)) ?_
     exact XE
  refine V_ret ?_
  obtain rfl := some_inj h
  show Post _ _ _ _ _
  exact ⟨.inr rfl, rfl, rfl, rfl⟩
theorem cf_impl_isPrime : ∀ args w, (callFunc 89 args).run Try.prog w = .ok (.enter 89 args) w := run_callFunc Try.func89 (by kernel_rfl) (by kernel_rfl)
theorem s_impl_isPrime {vn1 : Int} {r : Bool} (h : r_impl_isPrime vn1 = some r) : CallS Try.prog 89 [I vn1] (Bo r) [] := by
  refine CallS_of_text (rs := [.t 2]) (vs := [.tmp 2]) Try.func89 rfl rfl (.cons rfl FitsL.nil) (by decide) 17 rfl ?_
  unfold r_impl_isPrime at h
  show V _ _ ⟨I vn1 :: bt 16 [], []⟩ _
  refine V_e (mb 17 1) [] (s1 := ⟨I vn1 :: bt 16 [], []⟩) ?_
  refine V_seq ?_
  refine V_e (mb 17 33) [] (s1 := ⟨I vn1 :: bt 4 (Bo (ltI vn1 2) :: bt 11 []), []⟩) ?_
  refine V_cond rfl (fun hc2 => ?_) (fun hc2 => ?_)
  ·have h := of_true h hc2
   refine V_e (mb 17 4) [] (s1 := ⟨.bot :: .bot :: Bo false :: bt 14 [], []⟩) ?_
   refine V_ret ?_
   obtain rfl := some_inj h
   show Post _ _ _ _ _
   exact ⟨.inr rfl, rfl, rfl, rfl⟩
  ·have h := of_false h hc2
   refine V_skip ?_
   show V _ _ _ _
   refine V_seq ?_
   refine V_e (mb 17 9) [] (s1 := ⟨I vn1 :: .bot :: .bot :: I 2 :: bt 13 [], []⟩) ?_
   obtain ⟨qo5, hLo5, hko5⟩ := of_bind h
   refine V_toS (q := qo5) (S := fun o5 => ⟨bt 17 [], []⟩) (mb 17 0) [] ?_ ?_
   ·refine V_block (V_loop (fun n s => ∃ (p3 : Int), s.keep (mb 17 9) [] = (⟨I vn1 :: .bot :: .bot :: I p3 :: bt 13 [], []⟩ : St) ∧ r_impl_isPrime_L4 vn1 n p3 = some qo5) FU ⟨_,  by rfl, hLo5⟩ ?_)
    clear hLo5
    rintro n s ⟨p3, hs, h⟩
    refine V_keep _ _ hs ?_
    clear hs
    cases n with
    | zero => cases h
    | succ n =>
     rw [r_impl_isPrime_L4] at h
     refine V_seq ?_
     refine V_e (mb 17 1033) [] (s1 := ⟨I vn1 :: .bot :: .bot :: I p3 :: bt 6 (Bo (leI (w64 (p3 * p3)) vn1) :: bt 6 []), []⟩) ?_
     refine V_cond rfl (fun hc6 => ?_) (fun hc6 => ?_)
     ·have h := of_true h hc6
      refine V_skip ?_
      show V _ _ _ _
      refine V_seq ?_
      refine V_block ?_
      obtain ⟨z7, hz7, h⟩ := of_bind h
      refine V_sreg (mb 17 65545) [] (s1 := ⟨I vn1 :: .bot :: .bot :: I p3 :: bt 12 (Bo (eqI (Int.tmod vn1 p3) 0) :: []), []⟩) ?_ ?_
      ·refine XR 2 ?_
       refine L0 rfl rfl (Y0_rem (k := .i64) (a := vn1) (b := p3) rfl (by kernel_rfl) (by kernel_rfl) (nz_some hz7)) ?_
       exact XE
      refine V_cond rfl (fun hc8 => ?_) (fun hc8 => ?_)
      ·have h := of_true h hc8
       refine V_e (mb 17 4) [] (s1 := ⟨.bot :: .bot :: Bo false :: bt 14 [], []⟩) ?_
       refine V_ret ?_
       obtain rfl := some_inj h
       have h := hko5
       obtain rfl := some_inj h
       show Post _ _ _ _ _
       exact ⟨.inr rfl, rfl, rfl, rfl⟩
      ·have h := of_false h hc8
       refine V_skip ?_
       show V _ _ _ _
       obtain ⟨p9, hp9, h⟩ := of_sI h
       refine V_reg (mb 17 9) [] (s1 := ⟨I vn1 :: .bot :: .bot :: I p9 :: bt 13 [], []⟩) ?_ ?_
       ·refine XR 3 ?_
        refine XL_nil ?_
        subst hp9
        kernel_rfl
       exact ⟨n, Nat.lt_succ_self n, _,  by rfl, h⟩
     ·have h := of_false h hc6
      refine V_exit ?_
      obtain rfl := some_inj h
      exact ⟨_, rfl, by rfl⟩
   rintro o5 rfl
   have h := hko5
   clear hko5
   show V _ _ _ _
   refine V_e (mb 17 4) [] (s1 := ⟨.bot :: .bot :: Bo true :: bt 14 [], []⟩) ?_
   refine V_ret ?_
   obtain rfl := some_inj h
   show Post _ _ _ _ _
   exact ⟨.inr rfl, rfl, rfl, rfl⟩
theorem cf_impl_isIndex : ∀ args w, (callFunc 48 args).run Try.prog w = .ok (.enter 48 args) w := run_callFunc Try.func48 (by kernel_rfl) (by kernel_rfl)
theorem s_impl_isIndex {p1 : Int} {r : Bool} (h : r_impl_isIndex p1 = some r) : CallS Try.prog 48 [I p1] (Bo r) [] := by
  refine CallS_of_text (rs := [.t 2]) (vs := [.tmp 2]) Try.func48 rfl rfl (.cons rfl FitsL.nil) (by decide) 9 rfl ?_
  unfold r_impl_isIndex at h
  show V _ _ ⟨I p1 :: bt 8 [], []⟩ _
  refine V_e (mb 9 1) [] (s1 := ⟨I p1 :: bt 8 [], []⟩) ?_
  obtain ⟨b4, hb4, h⟩ := of_bind h
  refine V_sreg (mb 9 4) [] (s1 := ⟨.bot :: .bot :: Bo b4 :: bt 6 [], []⟩) ?_ ?_
  ·refine XR 3 ?_
   refine XL_split (leI p1 43) (fun hc2 => ?_) (fun hc2 => ?_)
   ·have hb4 := of_true hb4 hc2
    obtain ⟨y3, hy3, hb4⟩ := of_bind hb4
    have hb4 := some_inj hb4
    refine XL_takeC _ rfl rfl (by kernel_rfl) hc2 (X_of_Y0 rfl (E_move (I p1) rfl (by kernel_rfl))) ?_
    refine XL_takeC _ rfl rfl (by kernel_rfl) hc2 (X_of_Y1 rfl (Y1_call (s_impl_isPrime hy3) cf_impl_isPrime rfl (by kernel_rfl))) ?_
    refine XL_cons rfl (X_of_Y0 rfl (Y0_pickTe (b := leI p1 43) (p := y3) rfl (by kernel_rfl) hc2 (by kernel_rfl) hb4)) ?_
    exact XE
   ·have hb4 := some_inj (of_false hb4 hc2)
    refine XL_skipT _ rfl rfl (by kernel_rfl) hc2 rfl ?_
    refine XL_skipT _ rfl rfl (by kernel_rfl) hc2 rfl ?_
    refine XL_cons rfl (X_of_Y0 rfl (Y0_pickFe (b := leI p1 43) (p := false) rfl (by kernel_rfl) hc2 (by kernel_rfl) hb4)) ?_
    exact XE
  refine V_ret ?_
  obtain rfl := some_inj h
  show Post _ _ _ _ _
  exact ⟨.inr rfl, rfl, rfl, rfl⟩
theorem cf_impl_Form_isNormal : ∀ args w, (callFunc 106 args).run Try.prog w = .ok (.enter 106 args) w := run_callFunc Try.func106 (by kernel_rfl) (by kernel_rfl)
theorem s_impl_Form_isNormal {f1 : (Int × Int × Int)} {r : Bool} (h : r_impl_Form_isNormal f1 = some r) : CallS Try.prog 106 [.ag [Ti f1.1, Ti f1.2.1, Ti f1.2.2]] (Bo r) [] := by
  refine CallS_of_text (rs := [.t 2]) (vs := [.tmp 2]) Try.func106 rfl rfl (.cons rfl FitsL.nil) (by decide) 16 rfl ?_
  unfold r_impl_Form_isNormal at h
  show V _ _ ⟨.ag [Ti f1.1, Ti f1.2.1, Ti f1.2.2] :: bt 15 [], []⟩ _
  refine V_e (mb 16 2) [8] (s1 := ⟨.bot :: .pt 8 0 :: bt 14 [], [(8, .box [Ti f1.1, Ti f1.2.1, Ti f1.2.2])]⟩) ?_
  obtain ⟨t3, ht3, h⟩ := of_bind h
  have ht3 := some_inj ht3
  refine V_sreg (mb 16 4) [] (s1 := ⟨.bot :: .bot :: Bo t3 :: bt 13 [], []⟩) ?_ ?_
  ·refine XR 7 ?_
   refine XL_split (ltI (w64 (0 - f1.1)) f1.2.1) (fun hc2 => ?_) (fun hc2 => ?_)
   ·refine XL_takeC _ rfl rfl (by kernel_rfl) hc2 (X_of_Y0 rfl (E_field (.pt 8 1) Try.underlying25 rfl sz3 rfl (by kernel_rfl) (by intro hh; cases hh))) ?_
    refine XL_takeC _ rfl rfl (by kernel_rfl) hc2 (X_of_Y0 rfl (Y0_load1 (c := Ti f1.2.1) (cs := [Ti f1.2.2]) sc3 rfl (by kernel_rfl))) ?_
    refine XL_takeC _ rfl rfl (by kernel_rfl) hc2 (X_of_Y0 rfl (E_field (.pt 8 0) Try.underlying25 rfl sz3 rfl (by kernel_rfl) (by intro hh; cases hh))) ?_
    refine XL_takeC _ rfl rfl (by kernel_rfl) hc2 (X_of_Y0 rfl (Y0_load1 (c := Ti f1.1) (cs := [Ti f1.2.1, Ti f1.2.2]) sc3 rfl (by kernel_rfl))) ?_
    refine XL_takeC _ rfl rfl (by kernel_rfl) hc2 (X_of_Y0 rfl (Y0_lew (k := .i64) (a := f1.2.1) (b := f1.1) rfl (by kernel_rfl) (by kernel_rfl))) ?_
    refine XL_cons rfl (X_of_Y0 rfl (Y0_pick1 (b := ltI (w64 (0 - f1.1)) f1.2.1) (p := leI f1.2.1 f1.1) (q := false) rfl (by kernel_rfl) hc2 (by kernel_rfl))) ?_
    refine XR 1 ?_
    refine XL_nil ?_
    subst ht3
    kernel_rfl
   ·refine XL_skipT _ rfl rfl (by kernel_rfl) hc2 rfl ?_
    refine XL_skipT _ rfl rfl (by kernel_rfl) hc2 rfl ?_
    refine XL_skipT _ rfl rfl (by kernel_rfl) hc2 rfl ?_
    refine XL_skipT _ rfl rfl (by kernel_rfl) hc2 rfl ?_
    refine XL_skipT _ rfl rfl (by kernel_rfl) hc2 rfl ?_
    refine XL_cons rfl (X_of_Y0 rfl (Y0_pick0 (b := ltI (w64 (0 - f1.1)) f1.2.1) (p := leI f1.2.1 f1.1) (q := false) rfl (by kernel_rfl) hc2 (by kernel_rfl))) ?_
    refine XR 1 ?_
    refine XL_nil ?_
    subst ht3
    kernel_rfl
  refine V_ret ?_
  obtain rfl := some_inj h
  show Post _ _ _ _ _
  exact ⟨.inr rfl, rfl, rfl, rfl⟩
theorem cf_impl_Form_isReduced : ∀ args w, (callFunc 72 args).run Try.prog w = .ok (.enter 72 args) w := run_callFunc Try.func72 (by kernel_rfl) (by kernel_rfl)
theorem s_impl_Form_isReduced {f1 : (Int × Int × Int)} {r : Bool} (h : r_impl_Form_isReduced f1 = some r) : CallS Try.prog 72 [.ag [Ti f1.1, Ti f1.2.1, Ti f1.2.2]] (Bo r) [] := by
  refine CallS_of_text (rs := [.t 2]) (vs := [.tmp 2]) Try.func72 rfl rfl (.cons rfl FitsL.nil) (by decide) 24 rfl ?_
  unfold r_impl_Form_isReduced at h
  show V _ _ ⟨.ag [Ti f1.1, Ti f1.2.1, Ti f1.2.2] :: bt 23 [], []⟩ _
  refine V_e (mb 24 2) [8] (s1 := ⟨.bot :: .pt 8 0 :: bt 22 [], [(8, .box [Ti f1.1, Ti f1.2.1, Ti f1.2.2])]⟩) ?_
  obtain ⟨y2, hy2, h⟩ := of_bind h
  obtain ⟨t6, ht6, h⟩ := of_bind h
  have ht6 := some_inj ht6
  refine V_sreg (mb 24 4) [] (s1 := ⟨.bot :: .bot :: Bo t6 :: bt 21 [], []⟩) ?_ ?_
  ·refine XR 1 ?_
   refine XC (s_impl_Form_isNormal hy2) cf_impl_Form_isNormal rfl rfl rfl ?_
   refine XR 1 ?_
   refine XL_split y2 (fun hc3 => ?_) (fun hc3 => ?_)
   ·refine XL_takeC _ rfl rfl (by kernel_rfl) hc3 (X_of_Y0 rfl (E_field (.pt 8 0) Try.underlying25 rfl sz3 rfl (by kernel_rfl) (by intro hh; cases hh))) ?_
    refine XL_takeC _ rfl rfl (by kernel_rfl) hc3 (X_of_Y0 rfl (Y0_load1 (c := Ti f1.1) (cs := [Ti f1.2.1, Ti f1.2.2]) sc3 rfl (by kernel_rfl))) ?_
    refine XL_takeC _ rfl rfl (by kernel_rfl) hc3 (X_of_Y0 rfl (E_field (.pt 8 2) Try.underlying25 rfl sz3 rfl (by kernel_rfl) (by intro hh; cases hh))) ?_
    refine XL_takeC _ rfl rfl (by kernel_rfl) hc3 (X_of_Y0 rfl (Y0_load1 (c := Ti f1.2.2) (cs := []) sc3 rfl (by kernel_rfl))) ?_
    refine XL_takeC _ rfl rfl (by kernel_rfl) hc3 (X_of_Y0 rfl (Y0_ltw (k := .i64) (a := f1.1) (b := f1.2.2) rfl (by kernel_rfl) (by kernel_rfl))) ?_
    refine XL_takeC _ rfl rfl (by kernel_rfl) hc3 (X_of_Y0 rfl (E_move (Bo (ltI f1.1 f1.2.2)) rfl (by kernel_rfl))) ?_
    refine XL_split (ltI f1.1 f1.2.2) (fun hc4 => ?_) (fun hc4 => ?_)
    ·refine XL_skipF _ rfl rfl (by kernel_rfl) hc4 rfl ?_
     refine XL_skipF _ rfl rfl (by kernel_rfl) hc4 rfl ?_
     refine XL_skipF _ rfl rfl (by kernel_rfl) hc4 rfl ?_
     refine XL_skipF _ rfl rfl (by kernel_rfl) hc4 rfl ?_
     refine XL_skipF _ rfl rfl (by kernel_rfl) hc4 rfl ?_
     refine XL_skipF _ rfl rfl (by kernel_rfl) hc4 rfl ?_
     refine XL_skip2 rfl rfl (by kernel_rfl) rfl ?_
     refine XL_skip2 rfl rfl (by kernel_rfl) rfl ?_
     refine XL_skip2 rfl rfl (by kernel_rfl) rfl ?_
     refine XL_skipF _ rfl rfl (by kernel_rfl) hc4 rfl ?_
     refine XL_takeC _ rfl rfl (by kernel_rfl) hc3 (X_of_Y0 rfl (Y0_pick1 (b := ltI f1.1 f1.2.2) (p := true) (q := bif (eqI f1.1 f1.2.2) then (leI 0 f1.2.1) else false) rfl (by kernel_rfl) hc4 (by kernel_rfl))) ?_
     refine XL_cons rfl (X_of_Y0 rfl (Y0_pick1 (b := y2) (p := bif (ltI f1.1 f1.2.2) then true else (bif (eqI f1.1 f1.2.2) then (leI 0 f1.2.1) else false)) (q := false) rfl (by kernel_rfl) hc3 (by kernel_rfl))) ?_
     refine XR 1 ?_
     refine XL_nil ?_
     subst ht6
     kernel_rfl
    ·refine XL_takeC _ rfl rfl (by kernel_rfl) hc4 (X_of_Y0 rfl (E_field (.pt 8 0) Try.underlying25 rfl sz3 rfl (by kernel_rfl) (by intro hh; cases hh))) ?_
     refine XL_takeC _ rfl rfl (by kernel_rfl) hc4 (X_of_Y0 rfl (Y0_load1 (c := Ti f1.1) (cs := [Ti f1.2.1, Ti f1.2.2]) sc3 rfl (by kernel_rfl))) ?_
     refine XL_takeC _ rfl rfl (by kernel_rfl) hc4 (X_of_Y0 rfl (E_field (.pt 8 2) Try.underlying25 rfl sz3 rfl (by kernel_rfl) (by intro hh; cases hh))) ?_
     refine XL_takeC _ rfl rfl (by kernel_rfl) hc4 (X_of_Y0 rfl (Y0_load1 (c := Ti f1.2.2) (cs := []) sc3 rfl (by kernel_rfl))) ?_
     refine XL_takeC _ rfl rfl (by kernel_rfl) hc4 (X_of_Y0 rfl (Y0_eqw (k := .i64) (a := f1.1) (b := f1.2.2) rfl (by kernel_rfl) (by kernel_rfl))) ?_
     refine XL_takeC _ rfl rfl (by kernel_rfl) hc4 (X_of_Y0 rfl (E_move (Bo (eqI f1.1 f1.2.2)) rfl (by kernel_rfl))) ?_
     refine XL_split (eqI f1.1 f1.2.2) (fun hc5 => ?_) (fun hc5 => ?_)
     ·refine XL_takeC _ rfl rfl (by kernel_rfl) hc5 (X_of_Y0 rfl (E_field (.pt 8 1) Try.underlying25 rfl sz3 rfl (by kernel_rfl) (by intro hh; cases hh))) ?_
      refine XL_takeC _ rfl rfl (by kernel_rfl) hc5 (X_of_Y0 rfl (Y0_load1 (c := Ti f1.2.1) (cs := [Ti f1.2.2]) sc3 rfl (by kernel_rfl))) ?_
      refine XL_takeC _ rfl rfl (by kernel_rfl) hc5 (X_of_Y0 rfl (Y0_gew (k := .i64) (a := f1.2.1) (b := 0) rfl (by kernel_rfl) (by kernel_rfl))) ?_
      refine XL_takeC _ rfl rfl (by kernel_rfl) hc4 (X_of_Y0 rfl (Y0_pick1 (b := eqI f1.1 f1.2.2) (p := leI 0 f1.2.1) (q := false) rfl (by kernel_rfl) hc5 (by kernel_rfl))) ?_
      refine XL_takeC _ rfl rfl (by kernel_rfl) hc3 (X_of_Y0 rfl (Y0_pick0 (b := ltI f1.1 f1.2.2) (p := true) (q := bif (eqI f1.1 f1.2.2) then (leI 0 f1.2.1) else false) rfl (by kernel_rfl) hc4 (by kernel_rfl))) ?_
      refine XL_cons rfl (X_of_Y0 rfl (Y0_pick1 (b := y2) (p := bif (ltI f1.1 f1.2.2) then true else (bif (eqI f1.1 f1.2.2) then (leI 0 f1.2.1) else false)) (q := false) rfl (by kernel_rfl) hc3 (by kernel_rfl))) ?_
      refine XR 1 ?_
      refine XL_nil ?_
      subst ht6
      kernel_rfl
     ·refine XL_skipT _ rfl rfl (by kernel_rfl) hc5 rfl ?_
      refine XL_skipT _ rfl rfl (by kernel_rfl) hc5 rfl ?_
      refine XL_skipT _ rfl rfl (by kernel_rfl) hc5 rfl ?_
      refine XL_takeC _ rfl rfl (by kernel_rfl) hc4 (X_of_Y0 rfl (Y0_pick0 (b := eqI f1.1 f1.2.2) (p := leI 0 f1.2.1) (q := false) rfl (by kernel_rfl) hc5 (by kernel_rfl))) ?_
      refine XL_takeC _ rfl rfl (by kernel_rfl) hc3 (X_of_Y0 rfl (Y0_pick0 (b := ltI f1.1 f1.2.2) (p := true) (q := bif (eqI f1.1 f1.2.2) then (leI 0 f1.2.1) else false) rfl (by kernel_rfl) hc4 (by kernel_rfl))) ?_
      refine XL_cons rfl (X_of_Y0 rfl (Y0_pick1 (b := y2) (p := bif (ltI f1.1 f1.2.2) then true else (bif (eqI f1.1 f1.2.2) then (leI 0 f1.2.1) else false)) (q := false) rfl (by kernel_rfl) hc3 (by kernel_rfl))) ?_
      refine XR 1 ?_
      refine XL_nil ?_
      subst ht6
      kernel_rfl
   ·refine XL_skipT _ rfl rfl (by kernel_rfl) hc3 rfl ?_
    refine XL_skipT _ rfl rfl (by kernel_rfl) hc3 rfl ?_
    refine XL_skipT _ rfl rfl (by kernel_rfl) hc3 rfl ?_
    refine XL_skipT _ rfl rfl (by kernel_rfl) hc3 rfl ?_
    refine XL_skipT _ rfl rfl (by kernel_rfl) hc3 rfl ?_
    refine XL_skipT _ rfl rfl (by kernel_rfl) hc3 rfl ?_
    refine XL_skip2 rfl rfl (by kernel_rfl) rfl ?_
    refine XL_skip2 rfl rfl (by kernel_rfl) rfl ?_
    refine XL_skip2 rfl rfl (by kernel_rfl) rfl ?_
    refine XL_skip2 rfl rfl (by kernel_rfl) rfl ?_
    refine XL_skip2 rfl rfl (by kernel_rfl) rfl ?_
    refine XL_skip2 rfl rfl (by kernel_rfl) rfl ?_
    refine XL_skip2 rfl rfl (by kernel_rfl) rfl ?_
    refine XL_skip2 rfl rfl (by kernel_rfl) rfl ?_
    refine XL_skip2 rfl rfl (by kernel_rfl) rfl ?_
    refine XL_skip2 rfl rfl (by kernel_rfl) rfl ?_
    refine XL_skipT _ rfl rfl (by kernel_rfl) hc3 rfl ?_
    refine XL_cons rfl (X_of_Y0 rfl (Y0_pick0 (b := y2) (p := bif (ltI f1.1 f1.2.2) then true else (bif (eqI f1.1 f1.2.2) then (leI 0 f1.2.1) else false)) (q := false) rfl (by kernel_rfl) hc3 (by kernel_rfl))) ?_
    refine XR 1 ?_
    refine XL_nil ?_
    subst ht6
    kernel_rfl
  refine V_ret ?_
  obtain rfl := some_inj h
  show Post _ _ _ _ _
  exact ⟨.inr rfl, rfl, rfl, rfl⟩
theorem cf_impl_allReduced : ∀ args w, (callFunc 94 args).run Try.prog w = .ok (.enter 94 args) w := run_callFunc Try.func94 (by kernel_rfl) (by kernel_rfl)
theorem s_impl_allReduced {d1 : Int} {r : List ((Int × Int × Int))} (h : r_impl_allReduced d1 = some r) : CallS Try.prog 94 [I d1] (.ow 0) [(0, .arr 25 3 (r.map c25))] := by
  refine CallS_of_text (rs := [.t 2]) (vs := [.tmp 2]) Try.func94 rfl rfl (.cons rfl FitsL.nil) (by decide) 51 rfl ?_
  unfold r_impl_allReduced at h
  show V _ _ ⟨I d1 :: bt 50 [], []⟩ _
  refine V_sreg (mb 51 1) [] (s1 := ⟨I d1 :: bt 50 [], []⟩) ?_ ?_
  ·refine L1 rfl rfl (Y1_nil (e := 25) 3 (by decide) (.inl rfl)) ?_
   exact XE
  refine V_sreg (mb 51 9) [56] (s1 := ⟨I d1 :: .bot :: .bot :: .ow 56 :: bt 47 [], [(56, .arr 25 3 ((([] : List ((Int × Int × Int)))).map c25))]⟩) ?_ ?_
  ·refine L1 rfl rfl (Y1_bslice0 Try.underlying44 sz25 (by decide) rfl rfl) ?_
   exact XE
  refine V_seq ?_
  refine V_e (mb 51 25) [56] (s1 := ⟨I d1 :: .bot :: .bot :: .ow 56 :: I 1 :: bt 46 [], [(56, .arr 25 3 ((([] : List ((Int × Int × Int)))).map c25))]⟩) ?_
  obtain ⟨o5, hLo5, h⟩ := of_bind h
  refine V_toK (mb 51 8) [56] (s1 := ⟨bt 3 (.ow 56 :: bt 47 []), [(56, .arr 25 3 (o5.map c25))]⟩) ?_ ?_
  ·clear h
   refine V_block (V_loop (fun n s => ∃ (a2 : Int) (l3 : List ((Int × Int × Int))), s.keep (mb 51 25) [56] = (⟨I d1 :: .bot :: .bot :: .ow 56 :: I a2 :: bt 46 [], [(56, .arr 25 3 (l3.map c25))]⟩ : St) ∧ r_impl_allReduced_L4 d1 n a2 l3 = some o5) FU ⟨_, _,  by rfl, hLo5⟩ ?_)
   clear hLo5
   rintro n s ⟨a2, l3, hs, h⟩
   refine V_keep _ _ hs ?_
   clear hs
   cases n with
   | zero => cases h
   | succ n =>
    rw [r_impl_allReduced_L4] at h
    refine V_seq ?_
    refine V_e (mb 51 16409) [56] (s1 := ⟨I d1 :: .bot :: .bot :: .ow 56 :: I a2 :: bt 9 (Bo (leI (w64 ((w64 (3 * a2)) * a2)) (w64 (0 - d1))) :: bt 36 []), [(56, .arr 25 3 (l3.map c25))]⟩) ?_
    refine V_cond rfl (fun hc6 => ?_) (fun hc6 => ?_)
    ·have h := of_true h hc6
     refine V_skip ?_
     show V _ _ _ _
     refine V_seq ?_
     refine V_block ?_
     obtain ⟨b7, hb7, h⟩ := of_sI h
     refine V_sreg (mb 51 57) [56] (s1 := ⟨I d1 :: .bot :: .bot :: .ow 56 :: I a2 :: I b7 :: bt 45 [], [(56, .arr 25 3 (l3.map c25))]⟩) ?_ ?_
     ·refine XR 3 ?_
      refine XL_nil ?_
      subst hb7
      kernel_rfl
     obtain ⟨o11, hLo11, h⟩ := of_bind h
     refine V_toK (mb 51 25) [56] (s1 := ⟨I d1 :: .bot :: .bot :: .ow 56 :: I a2 :: bt 46 [], [(56, .arr 25 3 (o11.map c25))]⟩) ?_ ?_
     ·clear h
      refine V_block (V_loop (fun n s => ∃ (b8 : Int) (l9 : List ((Int × Int × Int))), s.keep (mb 51 57) [56] = (⟨I d1 :: .bot :: .bot :: .ow 56 :: I a2 :: I b8 :: bt 45 [], [(56, .arr 25 3 (l9.map c25))]⟩ : St) ∧ r_impl_allReduced_L10 a2 d1 n b8 l9 = some o11) FU ⟨_, _,  by rfl, hLo11⟩ ?_)
      clear hLo11
      rintro n s ⟨b8, l9, hs, h⟩
      refine V_keep _ _ hs ?_
      clear hs
      cases n with
      | zero => cases h
      | succ n =>
       rw [r_impl_allReduced_L10] at h
       refine V_seq ?_
       refine V_e (mb 51 2097209) [56] (s1 := ⟨I d1 :: .bot :: .bot :: .ow 56 :: I a2 :: I b8 :: bt 15 (Bo (leI b8 a2) :: bt 29 []), [(56, .arr 25 3 (l9.map c25))]⟩) ?_
       refine V_cond rfl (fun hc12 => ?_) (fun hc12 => ?_)
       ·have h := of_true h hc12
        refine V_skip ?_
        show V _ _ _ _
        refine V_seq ?_
        refine V_block ?_
        refine V_seq ?_
        obtain ⟨z13, hz13, h⟩ := of_bind h
        obtain ⟨t14, ht14, h⟩ := of_bind h
        have ht14 := some_inj ht14
        refine V_sreg (mb 51 4294967353) [56] (s1 := ⟨I d1 :: .bot :: .bot :: .ow 56 :: I a2 :: I b8 :: bt 26 (Bo t14 :: bt 18 []), [(56, .arr 25 3 (l9.map c25))]⟩) ?_ ?_
        ·refine XR 7 ?_
         refine L0 rfl rfl (Y0_rem (k := .i64) (a := w64 ((w64 (b8 * b8)) - d1)) (b := w64 (4 * a2)) rfl (by kernel_rfl) (by kernel_rfl) (nz_some hz13)) ?_
         refine XR 1 ?_
         refine XL_nil ?_
         subst ht14
         kernel_rfl
        refine V_cond rfl (fun hc15 => ?_) (fun hc15 => ?_)
        ·have h := of_true h hc15
         refine V_exit ?_
         show V _ _ _ _
         obtain ⟨b16, hb16, h⟩ := of_sI h
         refine V_reg (mb 51 57) [56] (s1 := ⟨I d1 :: .bot :: .bot :: .ow 56 :: I a2 :: I b16 :: bt 45 [], [(56, .arr 25 3 (l9.map c25))]⟩) ?_ ?_
         ·refine XR 3 ?_
          refine XL_nil ?_
          subst hb16
          kernel_rfl
         exact ⟨n, Nat.lt_succ_self n, _, _,  by rfl, h⟩
        ·have h := of_false h hc15
         refine V_skip ?_
         show V _ _ _ _
         obtain ⟨z17, hz17, h⟩ := of_bind h
         obtain ⟨f18, hf18, h⟩ := of_sI h
         refine V_sreg (mb 51 121) [48, 56] (s1 := ⟨I d1 :: .bot :: .bot :: .ow 56 :: I a2 :: I b8 :: .pt 48 0 :: bt 44 [], [(48, .box [Ti a2, Ti b8, Ti f18]), (56, .arr 25 3 (l9.map c25))]⟩) ?_ ?_
         ·refine XR 9 ?_
          refine L0 rfl rfl (Y0_quo64 (a := w64 ((w64 (b8 * b8)) - d1)) (b := w64 (4 * a2)) rfl (by kernel_rfl) (by kernel_rfl) (nz_some hz17)) ?_
          refine L0 rfl rfl (Y0_build (cs := [Ti a2, Ti b8, Ti (w64 (Int.tdiv (w64 ((w64 (b8 * b8)) - d1)) (w64 (4 * a2))))]) pl25 bt25 rfl rfl (by kernel_rfl)) ?_
          refine XR 2 ?_
          refine XL_nil ?_
          subst hf18
          kernel_rfl
         obtain ⟨y19, hy19, h⟩ := of_bind h
         refine V_sreg (mb 51 35184372088953) [48, 56] (s1 := ⟨I d1 :: .bot :: .bot :: .ow 56 :: I a2 :: I b8 :: .pt 48 0 :: bt 38 (Bo y19 :: bt 5 []), [(48, .box [Ti a2, Ti b8, Ti f18]), (56, .arr 25 3 (l9.map c25))]⟩) ?_ ?_
         ·refine XR 1 ?_
          refine XC (s_impl_Form_isReduced hy19) cf_impl_Form_isReduced rfl rfl rfl ?_
          exact XE
         refine V_cond rfl (fun hc20 => ?_) (fun hc20 => ?_)
         ·have h := of_true h hc20
          obtain ⟨u21, hu21, h⟩ := of_bind h
          refine V_reg (mb 51 57) [56] (s1 := ⟨I d1 :: .bot :: .bot :: .ow 56 :: I a2 :: I b8 :: bt 45 [], [(56, .arr 25 3 ((l9 ++ ([(a2, b8, f18)])).map c25))]⟩) ?_ ?_
          ·refine XR 2 ?_
           refine L1 rfl rfl (Y1_bslice (z := zv25) (els := [(a2, b8, f18)].map c25) Try.underlying44 iz25 rfl (by decide) rfl (by kernel_rfl) rfl (by simp [c25]) (by decide) (by decide)) ?_
           refine XL_cons rfl (X_appendM (c := c25) (xs := l9) (ys := [(a2, b8, f18)]) (id := 56) (z := zv25) rfl rfl Try.underlying44 izb25 rfl (by kernel_rfl) (by kernel_rfl) (by kernel_rfl) (fun _ => rfl) (by simp) (room_some hu21) (by decide)) ?_
           exact XE
          show V _ _ _ _
          obtain ⟨b22, hb22, h⟩ := of_sI h
          refine V_reg (mb 51 57) [56] (s1 := ⟨I d1 :: .bot :: .bot :: .ow 56 :: I a2 :: I b22 :: bt 45 [], [(56, .arr 25 3 ((l9 ++ ([(a2, b8, f18)])).map c25))]⟩) ?_ ?_
          ·refine XR 3 ?_
           refine XL_nil ?_
           subst hb22
           kernel_rfl
          exact ⟨n, Nat.lt_succ_self n, _, _,  by rfl, h⟩
         ·have h := of_false h hc20
          refine V_skip ?_
          show V _ _ _ _
          obtain ⟨b23, hb23, h⟩ := of_sI h
          refine V_reg (mb 51 57) [56] (s1 := ⟨I d1 :: .bot :: .bot :: .ow 56 :: I a2 :: I b23 :: bt 45 [], [(56, .arr 25 3 (l9.map c25))]⟩) ?_ ?_
          ·refine XR 3 ?_
           refine XL_nil ?_
           subst hb23
           kernel_rfl
          exact ⟨n, Nat.lt_succ_self n, _, _,  by rfl, h⟩
       ·have h := of_false h hc12
        refine V_exit ?_
        obtain rfl := some_inj h
        show St.keep _ _ _ = _
        rfl
     show V _ _ _ _
     obtain ⟨a24, ha24, h⟩ := of_sI h
     refine V_reg (mb 51 25) [56] (s1 := ⟨I d1 :: .bot :: .bot :: .ow 56 :: I a24 :: bt 46 [], [(56, .arr 25 3 (o11.map c25))]⟩) ?_ ?_
     ·refine XR 3 ?_
      refine XL_nil ?_
      subst ha24
      kernel_rfl
     exact ⟨n, Nat.lt_succ_self n, _, _,  by rfl, h⟩
    ·have h := of_false h hc6
     refine V_exit ?_
     obtain rfl := some_inj h
     show St.keep _ _ _ = _
     rfl
  show V _ _ _ _
  refine V_e (mb 51 4) [56] (s1 := ⟨.bot :: .bot :: .ow 56 :: bt 48 [], [(56, .arr 25 3 (o5.map c25))]⟩) ?_
  refine V_ret ?_
  obtain rfl := some_inj h
  show Post _ _ _ _ _
  exact ⟨.inr rfl, rfl, rfl, rfl⟩
theorem cf_impl_abs : ∀ args w, (callFunc 129 args).run Try.prog w = .ok (.enter 129 args) w := run_callFunc Try.func129 (by kernel_rfl) (by kernel_rfl)
theorem s_impl_abs {vn1 : Int} {r : Int} (h : r_impl_abs vn1 = some r) : CallS Try.prog 129 [I vn1] (I r) [] := by
  refine CallS_of_text (rs := [.t 2]) (vs := [.tmp 2]) Try.func129 rfl rfl (.cons rfl FitsL.nil) (by decide) 8 rfl ?_
  unfold r_impl_abs at h
  show V _ _ ⟨I vn1 :: bt 7 [], []⟩ _
  refine V_e (mb 8 1) [] (s1 := ⟨I vn1 :: bt 7 [], []⟩) ?_
  obtain ⟨t2, ht2, h⟩ := of_sI h
  refine V_sreg (mb 8 4) [] (s1 := ⟨.bot :: .bot :: I t2 :: bt 5 [], []⟩) ?_ ?_
  ·refine XR 2 ?_
   refine L0 rfl rfl (Y0_max (a := vn1) (b := -9223372036854775807) rfl (by kernel_rfl) (by kernel_rfl)) ?_
   refine XR 1 ?_
   refine L0 rfl rfl (Y0_max (a := vn1) (b := w64 (0 - (mxI vn1 (-9223372036854775807)))) rfl (by kernel_rfl) (by kernel_rfl)) ?_
   refine XR 1 ?_
   refine XL_nil ?_
   subst ht2
   kernel_rfl
  refine V_ret ?_
  obtain rfl := some_inj h
  show Post _ _ _ _ _
  exact ⟨.inr rfl, rfl, rfl, rfl⟩
theorem cf_impl_gcd : ∀ args w, (callFunc 118 args).run Try.prog w = .ok (.enter 118 args) w := run_callFunc Try.func118 (by kernel_rfl) (by kernel_rfl)
theorem s_impl_gcd {a1 : Int} {b2 : Int} {r : Int} (h : r_impl_gcd a1 b2 = some r) : CallS Try.prog 118 [I a1, I b2] (I r) [] := by
  refine CallS_of_text (rs := [.t 4]) (vs := [.tmp 4]) Try.func118 rfl rfl (.cons rfl FitsL.nil) (by decide) 13 rfl ?_
  unfold r_impl_gcd at h
  show V _ _ ⟨I a1 :: I b2 :: bt 11 [], []⟩ _
  refine V_e (mb 13 3) [] (s1 := ⟨I a1 :: I b2 :: bt 11 [], []⟩) ?_
  refine V_seq ?_
  obtain ⟨o6, hLo6, h⟩ := of_bind h
  refine V_toK (mb 13 1) [] (s1 := ⟨I o6 :: bt 12 [], []⟩) ?_ ?_
  ·clear h
   refine V_block (V_loop (fun n s => ∃ (a3 : Int) (b4 : Int), s.keep (mb 13 3) [] = (⟨I a3 :: I b4 :: bt 11 [], []⟩ : St) ∧ r_impl_gcd_L5 n a3 b4 = some o6) FU ⟨_, _,  by rfl, hLo6⟩ ?_)
   clear hLo6
   rintro n s ⟨a3, b4, hs, h⟩
   refine V_keep _ _ hs ?_
   clear hs
   cases n with
   | zero => cases h
   | succ n =>
    rw [r_impl_gcd_L5] at h
    refine V_seq ?_
    refine V_e (mb 13 67) [] (s1 := ⟨I a3 :: I b4 :: bt 4 (Bo (!eqI b4 0) :: bt 6 []), []⟩) ?_
    refine V_cond rfl (fun hc7 => ?_) (fun hc7 => ?_)
    ·have h := of_true h hc7
     refine V_skip ?_
     show V _ _ _ _
     refine V_block ?_
     obtain ⟨z8, hz8, h⟩ := of_bind h
     obtain ⟨b9, hb9, h⟩ := of_sI h
     refine V_dreg [0, 0, 0, 6, 3, 31] 6 (cdm 6 [168, 34, 522, 534, 165, 341]) (mb 13 3) [] (s1 := ⟨I b4 :: I b9 :: bt 11 [], []⟩) (by kernel_rfl) (by kernel_rfl) ?_ ?_
     ·refine DR 3 ?_
      refine DE_0 3 (I (Int.tmod a3 b4)) (by kernel_rfl) rfl rfl rfl (gsat_none rfl) (by kernel_rfl) (Y0_rem (k := .i64) (a := a3) (b := b4) rfl (by kernel_rfl) (by kernel_rfl) (nz_some hz8)) 10 rfl ?_
      refine DA 2 ?_
      refine XL_nil ?_
      subst hb9
      kernel_rfl
     exact ⟨n, Nat.lt_succ_self n, _, _,  by rfl, h⟩
    ·have h := of_false h hc7
     refine V_exit ?_
     obtain rfl := some_inj h
     show St.keep _ _ _ = _
     rfl
  show V _ _ _ _
  obtain ⟨y10, hy10, h⟩ := of_bind h
  refine V_sreg (mb 13 16) [] (s1 := ⟨bt 4 (I y10 :: bt 8 []), []⟩) ?_ ?_
  ·refine XR 1 ?_
   refine XC (s_impl_abs hy10) cf_impl_abs rfl rfl rfl ?_
   exact XE
  refine V_ret ?_
  obtain rfl := some_inj h
  show Post _ _ _ _ _
  exact ⟨.inr rfl, rfl, rfl, rfl⟩
theorem cf_impl_Form_content : ∀ args w, (callFunc 83 args).run Try.prog w = .ok (.enter 83 args) w := run_callFunc Try.func83 (by kernel_rfl) (by kernel_rfl)
theorem s_impl_Form_content {f1 : (Int × Int × Int)} {r : Int} (h : r_impl_Form_content f1 = some r) : CallS Try.prog 83 [.ag [Ti f1.1, Ti f1.2.1, Ti f1.2.2]] (I r) [] := by
  refine CallS_of_text (rs := [.t 2]) (vs := [.tmp 2]) Try.func83 rfl rfl (.cons rfl FitsL.nil) (by decide) 11 rfl ?_
  unfold r_impl_Form_content at h
  show V _ _ ⟨.ag [Ti f1.1, Ti f1.2.1, Ti f1.2.2] :: bt 10 [], []⟩ _
  refine V_e (mb 11 2) [8] (s1 := ⟨.bot :: .pt 8 0 :: bt 9 [], [(8, .box [Ti f1.1, Ti f1.2.1, Ti f1.2.2])]⟩) ?_
  obtain ⟨y2, hy2, h⟩ := of_bind h
  obtain ⟨y3, hy3, h⟩ := of_bind h
  refine V_sdreg [0, 1, 0, 4, 0, 16, 60, 127, 255] 9 (cdm 9 [10912, 10913, 2570, 2586, 170, 426, 1370, 5461, 21845]) (mb 11 4) [] (s1 := ⟨.bot :: .bot :: I y3 :: bt 8 [], []⟩) (by kernel_rfl) (by kernel_rfl) ?_ ?_
  ·refine DR 6 ?_
   refine DC 6 (s_impl_gcd hy2) cf_impl_gcd rfl rfl rfl rfl 9 rfl ?_
   refine DC 7 (s_impl_gcd hy3) cf_impl_gcd rfl rfl rfl rfl 10 rfl ?_
   refine DA 1 ?_
   exact XE
  refine V_ret ?_
  obtain rfl := some_inj h
  show Post _ _ _ _ _
  exact ⟨.inr rfl, rfl, rfl, rfl⟩
theorem cf_impl_primitiveOf : ∀ args w, (callFunc 93 args).run Try.prog w = .ok (.enter 93 args) w := run_callFunc Try.func93 (by kernel_rfl) (by kernel_rfl)
theorem s_impl_primitiveOf {forms1 : List ((Int × Int × Int))} {r : List ((Int × Int × Int))} (h : r_impl_primitiveOf forms1 = some r) : CallS Try.prog 93 [.c (.sl (forms1.map c25))] (.ow 0) [(0, .arr 25 3 (r.map c25))] := by
  refine CallS_of_text (rs := [.t 2]) (vs := [.tmp 2]) Try.func93 rfl rfl (.cons rfl FitsL.nil) (by decide) 22 rfl ?_
  unfold r_impl_primitiveOf at h
  show V _ _ ⟨.c (.sl (forms1.map c25)) :: bt 21 [], []⟩ _
  refine V_sreg (mb 22 1) [] (s1 := ⟨.c (.sl (forms1.map c25)) :: bt 21 [], []⟩) ?_ ?_
  ·refine L1 rfl rfl (Y1_nil (e := 25) 3 (by decide) (.inl rfl)) ?_
   exact XE
  refine V_sreg (mb 22 9) [48] (s1 := ⟨.c (.sl (forms1.map c25)) :: .bot :: .bot :: .ow 48 :: bt 18 [], [(48, .arr 25 3 ((([] : List ((Int × Int × Int)))).map c25))]⟩) ?_ ?_
  ·refine L1 rfl rfl (Y1_bslice0 Try.underlying44 sz25 (by decide) rfl rfl) ?_
   exact XE
  refine V_seq ?_
  refine V_sreg (mb 22 904) [48] (s1 := ⟨bt 3 (.ow 48 :: bt 3 (.c (.sl (forms1.map c25)) :: I ((forms1.length : Int)) :: I 0 :: bt 12 [])), [(48, .arr 25 3 ((([] : List ((Int × Int × Int)))).map c25))]⟩) ?_ ?_
  ·refine XR 1 ?_
   refine L0 rfl rfl (Y0_lenM (c := c25) (xs := forms1) Try.underlying44 rfl (by kernel_rfl)) ?_
   exact XE
  obtain ⟨o5, hLo5, h⟩ := of_bind h
  refine V_toK (mb 22 8) [48] (s1 := ⟨bt 3 (.ow 48 :: bt 18 []), [(48, .arr 25 3 (o5.map c25))]⟩) ?_ ?_
  ·clear h
   refine V_block (V_loop (fun n s => ∃ (t2 : Int) (l3 : List ((Int × Int × Int))), s.keep (mb 22 904) [48] = (⟨bt 3 (.ow 48 :: bt 3 (.c (.sl (forms1.map c25)) :: I ((forms1.length : Int)) :: I t2 :: bt 12 [])), [(48, .arr 25 3 (l3.map c25))]⟩ : St) ∧ r_impl_primitiveOf_L4 forms1 n t2 l3 = some o5) FU ⟨_, _,  by rfl, hLo5⟩ ?_)
   clear hLo5
   rintro n s ⟨t2, l3, hs, h⟩
   refine V_keep _ _ hs ?_
   clear hs
   cases n with
   | zero => cases h
   | succ n =>
    rw [r_impl_primitiveOf_L4] at h
    refine V_e (mb 22 1928) [48] (s1 := ⟨bt 3 (.ow 48 :: bt 3 (.c (.sl (forms1.map c25)) :: I ((forms1.length : Int)) :: I t2 :: Bo (ltI t2 ((forms1.length : Int))) :: bt 11 [])), [(48, .arr 25 3 (l3.map c25))]⟩) ?_
    refine V_seq ?_
    refine V_cond rfl (fun hc6 => ?_) (fun hc6 => ?_)
    ·have h := of_true h hc6
     refine V_skip ?_
     show V _ _ _ _
     refine V_seq ?_
     refine V_block ?_
     obtain ⟨e7, he7, h⟩ := of_bind h
     refine V_sreg (mb 22 936) [40, 48] (s1 := ⟨bt 3 (.ow 48 :: .bot :: .pt 40 0 :: .bot :: .c (.sl (forms1.map c25)) :: I ((forms1.length : Int)) :: I t2 :: bt 12 []), [(40, .box [Ti e7.1, Ti e7.2.1, Ti e7.2.2]), (48, .arr 25 3 (l3.map c25))]⟩) ?_ ?_
     ·refine L0 rfl rfl (Y0_idxM (c := c25) (xs := forms1) (v := e7) (n := t2) Try.underlying44 sz25 rfl (by kernel_rfl) (by kernel_rfl) he7) ?_
      exact XE
     obtain ⟨y8, hy8, h⟩ := of_bind h
     refine V_sreg (mb 22 33704) [40, 48] (s1 := ⟨bt 3 (.ow 48 :: .bot :: .pt 40 0 :: .bot :: .c (.sl (forms1.map c25)) :: I ((forms1.length : Int)) :: I t2 :: bt 5 (Bo (eqI y8 1) :: bt 6 [])), [(40, .box [Ti e7.1, Ti e7.2.1, Ti e7.2.2]), (48, .arr 25 3 (l3.map c25))]⟩) ?_ ?_
     ·refine XR 1 ?_
      refine XC (s_impl_Form_content hy8) cf_impl_Form_content rfl rfl rfl ?_
      exact XE
     refine V_cond rfl (fun hc9 => ?_) (fun hc9 => ?_)
     ·have h := of_true h hc9
      obtain ⟨u10, hu10, h⟩ := of_bind h
      refine V_reg (mb 22 904) [48] (s1 := ⟨bt 3 (.ow 48 :: bt 3 (.c (.sl (forms1.map c25)) :: I ((forms1.length : Int)) :: I t2 :: bt 12 [])), [(48, .arr 25 3 ((l3 ++ ([e7])).map c25))]⟩) ?_ ?_
      ·refine XR 2 ?_
       refine L1 rfl rfl (Y1_bslice (z := zv25) (els := [e7].map c25) Try.underlying44 iz25 rfl (by decide) rfl (by kernel_rfl) rfl (by simp [c25]) (by decide) (by decide)) ?_
       refine XL_cons rfl (X_appendM (c := c25) (xs := l3) (ys := [e7]) (id := 48) (z := zv25) rfl rfl Try.underlying44 izb25 rfl (by kernel_rfl) (by kernel_rfl) (by kernel_rfl) (fun _ => rfl) (by simp) (room_some hu10) (by decide)) ?_
       exact XE
      show V _ _ _ _
      obtain ⟨t11, ht11, h⟩ := of_sI h
      refine V_reg (mb 22 904) [48] (s1 := ⟨bt 3 (.ow 48 :: bt 3 (.c (.sl (forms1.map c25)) :: I ((forms1.length : Int)) :: I t11 :: bt 12 [])), [(48, .arr 25 3 ((l3 ++ ([e7])).map c25))]⟩) ?_ ?_
      ·refine XR 2 ?_
       refine XL_nil ?_
       subst ht11
       kernel_rfl
      exact ⟨n, Nat.lt_succ_self n, _, _,  by rfl, h⟩
     ·have h := of_false h hc9
      refine V_skip ?_
      show V _ _ _ _
      obtain ⟨t12, ht12, h⟩ := of_sI h
      refine V_reg (mb 22 904) [48] (s1 := ⟨bt 3 (.ow 48 :: bt 3 (.c (.sl (forms1.map c25)) :: I ((forms1.length : Int)) :: I t12 :: bt 12 [])), [(48, .arr 25 3 (l3.map c25))]⟩) ?_ ?_
      ·refine XR 2 ?_
       refine XL_nil ?_
       subst ht12
       kernel_rfl
      exact ⟨n, Nat.lt_succ_self n, _, _,  by rfl, h⟩
    ·have h := of_false h hc6
     refine V_exit ?_
     obtain rfl := some_inj h
     show St.keep _ _ _ = _
     rfl
  show V _ _ _ _
  refine V_e (mb 22 4) [48] (s1 := ⟨.bot :: .bot :: .ow 48 :: bt 19 [], [(48, .arr 25 3 (o5.map c25))]⟩) ?_
  refine V_ret ?_
  obtain rfl := some_inj h
  show Post _ _ _ _ _
  exact ⟨.inr rfl, rfl, rfl, rfl⟩
theorem cf_impl_reducedForms : ∀ args w, (callFunc 54 args).run Try.prog w = .ok (.enter 54 args) w := run_callFunc Try.func54 (by kernel_rfl) (by kernel_rfl)
theorem s_impl_reducedForms {d1 : Int} {r : List ((Int × Int × Int))} (h : r_impl_reducedForms d1 = some r) : CallS Try.prog 54 [I d1] (.ow 0) [(0, .arr 25 3 (r.map c25))] := by
  refine CallS_of_text (rs := [.t 2]) (vs := [.tmp 2]) Try.func54 rfl rfl (.cons rfl FitsL.nil) (by decide) 6 rfl ?_
  unfold r_impl_reducedForms at h
  show V _ _ ⟨I d1 :: bt 5 [], []⟩ _
  refine V_sreg (mb 6 1) [] (s1 := ⟨I d1 :: bt 5 [], []⟩) ?_ ?_
  ·refine L1 rfl rfl (Y1_nil (e := 25) 3 (by decide) (.inl rfl)) ?_
   exact XE
  obtain ⟨y2, hy2, h⟩ := of_bind h
  obtain ⟨y3, hy3, h⟩ := of_bind h
  refine V_sreg (mb 6 4) [40] (s1 := ⟨.bot :: .bot :: .ow 40 :: bt 3 [], [(40, .arr 25 3 (y3.map c25))]⟩) ?_ ?_
  ·refine XR 1 ?_
   refine XC (s_impl_allReduced hy2) cf_impl_allReduced rfl rfl rfl ?_
   refine L1 rfl rfl (Y1_callS (s_impl_primitiveOf hy3) cf_impl_primitiveOf rfl (by kernel_rfl) rfl (flatE_cons (fun _ => rfl) rfl)) ?_
   exact XE
  refine V_ret ?_
  obtain rfl := some_inj h
  show Post _ _ _ _ _
  exact ⟨.inr rfl, rfl, rfl, rfl⟩
theorem cf_impl_groupOf : ∀ args w, (callFunc 61 args).run Try.prog w = .ok (.enter 61 args) w := run_callFunc Try.func61 (by kernel_rfl) (by kernel_rfl)
theorem s_impl_groupOf {d1 : Int} {r : ((List ((Int × Int × Int))) × (List ((((Int × Int × Int)) × Int))))} (h : r_impl_groupOf d1 = some r) : CallS Try.prog 61 [I d1] (.pe [.sl (r.1.map c25), .mp (r.2.map kv78)]) [] := by
  refine CallS_of_text (rs := [.t 2]) (vs := [.tmp 2]) Try.func61 rfl rfl (.cons rfl FitsL.nil) (by decide) 29 rfl ?_
  unfold r_impl_groupOf at h
  show V _ _ ⟨I d1 :: bt 28 [], []⟩ _
  refine V_e (mb 29 1) [] (s1 := ⟨I d1 :: bt 28 [], []⟩) ?_
  obtain ⟨y2, hy2, h⟩ := of_bind h
  refine V_sregM (fun mb8 => ⟨bt 3 (.pt 80 0 :: bt 25 []), [(80, .box [.sl (y2.map c25), .v (.map (some mb8))]), (64, .mp mb8 ((([] : List ((((Int × Int × Int)) × Int)))).map kv78))]⟩) (mb 29 8) [80, 64] ?_ ?_
  ·refine XR 1 ?_
   refine XC (s_impl_reducedForms hy2) cf_impl_reducedForms rfl rfl rfl ?_
   refine XL_mkmap rfl rfl rfl fun mb8 => ?_
   refine XL_freeze 56 (T := 25) (sz := 3) (els := y2.map c25) (s1 := ⟨I d1 :: bt 5 (I d1 :: .c (.sl (y2.map c25)) :: .c (.v (.map (some mb8))) :: bt 20 []), [(64, .mp mb8 ((([] : List ((((Int × Int × Int)) × Int)))).map kv78))]⟩) (by kernel_rfl) (by kernel_rfl) ?_
   refine L0 rfl rfl (Y0_build (cs := [.sl (y2.map c25), .v (.map (some mb8))]) pl83 bt83 rfl rfl (by kernel_rfl)) ?_
   refine XR 2 ?_
   refine XL_nil ?_
   exact ⟨mb8, by kernel_rfl⟩
  intro mb8
  refine V_seq ?_
  refine V_sreg (mb 29 114696) [80, 64] (s1 := ⟨bt 3 (.pt 80 0 :: bt 10 (.c (.sl (y2.map c25)) :: I ((y2.length : Int)) :: I 0 :: bt 12 [])), [(80, .box [.sl (y2.map c25), .v (.map (some mb8))]), (64, .mp mb8 ((([] : List ((((Int × Int × Int)) × Int)))).map kv78))]⟩) ?_ ?_
  ·refine XR 1 ?_
   refine L0 rfl rfl (E_nil (.pt 80 0) rfl (by kernel_rfl) (by intro hh; cases hh)) ?_
   refine XR 2 ?_
   refine L0 rfl rfl (Y0_lenM (c := c25) (xs := y2) Try.underlying44 rfl (by kernel_rfl)) ?_
   exact XE
  obtain ⟨o6, hLo6, h⟩ := of_bind h
  refine V_toK (mb 29 8) [80, 64] (s1 := ⟨bt 3 (.pt 80 0 :: bt 25 []), [(80, .box [.sl (y2.map c25), .v (.map (some mb8))]), (64, .mp mb8 (o6.map kv78))]⟩) ?_ ?_
  ·clear h
   refine V_block (V_loop (fun n s => ∃ (t3 : Int) (l4 : List ((((Int × Int × Int)) × Int))), s.keep (mb 29 114696) [80, 64] = (⟨bt 3 (.pt 80 0 :: bt 10 (.c (.sl (y2.map c25)) :: I ((y2.length : Int)) :: I t3 :: bt 12 [])), [(80, .box [.sl (y2.map c25), .v (.map (some mb8))]), (64, .mp mb8 (l4.map kv78))]⟩ : St) ∧ r_impl_groupOf_L5 y2 n t3 l4 = some o6) FU ⟨_, _,  by rfl, hLo6⟩ ?_)
   clear hLo6
   rintro n s ⟨t3, l4, hs, h⟩
   refine V_keep _ _ hs ?_
   clear hs
   cases n with
   | zero => cases h
   | succ n =>
    rw [r_impl_groupOf_L5] at h
    refine V_e (mb 29 245768) [80, 64] (s1 := ⟨bt 3 (.pt 80 0 :: bt 10 (.c (.sl (y2.map c25)) :: I ((y2.length : Int)) :: I t3 :: Bo (ltI t3 ((y2.length : Int))) :: bt 11 [])), [(80, .box [.sl (y2.map c25), .v (.map (some mb8))]), (64, .mp mb8 (l4.map kv78))]⟩) ?_
    refine V_seq ?_
    refine V_cond rfl (fun hc7 => ?_) (fun hc7 => ?_)
    ·have h := of_true h hc7
     refine V_skip ?_
     show V _ _ _ _
     refine V_seq ?_
     refine V_block ?_
     obtain ⟨e8, he8, h⟩ := of_bind h
     refine V_sreg (mb 29 114744) [40, 80, 64] (s1 := ⟨bt 3 (.pt 80 0 :: I t3 :: .pt 40 0 :: bt 8 (.c (.sl (y2.map c25)) :: I ((y2.length : Int)) :: I t3 :: bt 12 [])), [(40, .box [Ti e8.1, Ti e8.2.1, Ti e8.2.2]), (80, .box [.sl (y2.map c25), .v (.map (some mb8))]), (64, .mp mb8 (l4.map kv78))]⟩) ?_ ?_
     ·refine XR 1 ?_
      refine L0 rfl rfl (Y0_idxM (c := c25) (xs := y2) (v := e8) (n := t3) Try.underlying44 sz25 rfl (by kernel_rfl) (by kernel_rfl) he8) ?_
      exact XE
     refine V_dreg [0, 1, 3, 7, 0, 0, 63] 6 (cdm 6 [2560, 2561, 2565, 2581, 2218, 682]) (mb 29 114696) [80, 64] (s1 := ⟨bt 3 (.pt 80 0 :: bt 10 (.c (.sl (y2.map c25)) :: I ((y2.length : Int)) :: I t3 :: bt 12 [])), [(80, .box [.sl (y2.map c25), .v (.map (some mb8))]), (64, .mp mb8 ((mPut e8 t3 l4).map kv78))]⟩) (by kernel_rfl) (by kernel_rfl) ?_ ?_
     ·refine DR 1 ?_
      refine DE_0 1 (.pt 80 0) (by kernel_rfl) rfl rfl rfl (gsat_none rfl) (by kernel_rfl) (E_nil (.pt 80 0) rfl (by kernel_rfl) (by intro hh; cases hh)) 22 rfl ?_
      refine DA 4 ?_
      refine XL_cons rfl (X_putM (κ := (Int × Int × Int)) (ν := Int) (ek := ek78) (ev := ev78) (z := 0) (m := l4) (a := e8) (u := t3) (id := 64) (b := mb8) mo78 (.inl rfl) rfl (by kernel_rfl) (by kernel_rfl) (by kernel_rfl) (by kernel_rfl)) ?_
      exact XE
     show V _ _ _ _
     obtain ⟨t9, ht9, h⟩ := of_sI h
     refine V_reg (mb 29 114696) [80, 64] (s1 := ⟨bt 3 (.pt 80 0 :: bt 10 (.c (.sl (y2.map c25)) :: I ((y2.length : Int)) :: I t9 :: bt 12 [])), [(80, .box [.sl (y2.map c25), .v (.map (some mb8))]), (64, .mp mb8 ((mPut e8 t3 l4).map kv78))]⟩) ?_ ?_
     ·refine XR 2 ?_
      refine XL_nil ?_
      subst ht9
      kernel_rfl
     exact ⟨n, Nat.lt_succ_self n, _, _,  by rfl, h⟩
    ·have h := of_false h hc7
     refine V_exit ?_
     obtain rfl := some_inj h
     show St.keep _ _ _ = _
     rfl
  show V _ _ _ _
  refine V_e (mb 29 4) [80, 64] (s1 := ⟨.bot :: .bot :: .pt 80 0 :: bt 26 [], [(80, .box [.sl (y2.map c25), .v (.map (some mb8))]), (64, .mp mb8 (o6.map kv78))]⟩) ?_
  refine V_freezeM 64 80 1 (b := mb8) (kvs := o6.map kv78) (cs := [.sl (y2.map c25), .v (.map (some mb8))]) (s1 := ⟨.bot :: .bot :: .pt 80 0 :: bt 26 [], [(80, .box [.sl (y2.map c25), .mp (o6.map kv78)])]⟩) (by kernel_rfl) (by kernel_rfl) (by kernel_rfl) (by kernel_rfl) ?_
  refine V_freezeB 80 (cs := [.sl (y2.map c25), .mp (o6.map kv78)]) (s1 := ⟨.bot :: .bot :: .pe [.sl (y2.map c25), .mp (o6.map kv78)] :: bt 26 [], []⟩) (by kernel_rfl) (by kernel_rfl) ?_
  refine V_ret ?_
  obtain rfl := some_inj h
  show Post _ _ _ _ _
  exact ⟨.inr rfl, rfl, rfl, rfl⟩
theorem cf_impl_indexMatrices : ∀ args w, (callFunc 120 args).run Try.prog w = .ok (.enter 120 args) w := run_callFunc Try.func120 (by kernel_rfl) (by kernel_rfl)
theorem s_impl_indexMatrices {p1 : Int} {r : List ((Int × Int × Int × Int))} (h : r_impl_indexMatrices p1 = some r) : CallS Try.prog 120 [I p1] (.ow 0) [(0, .arr 86 4 (r.map c86))] := by
  refine CallS_of_text (rs := [.t 2]) (vs := [.tmp 2]) Try.func120 rfl rfl (.cons rfl FitsL.nil) (by decide) 22 rfl ?_
  unfold r_impl_indexMatrices at h
  show V _ _ ⟨I p1 :: bt 21 [], []⟩ _
  refine V_sreg (mb 22 1) [] (s1 := ⟨I p1 :: bt 21 [], []⟩) ?_ ?_
  ·refine L1 rfl rfl (Y1_nil (e := 86) 4 (by decide) (.inl rfl)) ?_
   exact XE
  refine V_sreg (mb 22 9) [40] (s1 := ⟨I p1 :: .bot :: .bot :: .ow 40 :: bt 18 [], [(40, .arr 86 4 ((([] : List ((Int × Int × Int × Int)))).map c86))]⟩) ?_ ?_
  ·refine L1 rfl rfl (Y1_bslice0 Try.underlying122 sz86 (by decide) rfl rfl) ?_
   exact XE
  refine V_seq ?_
  refine V_e (mb 22 25) [40] (s1 := ⟨I p1 :: .bot :: .bot :: .ow 40 :: I 0 :: bt 17 [], [(40, .arr 86 4 ((([] : List ((Int × Int × Int × Int)))).map c86))]⟩) ?_
  obtain ⟨o5, hLo5, h⟩ := of_bind h
  refine V_toK (mb 22 9) [40] (s1 := ⟨I p1 :: .bot :: .bot :: .ow 40 :: bt 18 [], [(40, .arr 86 4 (o5.map c86))]⟩) ?_ ?_
  ·clear h
   refine V_block (V_loop (fun n s => ∃ (k2 : Int) (l3 : List ((Int × Int × Int × Int))), s.keep (mb 22 25) [40] = (⟨I p1 :: .bot :: .bot :: .ow 40 :: I k2 :: bt 17 [], [(40, .arr 86 4 (l3.map c86))]⟩ : St) ∧ r_impl_indexMatrices_L4 p1 n k2 l3 = some o5) FU ⟨_, _,  by rfl, hLo5⟩ ?_)
   clear hLo5
   rintro n s ⟨k2, l3, hs, h⟩
   refine V_keep _ _ hs ?_
   clear hs
   cases n with
   | zero => cases h
   | succ n =>
    rw [r_impl_indexMatrices_L4] at h
    refine V_seq ?_
    refine V_e (mb 22 281) [40] (s1 := ⟨I p1 :: .bot :: .bot :: .ow 40 :: I k2 :: bt 3 (Bo (ltI k2 p1) :: bt 13 []), [(40, .arr 86 4 (l3.map c86))]⟩) ?_
    refine V_cond rfl (fun hc6 => ?_) (fun hc6 => ?_)
    ·have h := of_true h hc6
     refine V_skip ?_
     show V _ _ _ _
     refine V_seq ?_
     refine V_block ?_
     obtain ⟨u7, hu7, h⟩ := of_bind h
     refine V_reg (mb 22 25) [40] (s1 := ⟨I p1 :: .bot :: .bot :: .ow 40 :: I k2 :: bt 17 [], [(40, .arr 86 4 ((l3 ++ ([(1, 0, k2, p1)])).map c86))]⟩) ?_ ?_
     ·refine XR 3 ?_
      refine L0 rfl rfl (Y0_build (cs := [Ti 1, Ti 0, Ti k2, Ti p1]) pl86 bt86 rfl rfl (by kernel_rfl)) ?_
      refine L1 rfl rfl (Y1_bslice (z := zv86) (els := [(1, 0, k2, p1)].map c86) Try.underlying122 iz86 rfl (by decide) rfl (by kernel_rfl) rfl (by simp [c86]) (by decide) (by decide)) ?_
      refine XL_cons rfl (X_appendM (c := c86) (xs := l3) (ys := [(1, 0, k2, p1)]) (id := 40) (z := zv86) rfl rfl Try.underlying122 izb86 rfl (by kernel_rfl) (by kernel_rfl) (by kernel_rfl) (fun _ => rfl) (by simp) (room_some hu7) (by decide)) ?_
      exact XE
     show V _ _ _ _
     obtain ⟨k8, hk8, h⟩ := of_sI h
     refine V_reg (mb 22 25) [40] (s1 := ⟨I p1 :: .bot :: .bot :: .ow 40 :: I k8 :: bt 17 [], [(40, .arr 86 4 ((l3 ++ ([(1, 0, k2, p1)])).map c86))]⟩) ?_ ?_
     ·refine XR 3 ?_
      refine XL_nil ?_
      subst hk8
      kernel_rfl
     exact ⟨n, Nat.lt_succ_self n, _, _,  by rfl, h⟩
    ·have h := of_false h hc6
     refine V_exit ?_
     obtain rfl := some_inj h
     show St.keep _ _ _ = _
     rfl
  show V _ _ _ _
  obtain ⟨u9, hu9, h⟩ := of_bind h
  refine V_sreg (mb 22 4) [40] (s1 := ⟨.bot :: .bot :: .ow 40 :: bt 19 [], [(40, .arr 86 4 ((o5 ++ ([(p1, 0, 0, 1)])).map c86))]⟩) ?_ ?_
  ·refine XR 2 ?_
   refine L0 rfl rfl (Y0_build (cs := [Ti p1, Ti 0, Ti 0, Ti 1]) pl86 bt86 rfl rfl (by kernel_rfl)) ?_
   refine L1 rfl rfl (Y1_bslice (z := zv86) (els := [(p1, 0, 0, 1)].map c86) Try.underlying122 iz86 rfl (by decide) rfl (by kernel_rfl) rfl (by simp [c86]) (by decide) (by decide)) ?_
   refine XL_cons rfl (X_appendM (c := c86) (xs := o5) (ys := [(p1, 0, 0, 1)]) (id := 40) (z := zv86) rfl rfl Try.underlying122 izb86 rfl (by kernel_rfl) (by kernel_rfl) (by kernel_rfl) (fun _ => rfl) (by simp) (room_some hu9) (by decide)) ?_
   exact XE
  refine V_ret ?_
  obtain rfl := some_inj h
  show Post _ _ _ _ _
  exact ⟨.inr rfl, rfl, rfl, rfl⟩
theorem cf_impl_Form_at : ∀ args w, (callFunc 75 args).run Try.prog w = .ok (.enter 75 args) w := run_callFunc Try.func75 (by kernel_rfl) (by kernel_rfl)
theorem s_impl_Form_at {f1 : (Int × Int × Int)} {x2 : Int} {y3 : Int} {r : Int} (h : r_impl_Form_at f1 x2 y3 = some r) : CallS Try.prog 75 [.ag [Ti f1.1, Ti f1.2.1, Ti f1.2.2], I x2, I y3] (I r) [] := by
  refine CallS_of_text (rs := [.t 6]) (vs := [.tmp 6]) Try.func75 rfl rfl (.cons rfl FitsL.nil) (by decide) 27 rfl ?_
  unfold r_impl_Form_at at h
  show V _ _ ⟨.ag [Ti f1.1, Ti f1.2.1, Ti f1.2.2] :: I x2 :: I y3 :: bt 24 [], []⟩ _
  refine V_e (mb 27 14) [24] (s1 := ⟨.bot :: I x2 :: I y3 :: .pt 24 0 :: bt 23 [], [(24, .box [Ti f1.1, Ti f1.2.1, Ti f1.2.2])]⟩) ?_
  obtain ⟨t4, ht4, h⟩ := of_sI h
  refine V_sreg (mb 27 64) [] (s1 := ⟨bt 6 (I t4 :: bt 20 []), []⟩) ?_ ?_
  ·refine XR 21 ?_
   refine XL_nil ?_
   subst ht4
   kernel_rfl
  refine V_ret ?_
  obtain rfl := some_inj h
  show Post _ _ _ _ _
  exact ⟨.inr rfl, rfl, rfl, rfl⟩
theorem cf_impl_Form_polar : ∀ args w, (callFunc 127 args).run Try.prog w = .ok (.enter 127 args) w := run_callFunc Try.func127 (by kernel_rfl) (by kernel_rfl)
theorem s_impl_Form_polar {f1 : (Int × Int × Int)} {x2 : Int} {y3 : Int} {u4 : Int} {v5 : Int} {r : Int} (h : r_impl_Form_polar f1 x2 y3 u4 v5 = some r) : CallS Try.prog 127 [.ag [Ti f1.1, Ti f1.2.1, Ti f1.2.2], I x2, I y3, I u4, I v5] (I r) [] := by
  refine CallS_of_text (rs := [.t 10]) (vs := [.tmp 10]) Try.func127 rfl rfl (.cons rfl FitsL.nil) (by decide) 37 rfl ?_
  unfold r_impl_Form_polar at h
  show V _ _ ⟨.ag [Ti f1.1, Ti f1.2.1, Ti f1.2.2] :: I x2 :: I y3 :: I u4 :: I v5 :: bt 32 [], []⟩ _
  refine V_e (mb 37 62) [40] (s1 := ⟨.bot :: I x2 :: I y3 :: I u4 :: I v5 :: .pt 40 0 :: bt 31 [], [(40, .box [Ti f1.1, Ti f1.2.1, Ti f1.2.2])]⟩) ?_
  obtain ⟨t6, ht6, h⟩ := of_sI h
  refine V_sreg (mb 37 1024) [] (s1 := ⟨bt 10 (I t6 :: bt 26 []), []⟩) ?_ ?_
  ·refine XR 27 ?_
   refine XL_nil ?_
   subst ht6
   kernel_rfl
  refine V_ret ?_
  obtain rfl := some_inj h
  show Post _ _ _ _ _
  exact ⟨.inr rfl, rfl, rfl, rfl⟩
theorem cf_impl_Form_substitute : ∀ args w, (callFunc 101 args).run Try.prog w = .ok (.enter 101 args) w := run_callFunc Try.func101 (by kernel_rfl) (by kernel_rfl)
theorem s_impl_Form_substitute {f1 : (Int × Int × Int)} {vm2 : (Int × Int × Int × Int)} {r : (Int × Int × Int)} (h : r_impl_Form_substitute f1 vm2 = some r) : CallS Try.prog 101 [.ag [Ti f1.1, Ti f1.2.1, Ti f1.2.2], .ag [Ti vm2.1, Ti vm2.2.1, Ti vm2.2.2.1, Ti vm2.2.2.2]] (.ag [Ti r.1, Ti r.2.1, Ti r.2.2]) [] := by
  refine CallS_of_text (rs := [.w 4 3]) (vs := [.cell 4 25]) Try.func101 rfl rfl (.cons ⟨rfl, wd25⟩ FitsL.nil) (by decide) 28 rfl ?_
  unfold r_impl_Form_substitute at h
  show V _ _ ⟨.ag [Ti f1.1, Ti f1.2.1, Ti f1.2.2] :: .ag [Ti vm2.1, Ti vm2.2.1, Ti vm2.2.2.1, Ti vm2.2.2.2] :: bt 26 [], []⟩ _
  refine V_e (mb 28 28) [32, 24, 16] (s1 := ⟨.bot :: .bot :: .pt 16 0 :: .pt 24 0 :: .pt 32 0 :: bt 23 [], [(32, .box [Ti 0, Ti 0, Ti 0]), (24, .box [Ti vm2.1, Ti vm2.2.1, Ti vm2.2.2.1, Ti vm2.2.2.2]), (16, .box [Ti f1.1, Ti f1.2.1, Ti f1.2.2])]⟩) ?_
  obtain ⟨y3, hy3, h⟩ := of_bind h
  obtain ⟨y4, hy4, h⟩ := of_bind h
  obtain ⟨y5, hy5, h⟩ := of_bind h
  refine V_sdreg [0, 0, 2, 0, 8, 31, 0, 0, 128, 0, 512, 0, 2048, 0, 8192, 32767, 0, 0, 131072, 0, 524288, 2097151, 4194303, 8388607] 23 (cdm 23 [2929883521704, 2929883521666, 2929883521670, 2929883521066, 2929883521130, 2929883521365, 2929883515562, 2929883359914, 2929883376298, 2929880902314, 2929881164458, 2929841580714, 2929845775018, 2929212435114, 2929279543978, 2929525609813, 2923441072810, 2760232315562, 2777412184746, 183251937962, 458129844906, 1466015503701, 5864062014805]) (mb 28 16) [32] (s1 := ⟨bt 4 (.pt 32 0 :: bt 23 []), [(32, .box [Ti y3, Ti y4, Ti y5])]⟩) (by kernel_rfl) (by kernel_rfl) ?_ ?_
  ·refine DR 5 ?_
   refine DC 5 (s_impl_Form_at hy3) cf_impl_Form_at rfl rfl rfl rfl 10 rfl ?_
   refine DR 9 ?_
   refine DC 15 (s_impl_Form_polar hy4) cf_impl_Form_polar rfl rfl rfl rfl 20 rfl ?_
   refine DR 5 ?_
   refine DC 21 (s_impl_Form_at hy5) cf_impl_Form_at rfl rfl rfl rfl 26 rfl ?_
   refine DE_0 22 (.ag [Ti y3, Ti y4, Ti y5]) (by kernel_rfl) rfl rfl rfl (gsat_none rfl) (by kernel_rfl) (Y0_build (cs := [Ti y3, Ti y4, Ti y5]) pl25 bt25 rfl rfl (by kernel_rfl)) 27 rfl ?_
   refine DA 0 ?_
   exact XE
  refine V_ret ?_
  obtain rfl := some_inj h
  show Post _ _ _ _ _
  exact ⟨.inr rfl, rfl, rfl, rfl⟩
theorem cf_impl_sublatticeForms : ∀ args w, (callFunc 95 args).run Try.prog w = .ok (.enter 95 args) w := run_callFunc Try.func95 (by kernel_rfl) (by kernel_rfl)
theorem s_impl_sublatticeForms {f1 : (Int × Int × Int)} {p2 : Int} {r : List ((Int × Int × Int))} (h : r_impl_sublatticeForms f1 p2 = some r) : CallS Try.prog 95 [.ag [Ti f1.1, Ti f1.2.1, Ti f1.2.2], I p2] (.ow 0) [(0, .arr 25 3 (r.map c25))] := by
  refine CallS_of_text (rs := [.t 4]) (vs := [.tmp 4]) Try.func95 rfl rfl (.cons rfl FitsL.nil) (by decide) 24 rfl ?_
  unfold r_impl_sublatticeForms at h
  show V _ _ ⟨.ag [Ti f1.1, Ti f1.2.1, Ti f1.2.2] :: I p2 :: bt 22 [], []⟩ _
  refine V_sreg (mb 24 6) [16] (s1 := ⟨.bot :: I p2 :: .pt 16 0 :: bt 21 [], [(16, .box [Ti f1.1, Ti f1.2.1, Ti f1.2.2])]⟩) ?_ ?_
  ·refine XR 1 ?_
   refine L1 rfl rfl (Y1_nil (e := 25) 3 (by decide) (.inl rfl)) ?_
   exact XE
  refine V_sreg (mb 24 38) [64, 16] (s1 := ⟨.bot :: I p2 :: .pt 16 0 :: .bot :: .bot :: .ow 64 :: bt 18 [], [(64, .arr 25 3 ((([] : List ((Int × Int × Int)))).map c25)), (16, .box [Ti f1.1, Ti f1.2.1, Ti f1.2.2])]⟩) ?_ ?_
  ·refine L1 rfl rfl (Y1_bslice0 Try.underlying44 sz25 (by decide) rfl rfl) ?_
   exact XE
  refine V_seq ?_
  obtain ⟨y3, hy3, h⟩ := of_bind h
  refine V_sreg (mb 24 7204) [80, 64, 16] (s1 := ⟨.bot :: .bot :: .pt 16 0 :: .bot :: .bot :: .ow 64 :: bt 4 (.ow 80 :: I ((y3.length : Int)) :: I 0 :: bt 11 []), [(80, .arr 86 4 (y3.map c86)), (64, .arr 25 3 ((([] : List ((Int × Int × Int)))).map c25)), (16, .box [Ti f1.1, Ti f1.2.1, Ti f1.2.2])]⟩) ?_ ?_
  ·refine XR 1 ?_
   refine XC (s_impl_indexMatrices hy3) cf_impl_indexMatrices rfl rfl rfl ?_
   refine L0 rfl rfl (Y0_lenM (c := c86) (xs := y3) Try.underlying122 rfl (by kernel_rfl)) ?_
   exact XE
  obtain ⟨o7, hLo7, h⟩ := of_bind h
  refine V_toK (mb 24 32) [64] (s1 := ⟨bt 5 (.ow 64 :: bt 18 []), [(64, .arr 25 3 (o7.map c25))]⟩) ?_ ?_
  ·clear h
   refine V_block (V_loop (fun n s => ∃ (t4 : Int) (l5 : List ((Int × Int × Int))), s.keep (mb 24 7204) [80, 64, 16] = (⟨.bot :: .bot :: .pt 16 0 :: .bot :: .bot :: .ow 64 :: bt 4 (.ow 80 :: I ((y3.length : Int)) :: I t4 :: bt 11 []), [(80, .arr 86 4 (y3.map c86)), (64, .arr 25 3 (l5.map c25)), (16, .box [Ti f1.1, Ti f1.2.1, Ti f1.2.2])]⟩ : St) ∧ r_impl_sublatticeForms_L6 f1 y3 n t4 l5 = some o7) FU ⟨_, _,  by rfl, hLo7⟩ ?_)
   clear hLo7
   rintro n s ⟨t4, l5, hs, h⟩
   refine V_keep _ _ hs ?_
   clear hs
   cases n with
   | zero => cases h
   | succ n =>
    rw [r_impl_sublatticeForms_L6] at h
    refine V_e (mb 24 15396) [80, 64, 16] (s1 := ⟨.bot :: .bot :: .pt 16 0 :: .bot :: .bot :: .ow 64 :: bt 4 (.ow 80 :: I ((y3.length : Int)) :: I t4 :: Bo (ltI t4 ((y3.length : Int))) :: bt 10 []), [(80, .arr 86 4 (y3.map c86)), (64, .arr 25 3 (l5.map c25)), (16, .box [Ti f1.1, Ti f1.2.1, Ti f1.2.2])]⟩) ?_
    refine V_seq ?_
    refine V_cond rfl (fun hc8 => ?_) (fun hc8 => ?_)
    ·have h := of_true h hc8
     refine V_skip ?_
     show V _ _ _ _
     refine V_seq ?_
     refine V_block ?_
     obtain ⟨e9, he9, h⟩ := of_bind h
     obtain ⟨e10, he10, h⟩ := of_bind h
     refine V_sreg (mb 24 7332) [56, 80, 64, 16] (s1 := ⟨.bot :: .bot :: .pt 16 0 :: .bot :: .bot :: .ow 64 :: .bot :: .pt 56 0 :: .bot :: .bot :: .ow 80 :: I ((y3.length : Int)) :: I t4 :: bt 11 [], [(56, .box [Ti e10.1, Ti e10.2.1, Ti e10.2.2.1, Ti e10.2.2.2]), (80, .arr 86 4 (y3.map c86)), (64, .arr 25 3 (l5.map c25)), (16, .box [Ti f1.1, Ti f1.2.1, Ti f1.2.2])]⟩) ?_ ?_
     ·refine L0 rfl rfl (Y0_idxoM (c := c86) (xs := y3) (v := e9) (id := 80) (T := 86) (sz := 4) (n := t4) Try.underlying122 sz86 rfl (by kernel_rfl) (by kernel_rfl) (by kernel_rfl) he9) ?_
      refine L0 rfl rfl (E_loadon (c := c86) (xs := y3) (v := e10) (id := 80) (sz := 4) (T := 86) (off := 0) (n := t4) [Ti e10.1, Ti e10.2.1, Ti e10.2.2.1, Ti e10.2.2.2] wd86 rfl (by kernel_rfl) (by kernel_rfl) he10 (Nat.le_of_ble_eq_true rfl) (by kernel_rfl)) ?_
      exact XE
     obtain ⟨y11, hy11, h⟩ := of_bind h
     obtain ⟨u12, hu12, h⟩ := of_bind h
     refine V_reg (mb 24 7204) [80, 64, 16] (s1 := ⟨.bot :: .bot :: .pt 16 0 :: .bot :: .bot :: .ow 64 :: bt 4 (.ow 80 :: I ((y3.length : Int)) :: I t4 :: bt 11 []), [(80, .arr 86 4 (y3.map c86)), (64, .arr 25 3 ((l5 ++ ([y11])).map c25)), (16, .box [Ti f1.1, Ti f1.2.1, Ti f1.2.2])]⟩) ?_ ?_
     ·refine XR 3 ?_
      refine XC (s_impl_Form_substitute hy11) cf_impl_Form_substitute rfl rfl rfl ?_
      refine L1 rfl rfl (Y1_bslice (z := zv25) (els := [y11].map c25) Try.underlying44 iz25 rfl (by decide) rfl (by kernel_rfl) rfl (by simp [c25]) (by decide) (by decide)) ?_
      refine XL_cons rfl (X_appendM (c := c25) (xs := l5) (ys := [y11]) (id := 64) (z := zv25) rfl rfl Try.underlying44 izb25 rfl (by kernel_rfl) (by kernel_rfl) (by kernel_rfl) (fun _ => rfl) (by simp) (room_some hu12) (by decide)) ?_
      exact XE
     show V _ _ _ _
     obtain ⟨t13, ht13, h⟩ := of_sI h
     refine V_reg (mb 24 7204) [80, 64, 16] (s1 := ⟨.bot :: .bot :: .pt 16 0 :: .bot :: .bot :: .ow 64 :: bt 4 (.ow 80 :: I ((y3.length : Int)) :: I t13 :: bt 11 []), [(80, .arr 86 4 (y3.map c86)), (64, .arr 25 3 ((l5 ++ ([y11])).map c25)), (16, .box [Ti f1.1, Ti f1.2.1, Ti f1.2.2])]⟩) ?_ ?_
     ·refine XR 2 ?_
      refine XL_nil ?_
      subst ht13
      kernel_rfl
     exact ⟨n, Nat.lt_succ_self n, _, _,  by rfl, h⟩
    ·have h := of_false h hc8
     refine V_exit ?_
     obtain rfl := some_inj h
     show St.keep _ _ _ = _
     rfl
  show V _ _ _ _
  refine V_e (mb 24 16) [64] (s1 := ⟨bt 4 (.ow 64 :: bt 19 []), [(64, .arr 25 3 (o7.map c25))]⟩) ?_
  refine V_ret ?_
  obtain rfl := some_inj h
  show Post _ _ _ _ _
  exact ⟨.inr rfl, rfl, rfl, rfl⟩
theorem cf_impl_one : ∀ args w, (callFunc 99 args).run Try.prog w = .ok (.enter 99 args) w := run_callFunc Try.func99 (by kernel_rfl) (by kernel_rfl)
theorem s_impl_one {r : (Int × Int × Int × Int)} (h : r_impl_one = some r) : CallS Try.prog 99 [] (.ag [Ti r.1, Ti r.2.1, Ti r.2.2.1, Ti r.2.2.2]) [] := by
  refine CallS_of_text (rs := [.w 0 4]) (vs := [.cell 0 86]) Try.func99 rfl rfl (.cons ⟨rfl, wd86⟩ FitsL.nil) (by decide) 2 rfl ?_
  unfold r_impl_one at h
  show V _ _ ⟨.bot :: .bot :: [], []⟩ _
  refine V_e (mb 2 1) [0] (s1 := ⟨.pt 0 0 :: .bot :: [], [(0, .box [Ti 0, Ti 0, Ti 0, Ti 0])]⟩) ?_
  refine V_sreg (mb 2 1) [0] (s1 := ⟨.pt 0 0 :: .bot :: [], [(0, .box [Ti 1, Ti 0, Ti 0, Ti 1])]⟩) ?_ ?_
  ·refine L0 rfl rfl (Y0_build (cs := [Ti 1, Ti 0, Ti 0, Ti 1]) pl86 bt86 rfl rfl (by kernel_rfl)) ?_
   exact XE
  refine V_ret ?_
  obtain rfl := some_inj h
  show Post _ _ _ _ _
  exact ⟨.inr rfl, rfl, rfl, rfl⟩
theorem cf_impl_floorDiv : ∀ args w, (callFunc 126 args).run Try.prog w = .ok (.enter 126 args) w := run_callFunc Try.func126 (by kernel_rfl) (by kernel_rfl)
theorem s_impl_floorDiv {a1 : Int} {vm2 : Int} {r : Int} (h : r_impl_floorDiv a1 vm2 = some r) : CallS Try.prog 126 [I a1, I vm2] (I r) [] := by
  refine CallS_of_text (rs := [.t 4]) (vs := [.tmp 4]) Try.func126 rfl rfl (.cons rfl FitsL.nil) (by decide) 12 rfl ?_
  unfold r_impl_floorDiv at h
  show V _ _ ⟨I a1 :: I vm2 :: bt 10 [], []⟩ _
  refine V_e (mb 12 3) [] (s1 := ⟨I a1 :: I vm2 :: bt 10 [], []⟩) ?_
  obtain ⟨y3, hy3, h⟩ := of_bind h
  obtain ⟨z4, hz4, h⟩ := of_bind h
  obtain ⟨t5, ht5, h⟩ := of_sI h
  refine V_sreg (mb 12 16) [] (s1 := ⟨bt 4 (I t5 :: bt 7 []), []⟩) ?_ ?_
  ·refine XR 3 ?_
   refine XC (s_impl_mod hy3) cf_impl_mod rfl rfl rfl ?_
   refine XR 2 ?_
   refine L0 rfl rfl (Y0_quo64 (a := w64 (a1 - y3)) (b := vm2) rfl (by kernel_rfl) (by kernel_rfl) (nz_some hz4)) ?_
   refine XR 1 ?_
   refine XL_nil ?_
   subst ht5
   kernel_rfl
  refine V_ret ?_
  obtain rfl := some_inj h
  show Post _ _ _ _ _
  exact ⟨.inr rfl, rfl, rfl, rfl⟩
theorem cf_impl_Form_step : ∀ args w, (callFunc 100 args).run Try.prog w = .ok (.enter 100 args) w := run_callFunc Try.func100 (by kernel_rfl) (by kernel_rfl)
theorem s_impl_Form_step {f1 : (Int × Int × Int)} {r : (Int × Int × Int × Int)} (h : r_impl_Form_step f1 = some r) : CallS Try.prog 100 [.ag [Ti f1.1, Ti f1.2.1, Ti f1.2.2]] (.ag [Ti r.1, Ti r.2.1, Ti r.2.2.1, Ti r.2.2.2]) [] := by
  refine CallS_of_text (rs := [.w 2 4]) (vs := [.cell 2 86]) Try.func100 rfl rfl (.cons ⟨rfl, wd86⟩ FitsL.nil) (by decide) 22 rfl ?_
  unfold r_impl_Form_step at h
  show V _ _ ⟨.ag [Ti f1.1, Ti f1.2.1, Ti f1.2.2] :: bt 21 [], []⟩ _
  refine V_e (mb 22 6) [16, 8] (s1 := ⟨.bot :: .pt 8 0 :: .pt 16 0 :: bt 19 [], [(16, .box [Ti 0, Ti 0, Ti 0, Ti 0]), (8, .box [Ti f1.1, Ti f1.2.1, Ti f1.2.2])]⟩) ?_
  refine V_seq ?_
  refine V_block ?_
  obtain ⟨y2, hy2, h⟩ := of_bind h
  refine V_sreg (mb 22 14) [16, 8] (s1 := ⟨.bot :: .pt 8 0 :: .pt 16 0 :: Bo y2 :: bt 18 [], [(16, .box [Ti 0, Ti 0, Ti 0, Ti 0]), (8, .box [Ti f1.1, Ti f1.2.1, Ti f1.2.2])]⟩) ?_ ?_
  ·refine XR 1 ?_
   refine XC (s_impl_Form_isReduced hy2) cf_impl_Form_isReduced rfl rfl rfl ?_
   exact XE
  refine V_cond rfl (fun hc3 => ?_) (fun hc3 => ?_)
  ·have h := of_true h hc3
   obtain ⟨y4, hy4, h⟩ := of_bind h
   refine V_sreg (mb 22 4) [16] (s1 := ⟨.bot :: .bot :: .pt 16 0 :: bt 19 [], [(16, .box [Ti y4.1, Ti y4.2.1, Ti y4.2.2.1, Ti y4.2.2.2])]⟩) ?_ ?_
   ·refine XC (s_impl_one hy4) cf_impl_one rfl rfl rfl ?_
    exact XE
   refine V_ret ?_
   obtain rfl := some_inj h
   show Post _ _ _ _ _
   exact ⟨.inr rfl, rfl, rfl, rfl⟩
  ·have h := of_false h hc3
   obtain ⟨y5, hy5, h⟩ := of_bind h
   refine V_sreg (mb 22 134) [16, 8] (s1 := ⟨.bot :: .pt 8 0 :: .pt 16 0 :: bt 4 (Bo (!y5) :: bt 14 []), [(16, .box [Ti 0, Ti 0, Ti 0, Ti 0]), (8, .box [Ti f1.1, Ti f1.2.1, Ti f1.2.2])]⟩) ?_ ?_
   ·refine XR 1 ?_
    refine XC (s_impl_Form_isNormal hy5) cf_impl_Form_isNormal rfl rfl rfl ?_
    exact XE
   refine V_cond rfl (fun hc6 => ?_) (fun hc6 => ?_)
   ·have h := of_true h hc6
    obtain ⟨y7, hy7, h⟩ := of_bind h
    refine V_sreg (mb 22 4) [16] (s1 := ⟨.bot :: .bot :: .pt 16 0 :: bt 19 [], [(16, .box [Ti 1, Ti y7, Ti 0, Ti 1])]⟩) ?_ ?_
    ·refine XR 8 ?_
     refine XC (s_impl_floorDiv hy7) cf_impl_floorDiv rfl rfl rfl ?_
     refine L0 rfl rfl (Y0_build (cs := [Ti 1, Ti y7, Ti 0, Ti 1]) pl86 bt86 rfl rfl (by kernel_rfl)) ?_
     exact XE
    refine V_ret ?_
    obtain rfl := some_inj h
    show Post _ _ _ _ _
    exact ⟨.inr rfl, rfl, rfl, rfl⟩
   ·have h := of_false h hc6
    refine V_skip ?_
    show V _ _ _ _
    refine V_sreg (mb 22 4) [16] (s1 := ⟨.bot :: .bot :: .pt 16 0 :: bt 19 [], [(16, .box [Ti 0, Ti (-1), Ti 1, Ti 0])]⟩) ?_ ?_
    ·refine L0 rfl rfl (Y0_build (cs := [Ti 0, Ti (-1), Ti 1, Ti 0]) pl86 bt86 rfl rfl (by kernel_rfl)) ?_
     exact XE
    refine V_ret ?_
    obtain rfl := some_inj h
    show Post _ _ _ _ _
    exact ⟨.inr rfl, rfl, rfl, rfl⟩
theorem cf_impl_Matrix_times : ∀ args w, (callFunc 65 args).run Try.prog w = .ok (.enter 65 args) w := run_callFunc Try.func65 (by kernel_rfl) (by kernel_rfl)
theorem s_impl_Matrix_times {vm1 : (Int × Int × Int × Int)} {vn2 : (Int × Int × Int × Int)} {r : (Int × Int × Int × Int)} (h : r_impl_Matrix_times vm1 vn2 = some r) : CallS Try.prog 65 [.ag [Ti vm1.1, Ti vm1.2.1, Ti vm1.2.2.1, Ti vm1.2.2.2], .ag [Ti vn2.1, Ti vn2.2.1, Ti vn2.2.2.1, Ti vn2.2.2.2]] (.ag [Ti r.1, Ti r.2.1, Ti r.2.2.1, Ti r.2.2.2]) [] := by
  refine CallS_of_text (rs := [.w 4 4]) (vs := [.cell 4 86]) Try.func65 rfl rfl (.cons ⟨rfl, wd86⟩ FitsL.nil) (by decide) 50 rfl ?_
  unfold r_impl_Matrix_times at h
  show V _ _ ⟨.ag [Ti vm1.1, Ti vm1.2.1, Ti vm1.2.2.1, Ti vm1.2.2.2] :: .ag [Ti vn2.1, Ti vn2.2.1, Ti vn2.2.2.1, Ti vn2.2.2.2] :: bt 48 [], []⟩ _
  refine V_e (mb 50 28) [32, 24, 16] (s1 := ⟨.bot :: .bot :: .pt 16 0 :: .pt 24 0 :: .pt 32 0 :: bt 45 [], [(32, .box [Ti 0, Ti 0, Ti 0, Ti 0]), (24, .box [Ti vn2.1, Ti vn2.2.1, Ti vn2.2.2.1, Ti vn2.2.2.2]), (16, .box [Ti vm1.1, Ti vm1.2.1, Ti vm1.2.2.1, Ti vm1.2.2.2])]⟩) ?_
  obtain ⟨f3, hf3, h⟩ := of_sI h
  obtain ⟨f4, hf4, h⟩ := of_sI h
  obtain ⟨f5, hf5, h⟩ := of_sI h
  obtain ⟨f6, hf6, h⟩ := of_sI h
  refine V_sreg (mb 50 16) [32] (s1 := ⟨bt 4 (.pt 32 0 :: bt 45 []), [(32, .box [Ti f3, Ti f4, Ti f5, Ti f6])]⟩) ?_ ?_
  ·refine XR 44 ?_
   refine L0 rfl rfl (Y0_build (cs := [Ti (w64 ((w64 (vm1.1 * vn2.1)) + (w64 (vm1.2.1 * vn2.2.2.1)))), Ti (w64 ((w64 (vm1.1 * vn2.2.1)) + (w64 (vm1.2.1 * vn2.2.2.2)))), Ti (w64 ((w64 (vm1.2.2.1 * vn2.1)) + (w64 (vm1.2.2.2 * vn2.2.2.1)))), Ti (w64 ((w64 (vm1.2.2.1 * vn2.2.1)) + (w64 (vm1.2.2.2 * vn2.2.2.2))))]) pl86 bt86 rfl rfl (by kernel_rfl)) ?_
   refine XR 1 ?_
   refine XL_nil ?_
   subst hf3 hf4 hf5 hf6
   kernel_rfl
  refine V_ret ?_
  obtain rfl := some_inj h
  show Post _ _ _ _ _
  exact ⟨.inr rfl, rfl, rfl, rfl⟩
theorem cf_impl_reduce : ∀ args w, (callFunc 63 args).run Try.prog w = .ok (.enter 63 args) w := run_callFunc Try.func63 (by kernel_rfl) (by kernel_rfl)
theorem s_impl_reduce {f1 : (Int × Int × Int)} {r : (((Int × Int × Int)) × ((Int × Int × Int × Int)))} (h : r_impl_reduce f1 = some r) : CallS Try.prog 63 [.ag [Ti f1.1, Ti f1.2.1, Ti f1.2.2]] (.tc (.ag [Ti r.1.1, Ti r.1.2.1, Ti r.1.2.2]) (.tc (.ag [Ti r.2.1, Ti r.2.2.1, Ti r.2.2.2.1, Ti r.2.2.2.2]) .tn)) [] := by
  refine CallS_of_text (rs := [.w 2 3, .w 3 4]) (vs := [.cell 2 25, .cell 3 86]) Try.func63 rfl rfl (.cons ⟨rfl, wd25⟩ (.cons ⟨rfl, wd86⟩ FitsL.nil)) (by decide) 20 rfl ?_
  unfold r_impl_reduce at h
  show V _ _ ⟨.ag [Ti f1.1, Ti f1.2.1, Ti f1.2.2] :: bt 19 [], []⟩ _
  refine V_e (mb 20 14) [24, 16, 8] (s1 := ⟨.bot :: .pt 8 0 :: .pt 16 0 :: .pt 24 0 :: bt 16 [], [(24, .box [Ti 0, Ti 0, Ti 0, Ti 0]), (16, .box [Ti 0, Ti 0, Ti 0]), (8, .box [Ti f1.1, Ti f1.2.1, Ti f1.2.2])]⟩) ?_
  obtain ⟨y2, hy2, h⟩ := of_bind h
  refine V_sreg (mb 20 30) [32, 24, 16, 8] (s1 := ⟨.bot :: .pt 8 0 :: .pt 16 0 :: .pt 24 0 :: .pt 32 0 :: bt 15 [], [(32, .box [Ti y2.1, Ti y2.2.1, Ti y2.2.2.1, Ti y2.2.2.2]), (24, .box [Ti 0, Ti 0, Ti 0, Ti 0]), (16, .box [Ti 0, Ti 0, Ti 0]), (8, .box [Ti f1.1, Ti f1.2.1, Ti f1.2.2])]⟩) ?_ ?_
  ·refine XC (s_impl_one hy2) cf_impl_one rfl rfl rfl ?_
   exact XE
  refine V_seq ?_
  obtain ⟨o11, hLo11, h⟩ := of_bind h
  refine V_toK (mb 20 30) [32, 24, 16, 8] (s1 := ⟨.bot :: .pt 8 0 :: .pt 16 0 :: .pt 24 0 :: .pt 32 0 :: bt 15 [], [(32, .box [Ti o11.1, Ti o11.2.1, Ti o11.2.2.1, Ti o11.2.2.2.1]), (24, .box [Ti 0, Ti 0, Ti 0, Ti 0]), (16, .box [Ti 0, Ti 0, Ti 0]), (8, .box [Ti o11.2.2.2.2.1, Ti o11.2.2.2.2.2.1, Ti o11.2.2.2.2.2.2])]⟩) ?_ ?_
  ·clear h
   refine V_block (V_loop (fun n s => ∃ (f3 : Int) (f4 : Int) (f5 : Int) (f6 : Int) (f7 : Int) (f8 : Int) (f9 : Int), s.keep (mb 20 30) [32, 24, 16, 8] = (⟨.bot :: .pt 8 0 :: .pt 16 0 :: .pt 24 0 :: .pt 32 0 :: bt 15 [], [(32, .box [Ti f3, Ti f4, Ti f5, Ti f6]), (24, .box [Ti 0, Ti 0, Ti 0, Ti 0]), (16, .box [Ti 0, Ti 0, Ti 0]), (8, .box [Ti f7, Ti f8, Ti f9])]⟩ : St) ∧ r_impl_reduce_L10 n f3 f4 f5 f6 f7 f8 f9 = some o11) FU ⟨_, _, _, _, _, _, _,  by rfl, hLo11⟩ ?_)
   clear hLo11
   rintro n s ⟨f3, f4, f5, f6, f7, f8, f9, hs, h⟩
   refine V_keep _ _ hs ?_
   clear hs
   cases n with
   | zero => cases h
   | succ n =>
    rw [r_impl_reduce_L10] at h
    refine V_seq ?_
    obtain ⟨y12, hy12, h⟩ := of_bind h
    refine V_sreg (mb 20 542) [32, 24, 16, 8] (s1 := ⟨.bot :: .pt 8 0 :: .pt 16 0 :: .pt 24 0 :: .pt 32 0 :: bt 4 (Bo (!y12) :: bt 10 []), [(32, .box [Ti f3, Ti f4, Ti f5, Ti f6]), (24, .box [Ti 0, Ti 0, Ti 0, Ti 0]), (16, .box [Ti 0, Ti 0, Ti 0]), (8, .box [Ti f7, Ti f8, Ti f9])]⟩) ?_ ?_
    ·refine XR 1 ?_
     refine XC (s_impl_Form_isReduced hy12) cf_impl_Form_isReduced rfl rfl rfl ?_
     exact XE
    refine V_cond rfl (fun hc13 => ?_) (fun hc13 => ?_)
    ·have h := of_true h hc13
     refine V_skip ?_
     show V _ _ _ _
     refine V_block ?_
     obtain ⟨y14, hy14, h⟩ := of_bind h
     refine V_sreg (mb 20 62) [40, 32, 24, 16, 8] (s1 := ⟨.bot :: .pt 8 0 :: .pt 16 0 :: .pt 24 0 :: .pt 32 0 :: .pt 40 0 :: bt 14 [], [(40, .box [Ti y14.1, Ti y14.2.1, Ti y14.2.2.1, Ti y14.2.2.2]), (32, .box [Ti f3, Ti f4, Ti f5, Ti f6]), (24, .box [Ti 0, Ti 0, Ti 0, Ti 0]), (16, .box [Ti 0, Ti 0, Ti 0]), (8, .box [Ti f7, Ti f8, Ti f9])]⟩) ?_ ?_
     ·refine XR 1 ?_
      refine XC (s_impl_Form_step hy14) cf_impl_Form_step rfl rfl rfl ?_
      exact XE
     obtain ⟨y15, hy15, h⟩ := of_bind h
     refine V_sreg (mb 20 62) [40, 32, 24, 16, 8] (s1 := ⟨.bot :: .pt 8 0 :: .pt 16 0 :: .pt 24 0 :: .pt 32 0 :: .pt 40 0 :: bt 14 [], [(40, .box [Ti y14.1, Ti y14.2.1, Ti y14.2.2.1, Ti y14.2.2.2]), (32, .box [Ti f3, Ti f4, Ti f5, Ti f6]), (24, .box [Ti 0, Ti 0, Ti 0, Ti 0]), (16, .box [Ti 0, Ti 0, Ti 0]), (8, .box [Ti y15.1, Ti y15.2.1, Ti y15.2.2])]⟩) ?_ ?_
     ·refine XR 2 ?_
      refine XC (s_impl_Form_substitute hy15) cf_impl_Form_substitute rfl rfl rfl ?_
      exact XE
     obtain ⟨y16, hy16, h⟩ := of_bind h
     refine V_reg (mb 20 30) [32, 24, 16, 8] (s1 := ⟨.bot :: .pt 8 0 :: .pt 16 0 :: .pt 24 0 :: .pt 32 0 :: bt 15 [], [(32, .box [Ti y16.1, Ti y16.2.1, Ti y16.2.2.1, Ti y16.2.2.2]), (24, .box [Ti 0, Ti 0, Ti 0, Ti 0]), (16, .box [Ti 0, Ti 0, Ti 0]), (8, .box [Ti y15.1, Ti y15.2.1, Ti y15.2.2])]⟩) ?_ ?_
     ·refine XR 2 ?_
      refine XC (s_impl_Matrix_times hy16) cf_impl_Matrix_times rfl rfl rfl ?_
      exact XE
     exact ⟨n, Nat.lt_succ_self n, _, _, _, _, _, _, _,  by rfl, h⟩
    ·have h := of_false h hc13
     refine V_exit ?_
     obtain rfl := some_inj h
     show St.keep _ _ _ = _
     rfl
  show V _ _ _ _
  refine V_sdreg [0, 0, 1, 7] 3 [[.z, .b, .z], [.b, .z, .r 16], [.a, .b, .z]] (mb 20 12) [24, 16] (s1 := ⟨.bot :: .bot :: .pt 16 0 :: .pt 24 0 :: bt 16 [], [(24, .box [Ti o11.1, Ti o11.2.1, Ti o11.2.2.1, Ti o11.2.2.2.1]), (16, .box [Ti o11.2.2.2.2.1, Ti o11.2.2.2.2.2.1, Ti o11.2.2.2.2.2.2])]⟩) (by kernel_rfl) (by kernel_rfl) ?_ ?_
  ·refine DA 3 ?_
   exact XE
  refine V_ret ?_
  obtain rfl := some_inj h
  show Post _ _ _ _ _
  exact ⟨.inr rfl, rfl, rfl, rfl⟩
theorem cf_impl_reduced : ∀ args w, (callFunc 37 args).run Try.prog w = .ok (.enter 37 args) w := run_callFunc Try.func37 (by kernel_rfl) (by kernel_rfl)
theorem s_impl_reduced {f1 : (Int × Int × Int)} {r : (Int × Int × Int)} (h : r_impl_reduced f1 = some r) : CallS Try.prog 37 [.ag [Ti f1.1, Ti f1.2.1, Ti f1.2.2]] (.ag [Ti r.1, Ti r.2.1, Ti r.2.2]) [] := by
  refine CallS_of_text (rs := [.w 2 3]) (vs := [.cell 2 25]) Try.func37 rfl rfl (.cons ⟨rfl, wd25⟩ FitsL.nil) (by decide) 11 rfl ?_
  unfold r_impl_reduced at h
  show V _ _ ⟨.ag [Ti f1.1, Ti f1.2.1, Ti f1.2.2] :: bt 10 [], []⟩ _
  refine V_e (mb 11 6) [16, 8] (s1 := ⟨.bot :: .pt 8 0 :: .pt 16 0 :: bt 8 [], [(16, .box [Ti 0, Ti 0, Ti 0]), (8, .box [Ti f1.1, Ti f1.2.1, Ti f1.2.2])]⟩) ?_
  obtain ⟨y2, hy2, h⟩ := of_bind h
  refine V_sreg (mb 11 12) [24, 16] (s1 := ⟨.bot :: .bot :: .pt 16 0 :: .pt 24 0 :: bt 7 [], [(24, .box [Ti y2.1.1, Ti y2.1.2.1, Ti y2.1.2.2]), (16, .box [Ti 0, Ti 0, Ti 0])]⟩) ?_ ?_
  ·refine XR 1 ?_
   refine XC (s_impl_reduce hy2) cf_impl_reduce rfl rfl rfl ?_
   exact XE
  refine V_e (mb 11 4) [16] (s1 := ⟨.bot :: .bot :: .pt 16 0 :: bt 8 [], [(16, .box [Ti y2.1.1, Ti y2.1.2.1, Ti y2.1.2.2])]⟩) ?_
  refine V_ret ?_
  obtain rfl := some_inj h
  show Post _ _ _ _ _
  exact ⟨.inr rfl, rfl, rfl, rfl⟩
theorem cf_impl_neighbours : ∀ args w, (callFunc 56 args).run Try.prog w = .ok (.enter 56 args) w := run_callFunc Try.func56 (by kernel_rfl) (by kernel_rfl)
theorem s_impl_neighbours {f1 : (Int × Int × Int)} {p2 : Int} {r : List ((Int × Int × Int))} (h : r_impl_neighbours f1 p2 = some r) : CallS Try.prog 56 [.ag [Ti f1.1, Ti f1.2.1, Ti f1.2.2], I p2] (.ow 0) [(0, .arr 25 3 (r.map c25))] := by
  refine CallS_of_text (rs := [.t 4]) (vs := [.tmp 4]) Try.func56 rfl rfl (.cons rfl FitsL.nil) (by decide) 40 rfl ?_
  unfold r_impl_neighbours at h
  show V _ _ ⟨.ag [Ti f1.1, Ti f1.2.1, Ti f1.2.2] :: I p2 :: bt 38 [], []⟩ _
  refine V_sreg (mb 40 6) [16] (s1 := ⟨.bot :: I p2 :: .pt 16 0 :: bt 37 [], [(16, .box [Ti f1.1, Ti f1.2.1, Ti f1.2.2])]⟩) ?_ ?_
  ·refine XR 1 ?_
   refine L1 rfl rfl (Y1_nil (e := 25) 3 (by decide) (.inl rfl)) ?_
   exact XE
  refine V_sreg (mb 40 38) [64, 16] (s1 := ⟨.bot :: I p2 :: .pt 16 0 :: .bot :: .bot :: .ow 64 :: bt 34 [], [(64, .arr 25 3 ((([] : List ((Int × Int × Int)))).map c25)), (16, .box [Ti f1.1, Ti f1.2.1, Ti f1.2.2])]⟩) ?_ ?_
  ·refine L1 rfl rfl (Y1_bslice0 Try.underlying44 sz25 (by decide) rfl rfl) ?_
   exact XE
  refine V_seq ?_
  obtain ⟨y3, hy3, h⟩ := of_bind h
  refine V_sreg (mb 40 14370) [88, 64] (s1 := ⟨.bot :: I p2 :: bt 3 (.ow 64 :: bt 5 (.ow 88 :: I ((y3.length : Int)) :: I 0 :: bt 26 [])), [(88, .arr 25 3 (y3.map c25)), (64, .arr 25 3 ((([] : List ((Int × Int × Int)))).map c25))]⟩) ?_ ?_
  ·refine XR 2 ?_
   refine XC (s_impl_sublatticeForms hy3) cf_impl_sublatticeForms rfl rfl rfl ?_
   refine L0 rfl rfl (Y0_lenM (c := c25) (xs := y3) Try.underlying44 rfl (by kernel_rfl)) ?_
   exact XE
  obtain ⟨o7, hLo7, h⟩ := of_bind h
  refine V_toK (mb 40 32) [64] (s1 := ⟨bt 5 (.ow 64 :: bt 34 []), [(64, .arr 25 3 (o7.map c25))]⟩) ?_ ?_
  ·clear h
   refine V_block (V_loop (fun n s => ∃ (t4 : Int) (l5 : List ((Int × Int × Int))), s.keep (mb 40 14370) [88, 64] = (⟨.bot :: I p2 :: bt 3 (.ow 64 :: bt 5 (.ow 88 :: I ((y3.length : Int)) :: I t4 :: bt 26 [])), [(88, .arr 25 3 (y3.map c25)), (64, .arr 25 3 (l5.map c25))]⟩ : St) ∧ r_impl_neighbours_L6 p2 y3 n t4 l5 = some o7) FU ⟨_, _,  by rfl, hLo7⟩ ?_)
   clear hLo7
   rintro n s ⟨t4, l5, hs, h⟩
   refine V_keep _ _ hs ?_
   clear hs
   cases n with
   | zero => cases h
   | succ n =>
    rw [r_impl_neighbours_L6] at h
    refine V_e (mb 40 30754) [88, 64] (s1 := ⟨.bot :: I p2 :: bt 3 (.ow 64 :: bt 5 (.ow 88 :: I ((y3.length : Int)) :: I t4 :: Bo (ltI t4 ((y3.length : Int))) :: bt 25 [])), [(88, .arr 25 3 (y3.map c25)), (64, .arr 25 3 (l5.map c25))]⟩) ?_
    refine V_seq ?_
    refine V_cond rfl (fun hc8 => ?_) (fun hc8 => ?_)
    ·have h := of_true h hc8
     refine V_skip ?_
     show V _ _ _ _
     refine V_seq ?_
     refine V_block ?_
     obtain ⟨e9, he9, h⟩ := of_bind h
     obtain ⟨e10, he10, h⟩ := of_bind h
     refine V_sreg (mb 40 14498) [56, 88, 64] (s1 := ⟨.bot :: I p2 :: bt 3 (.ow 64 :: .bot :: .pt 56 0 :: bt 3 (.ow 88 :: I ((y3.length : Int)) :: I t4 :: bt 26 [])), [(56, .box [Ti e10.1, Ti e10.2.1, Ti e10.2.2]), (88, .arr 25 3 (y3.map c25)), (64, .arr 25 3 (l5.map c25))]⟩) ?_ ?_
     ·refine L0 rfl rfl (Y0_idxoM (c := c25) (xs := y3) (v := e9) (id := 88) (T := 25) (sz := 3) (n := t4) Try.underlying44 sz25 rfl (by kernel_rfl) (by kernel_rfl) (by kernel_rfl) he9) ?_
      refine L0 rfl rfl (E_loadon (c := c25) (xs := y3) (v := e10) (id := 88) (sz := 3) (T := 25) (off := 0) (n := t4) [Ti e10.1, Ti e10.2.1, Ti e10.2.2] wd25 rfl (by kernel_rfl) (by kernel_rfl) he10 (Nat.le_of_ble_eq_true rfl) (by kernel_rfl)) ?_
      exact XE
     obtain ⟨y11, hy11, h⟩ := of_bind h
     refine V_sreg (mb 40 1063074) [56, 88, 64] (s1 := ⟨.bot :: I p2 :: bt 3 (.ow 64 :: .bot :: .pt 56 0 :: bt 3 (.ow 88 :: I ((y3.length : Int)) :: I t4 :: bt 6 (Bo (eqI y11 p2) :: bt 19 []))), [(56, .box [Ti e10.1, Ti e10.2.1, Ti e10.2.2]), (88, .arr 25 3 (y3.map c25)), (64, .arr 25 3 (l5.map c25))]⟩) ?_ ?_
     ·refine XR 1 ?_
      refine XC (s_impl_Form_content hy11) cf_impl_Form_content rfl rfl rfl ?_
      exact XE
     refine V_cond rfl (fun hc12 => ?_) (fun hc12 => ?_)
     ·have h := of_true h hc12
      obtain ⟨z13, hz13, h⟩ := of_bind h
      obtain ⟨z14, hz14, h⟩ := of_bind h
      obtain ⟨z15, hz15, h⟩ := of_bind h
      obtain ⟨y16, hy16, h⟩ := of_bind h
      obtain ⟨u17, hu17, h⟩ := of_bind h
      refine V_dreg [0, 0, 2, 0, 14, 0, 32, 0, 224, 0, 512, 0, 3584, 8190, 16382, 32766, 65535, 131071] 16 (cdm 16 [2863311528, 44738690, 44738694, 44738602, 44738646, 44597930, 44598954, 44575402, 44586666, 8563370, 8825514, 2796202, 5679786, 22369622, 89478486, 357913942]) (mb 40 14370) [88, 64] (s1 := ⟨.bot :: I p2 :: bt 3 (.ow 64 :: bt 5 (.ow 88 :: I ((y3.length : Int)) :: I t4 :: bt 26 [])), [(88, .arr 25 3 (y3.map c25)), (64, .arr 25 3 ((l5 ++ ([y16])).map c25))]⟩) (by kernel_rfl) (by kernel_rfl) ?_ ?_
      ·refine DR 4 ?_
       refine DE_0 4 (I (w64 (Int.tdiv e10.1 p2))) (by kernel_rfl) rfl rfl rfl (gsat_none rfl) (by kernel_rfl) (Y0_quo64 (a := e10.1) (b := p2) rfl (by kernel_rfl) (by kernel_rfl) (nz_some hz13)) 25 rfl ?_
       refine DR 3 ?_
       refine DE_0 8 (I (w64 (Int.tdiv e10.2.1 p2))) (by kernel_rfl) rfl rfl rfl (gsat_none rfl) (by kernel_rfl) (Y0_quo64 (a := e10.2.1) (b := p2) rfl (by kernel_rfl) (by kernel_rfl) (nz_some hz14)) 29 rfl ?_
       refine DR 3 ?_
       refine DE_0 12 (I (w64 (Int.tdiv e10.2.2 p2))) (by kernel_rfl) rfl rfl rfl (gsat_none rfl) (by kernel_rfl) (Y0_quo64 (a := e10.2.2) (b := p2) rfl (by kernel_rfl) (by kernel_rfl) (nz_some hz15)) 33 rfl ?_
       refine DE_0 13 (.ag [Ti (w64 (Int.tdiv e10.1 p2)), Ti (w64 (Int.tdiv e10.2.1 p2)), Ti (w64 (Int.tdiv e10.2.2 p2))]) (by kernel_rfl) rfl rfl rfl (gsat_none rfl) (by kernel_rfl) (Y0_build (cs := [Ti (w64 (Int.tdiv e10.1 p2)), Ti (w64 (Int.tdiv e10.2.1 p2)), Ti (w64 (Int.tdiv e10.2.2 p2))]) pl25 bt25 rfl rfl (by kernel_rfl)) 34 rfl ?_
       refine DC 14 (s_impl_reduced hy16) cf_impl_reduced rfl rfl rfl rfl 35 rfl ?_
       refine DE_1 15 (by kernel_rfl) rfl rfl rfl (gsat_none rfl) (Y1_bslice (z := zv25) (els := [y16].map c25) Try.underlying44 iz25 rfl (by decide) rfl (by kernel_rfl) rfl (by simp [c25]) (by decide) (by decide)) rfl rfl rfl 36 rfl ?_
       refine DA 0 ?_
       refine XL_cons rfl (X_appendM (c := c25) (xs := l5) (ys := [y16]) (id := 64) (z := zv25) rfl rfl Try.underlying44 izb25 rfl (by kernel_rfl) (by kernel_rfl) (by kernel_rfl) (fun _ => rfl) (by simp) (room_some hu17) (by decide)) ?_
       exact XE
      show V _ _ _ _
      obtain ⟨t18, ht18, h⟩ := of_sI h
      refine V_reg (mb 40 14370) [88, 64] (s1 := ⟨.bot :: I p2 :: bt 3 (.ow 64 :: bt 5 (.ow 88 :: I ((y3.length : Int)) :: I t18 :: bt 26 [])), [(88, .arr 25 3 (y3.map c25)), (64, .arr 25 3 ((l5 ++ ([y16])).map c25))]⟩) ?_ ?_
      ·refine XR 2 ?_
       refine XL_nil ?_
       subst ht18
       kernel_rfl
      exact ⟨n, Nat.lt_succ_self n, _, _,  by rfl, h⟩
     ·have h := of_false h hc12
      refine V_skip ?_
      show V _ _ _ _
      obtain ⟨t19, ht19, h⟩ := of_sI h
      refine V_reg (mb 40 14370) [88, 64] (s1 := ⟨.bot :: I p2 :: bt 3 (.ow 64 :: bt 5 (.ow 88 :: I ((y3.length : Int)) :: I t19 :: bt 26 [])), [(88, .arr 25 3 (y3.map c25)), (64, .arr 25 3 (l5.map c25))]⟩) ?_ ?_
      ·refine XR 2 ?_
       refine XL_nil ?_
       subst ht19
       kernel_rfl
      exact ⟨n, Nat.lt_succ_self n, _, _,  by rfl, h⟩
    ·have h := of_false h hc8
     refine V_exit ?_
     obtain rfl := some_inj h
     show St.keep _ _ _ = _
     rfl
  show V _ _ _ _
  refine V_e (mb 40 16) [64] (s1 := ⟨bt 4 (.ow 64 :: bt 35 []), [(64, .arr 25 3 (o7.map c25))]⟩) ?_
  refine V_ret ?_
  obtain rfl := some_inj h
  show Post _ _ _ _ _
  exact ⟨.inr rfl, rfl, rfl, rfl⟩
theorem cf_impl_neighbourMatrix : ∀ args w, (callFunc 49 args).run Try.prog w = .ok (.enter 49 args) w := run_callFunc Try.func49 (by kernel_rfl) (by kernel_rfl)
theorem s_impl_neighbourMatrix {d1 : Int} {p2 : Int} {r : List (List Int)} (h : r_impl_neighbourMatrix d1 p2 = some r) : CallS Try.prog 49 [I d1, I p2] (.ow 0) [(0, .arr 47 1 (r.map c47))] := by
  refine CallS_of_text (rs := [.t 4]) (vs := [.tmp 4]) Try.func49 rfl rfl (.cons rfl FitsL.nil) (by decide) 56 rfl ?_
  unfold r_impl_neighbourMatrix at h
  show V _ _ ⟨I d1 :: I p2 :: bt 54 [], []⟩ _
  refine V_sreg (mb 56 3) [] (s1 := ⟨I d1 :: I p2 :: bt 54 [], []⟩) ?_ ?_
  ·refine L1 rfl rfl (Y1_nil (e := 47) 1 (by decide) (.inl rfl)) ?_
   exact XE
  obtain ⟨y3, hy3, h⟩ := of_bind h
  refine V_sreg (mb 56 34) [] (s1 := ⟨.bot :: I p2 :: bt 3 (.pe [.sl (y3.1.map c25), .mp (y3.2.map kv78)] :: bt 50 []), []⟩) ?_ ?_
  ·refine XR 1 ?_
   refine XC (s_impl_groupOf hy3) cf_impl_groupOf rfl rfl rfl ?_
   exact XE
  refine V_sreg (mb 56 98) [112] (s1 := ⟨.bot :: I p2 :: bt 3 (.pe [.sl (y3.1.map c25), .mp (y3.2.map kv78)] :: .ow 112 :: bt 49 []), [(112, .arr 47 1 ((([] : List (List Int))).map c47))]⟩) ?_ ?_
  ·refine L1 rfl rfl (Y1_bslice0 Try.underlying39 sz47 (by decide) rfl rfl) ?_
   exact XE
  refine V_seq ?_
  refine V_sreg (mb 56 1835106) [112] (s1 := ⟨.bot :: I p2 :: bt 3 (.pe [.sl (y3.1.map c25), .mp (y3.2.map kv78)] :: .ow 112 :: bt 11 (.c (.sl (y3.1.map c25)) :: I ((y3.1.length : Int)) :: I 0 :: bt 35 [])), [(112, .arr 47 1 ((([] : List (List Int))).map c47))]⟩) ?_ ?_
  ·refine XR 1 ?_
   refine L0 rfl rfl (E_nil (.pe [.sl (y3.1.map c25), .mp (y3.2.map kv78)]) rfl (by kernel_rfl) (by intro hh; cases hh)) ?_
   refine XR 2 ?_
   refine L0 rfl rfl (Y0_lenM (c := c25) (xs := y3.1) Try.underlying44 rfl (by kernel_rfl)) ?_
   exact XE
  obtain ⟨o7, hLo7, h⟩ := of_bind h
  refine V_toK (mb 56 64) [112] (s1 := ⟨bt 6 (.ow 112 :: bt 49 []), [(112, .arr 47 1 (o7.map c47))]⟩) ?_ ?_
  ·clear h
   refine V_block (V_loop (fun n s => ∃ (t4 : Int) (l5 : List (List Int)), s.keep (mb 56 1835106) [112] = (⟨.bot :: I p2 :: bt 3 (.pe [.sl (y3.1.map c25), .mp (y3.2.map kv78)] :: .ow 112 :: bt 11 (.c (.sl (y3.1.map c25)) :: I ((y3.1.length : Int)) :: I t4 :: bt 35 [])), [(112, .arr 47 1 (l5.map c47))]⟩ : St) ∧ r_impl_neighbourMatrix_L6 p2 y3 n t4 l5 = some o7) FU ⟨_, _,  by rfl, hLo7⟩ ?_)
   clear hLo7
   rintro n s ⟨t4, l5, hs, h⟩
   refine V_keep _ _ hs ?_
   clear hs
   cases n with
   | zero => cases h
   | succ n =>
    rw [r_impl_neighbourMatrix_L6] at h
    refine V_e (mb 56 3932258) [112] (s1 := ⟨.bot :: I p2 :: bt 3 (.pe [.sl (y3.1.map c25), .mp (y3.2.map kv78)] :: .ow 112 :: bt 11 (.c (.sl (y3.1.map c25)) :: I ((y3.1.length : Int)) :: I t4 :: Bo (ltI t4 ((y3.1.length : Int))) :: bt 34 [])), [(112, .arr 47 1 (l5.map c47))]⟩) ?_
    refine V_seq ?_
    refine V_cond rfl (fun hc8 => ?_) (fun hc8 => ?_)
    ·have h := of_true h hc8
     refine V_skip ?_
     show V _ _ _ _
     refine V_seq ?_
     refine V_block ?_
     obtain ⟨e9, he9, h⟩ := of_bind h
     refine V_sreg (mb 56 1835362) [64, 112] (s1 := ⟨.bot :: I p2 :: bt 3 (.pe [.sl (y3.1.map c25), .mp (y3.2.map kv78)] :: .ow 112 :: .bot :: .pt 64 0 :: bt 9 (.c (.sl (y3.1.map c25)) :: I ((y3.1.length : Int)) :: I t4 :: bt 35 [])), [(64, .box [Ti e9.1, Ti e9.2.1, Ti e9.2.2]), (112, .arr 47 1 (l5.map c47))]⟩) ?_ ?_
     ·refine L0 rfl rfl (Y0_idxM (c := c25) (xs := y3.1) (v := e9) (n := t4) Try.underlying44 sz25 rfl (by kernel_rfl) (by kernel_rfl) he9) ?_
      exact XE
     obtain ⟨u10, hu10, h⟩ := of_bind h
     refine V_sreg (mb 56 1835874) [232, 64, 112] (s1 := ⟨.bot :: I p2 :: bt 3 (.pe [.sl (y3.1.map c25), .mp (y3.2.map kv78)] :: .ow 112 :: .bot :: .pt 64 0 :: .ow 232 :: bt 8 (.c (.sl (y3.1.map c25)) :: I ((y3.1.length : Int)) :: I t4 :: bt 35 [])), [(232, .arr 3 1 ((List.replicate (Int.toNat ((y3.1.length : Int))) ((0 : Int))).map c3)), (64, .box [Ti e9.1, Ti e9.2.1, Ti e9.2.2]), (112, .arr 47 1 (l5.map c47))]⟩) ?_ ?_
     ·refine XR 1 ?_
      refine L0 rfl rfl (E_nil (.pe [.sl (y3.1.map c25), .mp (y3.2.map kv78)]) rfl (by kernel_rfl) (by intro hh; cases hh)) ?_
      refine XR 2 ?_
      refine L0 rfl rfl (Y0_lenM (c := c25) (xs := y3.1) Try.underlying44 rfl (by kernel_rfl)) ?_
      refine L1 rfl rfl (Y1_make (c := c3) (zx := (0 : Int)) (z := zv3) (l := (y3.1.length : Int)) (k := (y3.1.length : Int)) Try.underlying47 izb3 rfl rfl (by decide) rfl rfl (by kernel_rfl) (by kernel_rfl) (mk_some hu10) (by decide)) ?_
      exact XE
     refine V_seq ?_
     obtain ⟨y11, hy11, h⟩ := of_bind h
     refine V_sreg (mb 56 30066606690) [256, 232, 112] (s1 := ⟨.bot :: I p2 :: bt 3 (.pe [.sl (y3.1.map c25), .mp (y3.2.map kv78)] :: .ow 112 :: .bot :: .bot :: .ow 232 :: bt 8 (.c (.sl (y3.1.map c25)) :: I ((y3.1.length : Int)) :: I t4 :: bt 11 (.ow 256 :: I ((y11.length : Int)) :: I 0 :: bt 21 []))), [(256, .arr 25 3 (y11.map c25)), (232, .arr 3 1 ((List.replicate (Int.toNat ((y3.1.length : Int))) ((0 : Int))).map c3)), (112, .arr 47 1 (l5.map c47))]⟩) ?_ ?_
     ·refine XR 2 ?_
      refine XC (s_impl_neighbours hy11) cf_impl_neighbours rfl rfl rfl ?_
      refine L0 rfl rfl (Y0_lenM (c := c25) (xs := y11) Try.underlying44 rfl (by kernel_rfl)) ?_
      exact XE
     obtain ⟨o15, hLo15, h⟩ := of_bind h
     refine V_toK (mb 56 1835618) [232, 112] (s1 := ⟨.bot :: I p2 :: bt 3 (.pe [.sl (y3.1.map c25), .mp (y3.2.map kv78)] :: .ow 112 :: .bot :: .bot :: .ow 232 :: bt 8 (.c (.sl (y3.1.map c25)) :: I ((y3.1.length : Int)) :: I t4 :: bt 35 [])), [(232, .arr 3 1 (o15.map c3)), (112, .arr 47 1 (l5.map c47))]⟩) ?_ ?_
     ·clear h
      refine V_block (V_loop (fun n s => ∃ (t12 : Int) (l13 : List Int), s.keep (mb 56 30066606690) [256, 232, 112] = (⟨.bot :: I p2 :: bt 3 (.pe [.sl (y3.1.map c25), .mp (y3.2.map kv78)] :: .ow 112 :: .bot :: .bot :: .ow 232 :: bt 8 (.c (.sl (y3.1.map c25)) :: I ((y3.1.length : Int)) :: I t4 :: bt 11 (.ow 256 :: I ((y11.length : Int)) :: I t12 :: bt 21 []))), [(256, .arr 25 3 (y11.map c25)), (232, .arr 3 1 (l13.map c3)), (112, .arr 47 1 (l5.map c47))]⟩ : St) ∧ r_impl_neighbourMatrix_L14 l5 p2 t4 y11 y3 n t12 l13 = some o15) FU ⟨_, _,  by rfl, hLo15⟩ ?_)
      clear hLo15
      rintro n s ⟨t12, l13, hs, h⟩
      refine V_keep _ _ hs ?_
      clear hs
      cases n with
      | zero => cases h
      | succ n =>
       rw [r_impl_neighbourMatrix_L14] at h
       refine V_e (mb 56 64426345058) [256, 232, 112] (s1 := ⟨.bot :: I p2 :: bt 3 (.pe [.sl (y3.1.map c25), .mp (y3.2.map kv78)] :: .ow 112 :: .bot :: .bot :: .ow 232 :: bt 8 (.c (.sl (y3.1.map c25)) :: I ((y3.1.length : Int)) :: I t4 :: bt 11 (.ow 256 :: I ((y11.length : Int)) :: I t12 :: Bo (ltI t12 ((y11.length : Int))) :: bt 20 []))), [(256, .arr 25 3 (y11.map c25)), (232, .arr 3 1 (l13.map c3)), (112, .arr 47 1 (l5.map c47))]⟩) ?_
       refine V_seq ?_
       refine V_cond rfl (fun hc16 => ?_) (fun hc16 => ?_)
       ·have h := of_true h hc16
        refine V_skip ?_
        show V _ _ _ _
        refine V_seq ?_
        refine V_block ?_
        obtain ⟨e17, he17, h⟩ := of_bind h
        obtain ⟨e18, he18, h⟩ := of_bind h
        refine V_sreg (mb 56 30066608738) [88, 256, 232, 112] (s1 := ⟨.bot :: I p2 :: bt 3 (.pe [.sl (y3.1.map c25), .mp (y3.2.map kv78)] :: .ow 112 :: .bot :: .bot :: .ow 232 :: .bot :: .pt 88 0 :: bt 6 (.c (.sl (y3.1.map c25)) :: I ((y3.1.length : Int)) :: I t4 :: bt 11 (.ow 256 :: I ((y11.length : Int)) :: I t12 :: bt 21 []))), [(88, .box [Ti e18.1, Ti e18.2.1, Ti e18.2.2]), (256, .arr 25 3 (y11.map c25)), (232, .arr 3 1 (l13.map c3)), (112, .arr 47 1 (l5.map c47))]⟩) ?_ ?_
        ·refine L0 rfl rfl (Y0_idxoM (c := c25) (xs := y11) (v := e17) (id := 256) (T := 25) (sz := 3) (n := t12) Try.underlying44 sz25 rfl (by kernel_rfl) (by kernel_rfl) (by kernel_rfl) he17) ?_
         refine L0 rfl rfl (E_loadon (c := c25) (xs := y11) (v := e18) (id := 256) (sz := 3) (T := 25) (off := 0) (n := t12) [Ti e18.1, Ti e18.2.1, Ti e18.2.2] wd25 rfl (by kernel_rfl) (by kernel_rfl) he18 (Nat.le_of_ble_eq_true rfl) (by kernel_rfl)) ?_
         exact XE
        obtain ⟨e19, he19, h⟩ := of_bind h
        obtain ⟨e20, he20, h⟩ := of_bind h
        obtain ⟨e21, he21, h⟩ := of_bind h
        obtain ⟨e22, he22, h⟩ := of_bind h
        refine V_dreg [0, 0, 2, 6, 14, 0, 62, 127, 255, 511, 1023, 2047] 11 (cdm 11 [10920, 2050, 2054, 2070, 2134, 682, 1366, 5461, 21845, 87381, 349525]) (mb 56 30066606690) [256, 232, 112] (s1 := ⟨.bot :: I p2 :: bt 3 (.pe [.sl (y3.1.map c25), .mp (y3.2.map kv78)] :: .ow 112 :: .bot :: .bot :: .ow 232 :: bt 8 (.c (.sl (y3.1.map c25)) :: I ((y3.1.length : Int)) :: I t4 :: bt 11 (.ow 256 :: I ((y11.length : Int)) :: I t12 :: bt 21 []))), [(256, .arr 25 3 (y11.map c25)), (232, .arr 3 1 ((l13.set (Int.toNat (mAt e18 y3.2 0)) (w64 (e20 + 1))).map c3)), (112, .arr 47 1 (l5.map c47))]⟩) (by kernel_rfl) (by kernel_rfl) ?_ ?_
        ·refine DR 2 ?_
         refine DE_0 2 (.pe [.sl (y3.1.map c25), .mp (y3.2.map kv78)]) (by kernel_rfl) rfl rfl rfl (gsat_none rfl) (by kernel_rfl) (E_nil (.pe [.sl (y3.1.map c25), .mp (y3.2.map kv78)]) rfl (by kernel_rfl) (by intro hh; cases hh)) 40 rfl ?_
         refine DR 3 ?_
         refine DE_0 6 (I (mAt e18 y3.2 0)) (by kernel_rfl) rfl rfl rfl (gsat_none rfl) (by kernel_rfl) (Y0_lookF (κ := (Int × Int × Int)) (ν := Int) (ek := ek78) (ev := ev78) (z := 0) (m := y3.2) (a := e18) mo78 rfl (by kernel_rfl) (by kernel_rfl)) 44 rfl ?_
         refine DE_0 7 (.po 232 1 (Int.toNat (mAt e18 y3.2 0)) 0) (by kernel_rfl) rfl rfl rfl (gsat_none rfl) (by kernel_rfl) (Y0_idxoM (c := c3) (xs := l13) (v := e19) (id := 232) (T := 3) (sz := 1) (n := mAt e18 y3.2 0) Try.underlying47 sz3 rfl (by kernel_rfl) (by kernel_rfl) (by kernel_rfl) he19) 45 rfl ?_
         refine DE_0 8 (I e20) (by kernel_rfl) rfl rfl rfl (gsat_none rfl) (by kernel_rfl) (Y0_loado1 (c := c3) (xs := l13) (v := e20) (id := 232) (sz := 1) (T := 3) (off := 0) (n := mAt e18 y3.2 0) (d := Ti e20) (ds := []) sc3 rfl (by kernel_rfl) (by kernel_rfl) he20 (by kernel_rfl)) 46 rfl ?_
         refine DR 1 ?_
         refine DE_0 10 (.po 232 1 (Int.toNat (mAt e18 y3.2 0)) 0) (by kernel_rfl) rfl rfl rfl (gsat_none rfl) (by kernel_rfl) (Y0_idxoM (c := c3) (xs := l13) (v := e21) (id := 232) (T := 3) (sz := 1) (n := mAt e18 y3.2 0) Try.underlying47 sz3 rfl (by kernel_rfl) (by kernel_rfl) (by kernel_rfl) he21) 48 rfl ?_
         refine DA 0 ?_
         refine XL_cons rfl (X_storeoM (c := c3) (xs := l13) (v := e22) (u := w64 (e20 + 1)) (id := 232) (sz := 1) (off := 0) (T0 := 3) (n := mAt e18 y3.2 0) (vc := [Ti (w64 (e20 + 1))]) rfl rfl (by kernel_rfl) (by kernel_rfl) he22 (by kernel_rfl) sz3 (Nat.le_of_ble_eq_true rfl) (by kernel_rfl)) ?_
         exact XE
        show V _ _ _ _
        obtain ⟨t23, ht23, h⟩ := of_sI h
        refine V_reg (mb 56 30066606690) [256, 232, 112] (s1 := ⟨.bot :: I p2 :: bt 3 (.pe [.sl (y3.1.map c25), .mp (y3.2.map kv78)] :: .ow 112 :: .bot :: .bot :: .ow 232 :: bt 8 (.c (.sl (y3.1.map c25)) :: I ((y3.1.length : Int)) :: I t4 :: bt 11 (.ow 256 :: I ((y11.length : Int)) :: I t23 :: bt 21 []))), [(256, .arr 25 3 (y11.map c25)), (232, .arr 3 1 ((l13.set (Int.toNat (mAt e18 y3.2 0)) (w64 (e20 + 1))).map c3)), (112, .arr 47 1 (l5.map c47))]⟩) ?_ ?_
        ·refine XR 2 ?_
         refine XL_nil ?_
         subst ht23
         kernel_rfl
        exact ⟨n, Nat.lt_succ_self n, _, _,  by rfl, h⟩
       ·have h := of_false h hc16
        refine V_exit ?_
        obtain rfl := some_inj h
        show St.keep _ _ _ = _
        rfl
     show V _ _ _ _
     obtain ⟨u24, hu24, h⟩ := of_bind h
     refine V_reg (mb 56 1835106) [112] (s1 := ⟨.bot :: I p2 :: bt 3 (.pe [.sl (y3.1.map c25), .mp (y3.2.map kv78)] :: .ow 112 :: bt 11 (.c (.sl (y3.1.map c25)) :: I ((y3.1.length : Int)) :: I t4 :: bt 35 [])), [(112, .arr 47 1 ((l5 ++ ([o15])).map c47))]⟩) ?_ ?_
     ·refine XR 2 ?_
      refine XL_freeze 232 (T := 3) (sz := 1) (els := o15.map c3) (s1 := ⟨.bot :: I p2 :: bt 3 (.pe [.sl (y3.1.map c25), .mp (y3.2.map kv78)] :: .ow 112 :: .bot :: .bot :: .c (.sl (o15.map c3)) :: bt 8 (.c (.sl (y3.1.map c25)) :: I ((y3.1.length : Int)) :: I t4 :: bt 29 (.ow 112 :: .c (.sl (o15.map c3)) :: bt 4 []))), [(112, .arr 47 1 (l5.map c47))]⟩) (by kernel_rfl) (by kernel_rfl) ?_
      refine L1 rfl rfl (Y1_bslice (z := zv47) (els := [o15].map c47) Try.underlying39 iz47 rfl (by decide) rfl (by kernel_rfl) rfl (by simp [c47]) (by decide) (by decide)) ?_
      refine XL_cons rfl (X_appendM (c := c47) (xs := l5) (ys := [o15]) (id := 112) (z := zv47) rfl rfl Try.underlying39 izb47 rfl (by kernel_rfl) (by kernel_rfl) (by kernel_rfl) (fun _ => rfl) (by simp) (room_some hu24) (by decide)) ?_
      exact XE
     show V _ _ _ _
     obtain ⟨t25, ht25, h⟩ := of_sI h
     refine V_reg (mb 56 1835106) [112] (s1 := ⟨.bot :: I p2 :: bt 3 (.pe [.sl (y3.1.map c25), .mp (y3.2.map kv78)] :: .ow 112 :: bt 11 (.c (.sl (y3.1.map c25)) :: I ((y3.1.length : Int)) :: I t25 :: bt 35 [])), [(112, .arr 47 1 ((l5 ++ ([o15])).map c47))]⟩) ?_ ?_
     ·refine XR 2 ?_
      refine XL_nil ?_
      subst ht25
      kernel_rfl
     exact ⟨n, Nat.lt_succ_self n, _, _,  by rfl, h⟩
    ·have h := of_false h hc8
     refine V_exit ?_
     obtain rfl := some_inj h
     show St.keep _ _ _ = _
     rfl
  show V _ _ _ _
  refine V_e (mb 56 16) [112] (s1 := ⟨bt 4 (.ow 112 :: bt 51 []), [(112, .arr 47 1 (o7.map c47))]⟩) ?_
  refine V_ret ?_
  obtain rfl := some_inj h
  show Post _ _ _ _ _
  exact ⟨.inr rfl, rfl, rfl, rfl⟩
theorem cf_impl_WalkMatrix : ∀ args w, (callFunc 16 args).run Try.prog w = .ok (.enter 16 args) w := run_callFunc Try.func16 (by kernel_rfl) (by kernel_rfl)
theorem s_impl_WalkMatrix {d1 : Int} {p2 : Int} {k3 : Int} {r : ((List (List Int)) × Bool)} (h : r_impl_WalkMatrix d1 p2 k3 = some r) : CallS Try.prog 16 [I d1, I p2, I k3] (.tc (.ow 0) (.tc (Bo r.2) .tn)) [(0, .arr 47 1 (r.1.map c47))] := by
  refine CallS_of_text (rs := [.t 6, .t 7]) (vs := [.tmp 6, .tmp 7]) Try.func16 rfl rfl (.cons rfl (.cons rfl FitsL.nil)) (by decide) 93 rfl ?_
  unfold r_impl_WalkMatrix at h
  show V _ _ ⟨I d1 :: I p2 :: I k3 :: bt 90 [], []⟩ _
  refine V_sreg (mb 93 7) [] (s1 := ⟨I d1 :: I p2 :: I k3 :: bt 90 [], []⟩) ?_ ?_
  ·refine L1 rfl rfl (Y1_nil (e := 47) 1 (by decide) (.inl rfl)) ?_
   exact XE
  refine V_seq ?_
  obtain ⟨y4, hy4, h⟩ := of_bind h
  obtain ⟨b7, hb7, h⟩ := of_bind h
  obtain ⟨t10, ht10, h⟩ := of_bind h
  have ht10 := some_inj ht10
  refine V_sreg (mb 93 8589934599) [] (s1 := ⟨I d1 :: I p2 :: I k3 :: bt 30 (Bo t10 :: bt 59 []), []⟩) ?_ ?_
  ·refine XR 1 ?_
   refine XC (s_impl_isNegativeDisc hy4) cf_impl_isNegativeDisc rfl rfl rfl ?_
   refine XR 2 ?_
   refine XL_split (!y4) (fun hc5 => ?_) (fun hc5 => ?_)
   ·have hb7 := some_inj (of_true hb7 hc5)
    refine XL_skipF _ rfl rfl (by kernel_rfl) hc5 rfl ?_
    refine XL_skipF _ rfl rfl (by kernel_rfl) hc5 rfl ?_
    refine XL_skipF _ rfl rfl (by kernel_rfl) hc5 rfl ?_
    refine XL_cons rfl (X_of_Y0 rfl (Y0_pickTe (b := !y4) (p := true) rfl (by kernel_rfl) hc5 (by kernel_rfl) hb7)) ?_
    refine XR 1 ?_
    refine XL_split b7 (fun hc8 => ?_) (fun hc8 => ?_)
    ·refine XL_skipF _ rfl rfl (by kernel_rfl) hc8 rfl ?_
     refine XL_skipF _ rfl rfl (by kernel_rfl) hc8 rfl ?_
     refine XL_cons rfl (X_of_Y0 rfl (Y0_pick1 (b := b7) (p := true) (q := ltI k3 0) rfl (by kernel_rfl) hc8 (by kernel_rfl))) ?_
     refine XR 1 ?_
     refine XL_split (bif b7 then true else (ltI k3 0)) (fun hc9 => ?_) (fun hc9 => ?_)
     ·refine XL_skipF _ rfl rfl (by kernel_rfl) hc9 rfl ?_
      refine XL_skipF _ rfl rfl (by kernel_rfl) hc9 rfl ?_
      refine XL_cons rfl (X_of_Y0 rfl (Y0_pick1 (b := bif b7 then true else (ltI k3 0)) (p := true) (q := ltI 10 k3) rfl (by kernel_rfl) hc9 (by kernel_rfl))) ?_
      refine XL_nil ?_
      subst ht10
      kernel_rfl
     ·refine XL_takeC _ rfl rfl (by kernel_rfl) hc9 (X_of_Y0 rfl (E_move (I k3) rfl (by kernel_rfl))) ?_
      refine XL_takeC _ rfl rfl (by kernel_rfl) hc9 (X_of_Y0 rfl (Y0_gtw (k := .i64) (a := k3) (b := 10) rfl (by kernel_rfl) (by kernel_rfl))) ?_
      refine XL_cons rfl (X_of_Y0 rfl (Y0_pick0 (b := bif b7 then true else (ltI k3 0)) (p := true) (q := ltI 10 k3) rfl (by kernel_rfl) hc9 (by kernel_rfl))) ?_
      refine XL_nil ?_
      subst ht10
      kernel_rfl
    ·refine XL_takeC _ rfl rfl (by kernel_rfl) hc8 (X_of_Y0 rfl (E_move (I k3) rfl (by kernel_rfl))) ?_
     refine XL_takeC _ rfl rfl (by kernel_rfl) hc8 (X_of_Y0 rfl (Y0_ltw (k := .i64) (a := k3) (b := 0) rfl (by kernel_rfl) (by kernel_rfl))) ?_
     refine XL_cons rfl (X_of_Y0 rfl (Y0_pick0 (b := b7) (p := true) (q := ltI k3 0) rfl (by kernel_rfl) hc8 (by kernel_rfl))) ?_
     refine XR 1 ?_
     refine XL_split (bif b7 then true else (ltI k3 0)) (fun hc9 => ?_) (fun hc9 => ?_)
     ·refine XL_skipF _ rfl rfl (by kernel_rfl) hc9 rfl ?_
      refine XL_skipF _ rfl rfl (by kernel_rfl) hc9 rfl ?_
      refine XL_cons rfl (X_of_Y0 rfl (Y0_pick1 (b := bif b7 then true else (ltI k3 0)) (p := true) (q := ltI 10 k3) rfl (by kernel_rfl) hc9 (by kernel_rfl))) ?_
      refine XL_nil ?_
      subst ht10
      kernel_rfl
     ·refine XL_takeC _ rfl rfl (by kernel_rfl) hc9 (X_of_Y0 rfl (E_move (I k3) rfl (by kernel_rfl))) ?_
      refine XL_takeC _ rfl rfl (by kernel_rfl) hc9 (X_of_Y0 rfl (Y0_gtw (k := .i64) (a := k3) (b := 10) rfl (by kernel_rfl) (by kernel_rfl))) ?_
      refine XL_cons rfl (X_of_Y0 rfl (Y0_pick0 (b := bif b7 then true else (ltI k3 0)) (p := true) (q := ltI 10 k3) rfl (by kernel_rfl) hc9 (by kernel_rfl))) ?_
      refine XL_nil ?_
      subst ht10
      kernel_rfl
   ·have hb7 := of_false hb7 hc5
    obtain ⟨y6, hy6, hb7⟩ := of_bind hb7
    have hb7 := some_inj hb7
    refine XL_takeC _ rfl rfl (by kernel_rfl) hc5 (X_of_Y0 rfl (E_move (I p2) rfl (by kernel_rfl))) ?_
    refine XL_takeC _ rfl rfl (by kernel_rfl) hc5 (X_of_Y1 rfl (Y1_call (s_impl_isIndex hy6) cf_impl_isIndex rfl (by kernel_rfl))) ?_
    refine XL_takeC _ rfl rfl (by kernel_rfl) hc5 (X_of_Y0 rfl (Y0_not (b := y6) rfl (by kernel_rfl))) ?_
    refine XL_cons rfl (X_of_Y0 rfl (Y0_pickFe (b := !y4) (p := !y6) rfl (by kernel_rfl) hc5 (by kernel_rfl) hb7)) ?_
    refine XR 1 ?_
    refine XL_split b7 (fun hc8 => ?_) (fun hc8 => ?_)
    ·refine XL_skipF _ rfl rfl (by kernel_rfl) hc8 rfl ?_
     refine XL_skipF _ rfl rfl (by kernel_rfl) hc8 rfl ?_
     refine XL_cons rfl (X_of_Y0 rfl (Y0_pick1 (b := b7) (p := true) (q := ltI k3 0) rfl (by kernel_rfl) hc8 (by kernel_rfl))) ?_
     refine XR 1 ?_
     refine XL_split (bif b7 then true else (ltI k3 0)) (fun hc9 => ?_) (fun hc9 => ?_)
     ·refine XL_skipF _ rfl rfl (by kernel_rfl) hc9 rfl ?_
      refine XL_skipF _ rfl rfl (by kernel_rfl) hc9 rfl ?_
      refine XL_cons rfl (X_of_Y0 rfl (Y0_pick1 (b := bif b7 then true else (ltI k3 0)) (p := true) (q := ltI 10 k3) rfl (by kernel_rfl) hc9 (by kernel_rfl))) ?_
      refine XL_nil ?_
      subst ht10
      kernel_rfl
     ·refine XL_takeC _ rfl rfl (by kernel_rfl) hc9 (X_of_Y0 rfl (E_move (I k3) rfl (by kernel_rfl))) ?_
      refine XL_takeC _ rfl rfl (by kernel_rfl) hc9 (X_of_Y0 rfl (Y0_gtw (k := .i64) (a := k3) (b := 10) rfl (by kernel_rfl) (by kernel_rfl))) ?_
      refine XL_cons rfl (X_of_Y0 rfl (Y0_pick0 (b := bif b7 then true else (ltI k3 0)) (p := true) (q := ltI 10 k3) rfl (by kernel_rfl) hc9 (by kernel_rfl))) ?_
      refine XL_nil ?_
      subst ht10
      kernel_rfl
    ·refine XL_takeC _ rfl rfl (by kernel_rfl) hc8 (X_of_Y0 rfl (E_move (I k3) rfl (by kernel_rfl))) ?_
     refine XL_takeC _ rfl rfl (by kernel_rfl) hc8 (X_of_Y0 rfl (Y0_ltw (k := .i64) (a := k3) (b := 0) rfl (by kernel_rfl) (by kernel_rfl))) ?_
     refine XL_cons rfl (X_of_Y0 rfl (Y0_pick0 (b := b7) (p := true) (q := ltI k3 0) rfl (by kernel_rfl) hc8 (by kernel_rfl))) ?_
     refine XR 1 ?_
     refine XL_split (bif b7 then true else (ltI k3 0)) (fun hc9 => ?_) (fun hc9 => ?_)
     ·refine XL_skipF _ rfl rfl (by kernel_rfl) hc9 rfl ?_
      refine XL_skipF _ rfl rfl (by kernel_rfl) hc9 rfl ?_
      refine XL_cons rfl (X_of_Y0 rfl (Y0_pick1 (b := bif b7 then true else (ltI k3 0)) (p := true) (q := ltI 10 k3) rfl (by kernel_rfl) hc9 (by kernel_rfl))) ?_
      refine XL_nil ?_
      subst ht10
      kernel_rfl
     ·refine XL_takeC _ rfl rfl (by kernel_rfl) hc9 (X_of_Y0 rfl (E_move (I k3) rfl (by kernel_rfl))) ?_
      refine XL_takeC _ rfl rfl (by kernel_rfl) hc9 (X_of_Y0 rfl (Y0_gtw (k := .i64) (a := k3) (b := 10) rfl (by kernel_rfl) (by kernel_rfl))) ?_
      refine XL_cons rfl (X_of_Y0 rfl (Y0_pick0 (b := bif b7 then true else (ltI k3 0)) (p := true) (q := ltI 10 k3) rfl (by kernel_rfl) hc9 (by kernel_rfl))) ?_
      refine XL_nil ?_
      subst ht10
      kernel_rfl
  refine V_cond rfl (fun hc11 => ?_) (fun hc11 => ?_)
  ·have h := of_true h hc11
   refine V_sreg (mb 93 192) [272] (s1 := ⟨bt 6 (.ow 272 :: Bo false :: bt 85 []), [(272, .arr 47 1 ((([] : List (List Int))).map c47))]⟩) ?_ ?_
   ·refine L1 rfl rfl (Y1_bslice0 Try.underlying39 sz47 (by decide) rfl rfl) ?_
    exact XE
   refine V_ret ?_
   obtain rfl := some_inj h
   show Post _ _ _ _ _
   exact ⟨.inr rfl, rfl, rfl, rfl⟩
  ·have h := of_false h hc11
   refine V_skip ?_
   show V _ _ _ _
   obtain ⟨y12, hy12, h⟩ := of_bind h
   refine V_sreg (mb 93 260) [296] (s1 := ⟨.bot :: .bot :: I k3 :: bt 5 (.ow 296 :: bt 84 []), [(296, .arr 47 1 (y12.map c47))]⟩) ?_ ?_
   ·refine XR 2 ?_
    refine XC (s_impl_neighbourMatrix hy12) cf_impl_neighbourMatrix rfl rfl rfl ?_
    exact XE
   refine V_sreg (mb 93 772) [304, 296] (s1 := ⟨.bot :: .bot :: I k3 :: bt 5 (.ow 296 :: .ow 304 :: bt 83 []), [(304, .arr 47 1 ((([] : List (List Int))).map c47)), (296, .arr 47 1 (y12.map c47))]⟩) ?_ ?_
   ·refine L1 rfl rfl (Y1_bslice0 Try.underlying39 sz47 (by decide) rfl rfl) ?_
    exact XE
   refine V_seq ?_
   refine V_sreg (mb 93 3298534884100) [304, 296] (s1 := ⟨.bot :: .bot :: I k3 :: bt 5 (.ow 296 :: .ow 304 :: bt 30 (I ((y12.length : Int)) :: I 0 :: bt 51 [])), [(304, .arr 47 1 ((([] : List (List Int))).map c47)), (296, .arr 47 1 (y12.map c47))]⟩) ?_ ?_
   ·refine XR 1 ?_
    refine L0 rfl rfl (Y0_lenM (c := c47) (xs := y12) Try.underlying39 rfl (by kernel_rfl)) ?_
    exact XE
   obtain ⟨o16, hLo16, h⟩ := of_bind h
   refine V_toK (mb 93 512) [304] (s1 := ⟨bt 9 (.ow 304 :: bt 83 []), [(304, .arr 47 1 (o16.map c47))]⟩) ?_ ?_
   ·clear h
    refine V_block (V_loop (fun n s => ∃ (t13 : Int) (l14 : List (List Int)), s.keep (mb 93 3298534884100) [304, 296] = (⟨.bot :: .bot :: I k3 :: bt 5 (.ow 296 :: .ow 304 :: bt 30 (I ((y12.length : Int)) :: I t13 :: bt 51 [])), [(304, .arr 47 1 (l14.map c47)), (296, .arr 47 1 (y12.map c47))]⟩ : St) ∧ r_impl_WalkMatrix_L15 k3 y12 n t13 l14 = some o16) FU ⟨_, _,  by rfl, hLo16⟩ ?_)
    clear hLo16
    rintro n s ⟨t13, l14, hs, h⟩
    refine V_keep _ _ hs ?_
    clear hs
    cases n with
    | zero => cases h
    | succ n =>
     rw [r_impl_WalkMatrix_L15] at h
     refine V_e (mb 93 7696581395204) [304, 296] (s1 := ⟨.bot :: .bot :: I k3 :: bt 5 (.ow 296 :: .ow 304 :: bt 30 (I ((y12.length : Int)) :: I t13 :: Bo (ltI t13 ((y12.length : Int))) :: bt 50 [])), [(304, .arr 47 1 (l14.map c47)), (296, .arr 47 1 (y12.map c47))]⟩) ?_
     refine V_seq ?_
     refine V_cond rfl (fun hc17 => ?_) (fun hc17 => ?_)
     ·have h := of_true h hc17
      refine V_skip ?_
      show V _ _ _ _
      refine V_seq ?_
      refine V_block ?_
      refine V_e (mb 93 3298534885124) [304, 296] (s1 := ⟨.bot :: .bot :: I k3 :: bt 5 (.ow 296 :: .ow 304 :: I t13 :: bt 29 (I ((y12.length : Int)) :: I t13 :: bt 51 [])), [(304, .arr 47 1 (l14.map c47)), (296, .arr 47 1 (y12.map c47))]⟩) ?_
      obtain ⟨u18, hu18, h⟩ := of_bind h
      refine V_sreg (mb 93 3298534887172) [368, 304, 296] (s1 := ⟨.bot :: .bot :: I k3 :: bt 5 (.ow 296 :: .ow 304 :: I t13 :: .ow 368 :: bt 28 (I ((y12.length : Int)) :: I t13 :: bt 51 [])), [(368, .arr 3 1 ((List.replicate (Int.toNat ((y12.length : Int))) ((0 : Int))).map c3)), (304, .arr 47 1 (l14.map c47)), (296, .arr 47 1 (y12.map c47))]⟩) ?_ ?_
      ·refine XR 1 ?_
       refine L0 rfl rfl (Y0_lenM (c := c47) (xs := y12) Try.underlying39 rfl (by kernel_rfl)) ?_
       refine L1 rfl rfl (Y1_make (c := c3) (zx := (0 : Int)) (z := zv3) (l := (y12.length : Int)) (k := (y12.length : Int)) Try.underlying47 izb3 rfl rfl (by decide) rfl rfl (by kernel_rfl) (by kernel_rfl) (mk_some hu18) (by decide)) ?_
       exact XE
      obtain ⟨e19, he19, h⟩ := of_bind h
      obtain ⟨e20, he20, h⟩ := of_bind h
      obtain ⟨l21, hl21, h⟩ := of_bind h
      have hl21 := some_inj hl21
      refine V_sreg (mb 93 3298534886148) [368, 304, 296] (s1 := ⟨.bot :: .bot :: I k3 :: bt 5 (.ow 296 :: .ow 304 :: .bot :: .ow 368 :: bt 28 (I ((y12.length : Int)) :: I t13 :: bt 51 [])), [(368, .arr 3 1 (l21.map c3)), (304, .arr 47 1 (l14.map c47)), (296, .arr 47 1 (y12.map c47))]⟩) ?_ ?_
      ·refine XR 2 ?_
       refine L0 rfl rfl (Y0_idxoM (c := c3) (xs := List.replicate (Int.toNat ((y12.length : Int))) ((0 : Int))) (v := e19) (id := 368) (T := 3) (sz := 1) (n := t13) Try.underlying47 sz3 rfl (by kernel_rfl) (by kernel_rfl) (by kernel_rfl) he19) ?_
       refine XL_cons rfl (X_storeoM (c := c3) (xs := List.replicate (Int.toNat ((y12.length : Int))) ((0 : Int))) (v := e20) (u := 1) (id := 368) (sz := 1) (off := 0) (T0 := 3) (n := t13) (vc := [Ti 1]) rfl rfl (by kernel_rfl) (by kernel_rfl) he20 (by kernel_rfl) sz3 (Nat.le_of_ble_eq_true rfl) (by kernel_rfl)) ?_
       refine XL_nil ?_
       subst hl21
       kernel_rfl
      refine V_seq ?_
      refine V_e (mb 93 3298534890244) [368, 304, 296] (s1 := ⟨.bot :: .bot :: I k3 :: bt 5 (.ow 296 :: .ow 304 :: .bot :: .ow 368 :: I 0 :: bt 27 (I ((y12.length : Int)) :: I t13 :: bt 51 [])), [(368, .arr 3 1 (l21.map c3)), (304, .arr 47 1 (l14.map c47)), (296, .arr 47 1 (y12.map c47))]⟩) ?_
      refine V_freeze 368 (T := 3) (sz := 1) (els := l21.map c3) (s1 := ⟨.bot :: .bot :: I k3 :: bt 5 (.ow 296 :: .ow 304 :: .bot :: .c (.sl (l21.map c3)) :: I 0 :: bt 27 (I ((y12.length : Int)) :: I t13 :: bt 51 [])), [(304, .arr 47 1 (l14.map c47)), (296, .arr 47 1 (y12.map c47))]⟩) (by kernel_rfl) (by kernel_rfl) ?_
      obtain ⟨o25, hLo25, h⟩ := of_bind h
      refine V_toK (mb 93 3298534886148) [304, 296] (s1 := ⟨.bot :: .bot :: I k3 :: bt 5 (.ow 296 :: .ow 304 :: .bot :: .c (.sl (o25.map c3)) :: bt 28 (I ((y12.length : Int)) :: I t13 :: bt 51 [])), [(304, .arr 47 1 (l14.map c47)), (296, .arr 47 1 (y12.map c47))]⟩) ?_ ?_
      ·clear h
       refine V_block (V_loop (fun n s => ∃ (row22 : List Int) (vn23 : Int), s.keep (mb 93 3298534890244) [304, 296] = (⟨.bot :: .bot :: I k3 :: bt 5 (.ow 296 :: .ow 304 :: .bot :: .c (.sl (row22.map c3)) :: I vn23 :: bt 27 (I ((y12.length : Int)) :: I t13 :: bt 51 [])), [(304, .arr 47 1 (l14.map c47)), (296, .arr 47 1 (y12.map c47))]⟩ : St) ∧ r_impl_WalkMatrix_L24 k3 l14 t13 y12 n row22 vn23 = some o25) FU ⟨_, _,  by rfl, hLo25⟩ ?_)
       clear hLo25
       rintro n s ⟨row22, vn23, hs, h⟩
       refine V_keep _ _ hs ?_
       clear hs
       cases n with
       | zero => cases h
       | succ n =>
        rw [r_impl_WalkMatrix_L24] at h
        refine V_seq ?_
        refine V_e (mb 93 4506898162260740) [304, 296] (s1 := ⟨.bot :: .bot :: I k3 :: bt 5 (.ow 296 :: .ow 304 :: .bot :: .c (.sl (row22.map c3)) :: I vn23 :: bt 27 (I ((y12.length : Int)) :: I t13 :: bt 10 (Bo (ltI vn23 k3) :: bt 40 []))), [(304, .arr 47 1 (l14.map c47)), (296, .arr 47 1 (y12.map c47))]⟩) ?_
        refine V_cond rfl (fun hc26 => ?_) (fun hc26 => ?_)
        ·have h := of_true h hc26
         refine V_skip ?_
         show V _ _ _ _
         refine V_seq ?_
         refine V_block ?_
         obtain ⟨u27, hu27, h⟩ := of_bind h
         refine V_sreg (mb 93 3298534898436) [456, 304, 296] (s1 := ⟨.bot :: .bot :: I k3 :: bt 5 (.ow 296 :: .ow 304 :: .bot :: .c (.sl (row22.map c3)) :: I vn23 :: .ow 456 :: bt 26 (I ((y12.length : Int)) :: I t13 :: bt 51 [])), [(456, .arr 3 1 ((List.replicate (Int.toNat ((y12.length : Int))) ((0 : Int))).map c3)), (304, .arr 47 1 (l14.map c47)), (296, .arr 47 1 (y12.map c47))]⟩) ?_ ?_
         ·refine XR 1 ?_
          refine L0 rfl rfl (Y0_lenM (c := c47) (xs := y12) Try.underlying39 rfl (by kernel_rfl)) ?_
          refine L1 rfl rfl (Y1_make (c := c3) (zx := (0 : Int)) (z := zv3) (l := (y12.length : Int)) (k := (y12.length : Int)) Try.underlying47 izb3 rfl rfl (by decide) rfl rfl (by kernel_rfl) (by kernel_rfl) (mk_some hu27) (by decide)) ?_
          exact XE
         refine V_seq ?_
         refine V_sreg (mb 93 2017615931596878596) [456, 304, 296] (s1 := ⟨.bot :: .bot :: I k3 :: bt 5 (.ow 296 :: .ow 304 :: .bot :: .bot :: I vn23 :: .ow 456 :: bt 26 (I ((y12.length : Int)) :: I t13 :: bt 16 (.c (.sl (row22.map c3)) :: I ((row22.length : Int)) :: I 0 :: bt 32 []))), [(456, .arr 3 1 ((List.replicate (Int.toNat ((y12.length : Int))) ((0 : Int))).map c3)), (304, .arr 47 1 (l14.map c47)), (296, .arr 47 1 (y12.map c47))]⟩) ?_ ?_
         ·refine XR 1 ?_
          refine L0 rfl rfl (Y0_lenM (c := c3) (xs := row22) Try.underlying47 rfl (by kernel_rfl)) ?_
          exact XE
         obtain ⟨o31, hLo31, h⟩ := of_bind h
         refine V_toK (mb 93 3298534896388) [456, 304, 296] (s1 := ⟨.bot :: .bot :: I k3 :: bt 5 (.ow 296 :: .ow 304 :: .bot :: .bot :: I vn23 :: .ow 456 :: bt 26 (I ((y12.length : Int)) :: I t13 :: bt 51 [])), [(456, .arr 3 1 (o31.map c3)), (304, .arr 47 1 (l14.map c47)), (296, .arr 47 1 (y12.map c47))]⟩) ?_ ?_
         ·clear h
          refine V_block (V_loop (fun n s => ∃ (t28 : Int) (l29 : List Int), s.keep (mb 93 2017615931596878596) [456, 304, 296] = (⟨.bot :: .bot :: I k3 :: bt 5 (.ow 296 :: .ow 304 :: .bot :: .bot :: I vn23 :: .ow 456 :: bt 26 (I ((y12.length : Int)) :: I t13 :: bt 16 (.c (.sl (row22.map c3)) :: I ((row22.length : Int)) :: I t28 :: bt 32 []))), [(456, .arr 3 1 (l29.map c3)), (304, .arr 47 1 (l14.map c47)), (296, .arr 47 1 (y12.map c47))]⟩ : St) ∧ r_impl_WalkMatrix_L30 k3 l14 row22 t13 vn23 y12 n t28 l29 = some o31) FU ⟨_, _,  by rfl, hLo31⟩ ?_)
          clear hLo31
          rintro n s ⟨t28, l29, hs, h⟩
          refine V_keep _ _ hs ?_
          clear hs
          cases n with
          | zero => cases h
          | succ n =>
           rw [r_impl_WalkMatrix_L30] at h
           refine V_e (mb 93 4323458940810572548) [456, 304, 296] (s1 := ⟨.bot :: .bot :: I k3 :: bt 5 (.ow 296 :: .ow 304 :: .bot :: .bot :: I vn23 :: .ow 456 :: bt 26 (I ((y12.length : Int)) :: I t13 :: bt 16 (.c (.sl (row22.map c3)) :: I ((row22.length : Int)) :: I t28 :: Bo (ltI t28 ((row22.length : Int))) :: bt 31 []))), [(456, .arr 3 1 (l29.map c3)), (304, .arr 47 1 (l14.map c47)), (296, .arr 47 1 (y12.map c47))]⟩) ?_
           refine V_seq ?_
           refine V_cond rfl (fun hc32 => ?_) (fun hc32 => ?_)
           ·have h := of_true h hc32
            refine V_skip ?_
            show V _ _ _ _
            refine V_seq ?_
            refine V_block ?_
            obtain ⟨e33, he33, h⟩ := of_bind h
            refine V_sreg (mb 93 2017615931596927748) [456, 304, 296] (s1 := ⟨.bot :: .bot :: I k3 :: bt 5 (.ow 296 :: .ow 304 :: .bot :: .bot :: I vn23 :: .ow 456 :: I t28 :: I e33 :: bt 24 (I ((y12.length : Int)) :: I t13 :: bt 16 (.c (.sl (row22.map c3)) :: I ((row22.length : Int)) :: I t28 :: bt 32 []))), [(456, .arr 3 1 (l29.map c3)), (304, .arr 47 1 (l14.map c47)), (296, .arr 47 1 (y12.map c47))]⟩) ?_ ?_
            ·refine XR 1 ?_
             refine L0 rfl rfl (Y0_idxM (c := c3) (xs := row22) (v := e33) (n := t28) Try.underlying47 sz3 rfl (by kernel_rfl) (by kernel_rfl) he33) ?_
             exact XE
            obtain ⟨e34, he34, h⟩ := of_bind h
            obtain ⟨e35, he35, h⟩ := of_bind h
            refine V_sreg (mb 93 2068052952187066692356) [456, 304, 296] (s1 := ⟨.bot :: .bot :: I k3 :: bt 5 (.ow 296 :: .ow 304 :: .bot :: .bot :: I vn23 :: .ow 456 :: .bot :: I e33 :: bt 24 (I ((y12.length : Int)) :: I t13 :: bt 16 (.c (.sl (row22.map c3)) :: I ((row22.length : Int)) :: I t28 :: bt 7 (.c (.sl (e35.map c3)) :: I ((e35.length : Int)) :: I 0 :: bt 22 [])))), [(456, .arr 3 1 (l29.map c3)), (304, .arr 47 1 (l14.map c47)), (296, .arr 47 1 (y12.map c47))]⟩) ?_ ?_
            ·refine XR 2 ?_
             refine L0 rfl rfl (Y0_idxoM (c := c47) (xs := y12) (v := e34) (id := 296) (T := 47) (sz := 1) (n := t28) Try.underlying39 sz47 rfl (by kernel_rfl) (by kernel_rfl) (by kernel_rfl) he34) ?_
             refine L0 rfl rfl (Y0_loado1 (c := c47) (xs := y12) (v := e35) (id := 296) (sz := 1) (T := 47) (off := 0) (n := t28) (d := .sl (e35.map c3)) (ds := []) sc47 rfl (by kernel_rfl) (by kernel_rfl) he35 (by kernel_rfl)) ?_
             refine L0 rfl rfl (Y0_lenM (c := c3) (xs := e35) Try.underlying47 rfl (by kernel_rfl)) ?_
             exact XE
            obtain ⟨o39, hLo39, h⟩ := of_bind h
            refine V_toK (mb 93 2017615931596878596) [456, 304, 296] (s1 := ⟨.bot :: .bot :: I k3 :: bt 5 (.ow 296 :: .ow 304 :: .bot :: .bot :: I vn23 :: .ow 456 :: bt 26 (I ((y12.length : Int)) :: I t13 :: bt 16 (.c (.sl (row22.map c3)) :: I ((row22.length : Int)) :: I t28 :: bt 32 []))), [(456, .arr 3 1 (o39.map c3)), (304, .arr 47 1 (l14.map c47)), (296, .arr 47 1 (y12.map c47))]⟩) ?_ ?_
            ·clear h
             refine V_block (V_loop (fun n s => ∃ (t36 : Int) (l37 : List Int), s.keep (mb 93 2068052952187066692356) [456, 304, 296] = (⟨.bot :: .bot :: I k3 :: bt 5 (.ow 296 :: .ow 304 :: .bot :: .bot :: I vn23 :: .ow 456 :: .bot :: I e33 :: bt 24 (I ((y12.length : Int)) :: I t13 :: bt 16 (.c (.sl (row22.map c3)) :: I ((row22.length : Int)) :: I t28 :: bt 7 (.c (.sl (e35.map c3)) :: I ((e35.length : Int)) :: I t36 :: bt 22 [])))), [(456, .arr 3 1 (l37.map c3)), (304, .arr 47 1 (l14.map c47)), (296, .arr 47 1 (y12.map c47))]⟩ : St) ∧ r_impl_WalkMatrix_L38 e33 e35 k3 l14 row22 t13 t28 vn23 y12 n t36 l37 = some o39) FU ⟨_, _,  by rfl, hLo39⟩ ?_)
             clear hLo39
             rintro n s ⟨t36, l37, hs, h⟩
             refine V_keep _ _ hs ?_
             clear hs
             cases n with
             | zero => cases h
             | succ n =>
              rw [r_impl_WalkMatrix_L38] at h
              refine V_e (mb 93 4429236193621889299204) [456, 304, 296] (s1 := ⟨.bot :: .bot :: I k3 :: bt 5 (.ow 296 :: .ow 304 :: .bot :: .bot :: I vn23 :: .ow 456 :: .bot :: I e33 :: bt 24 (I ((y12.length : Int)) :: I t13 :: bt 16 (.c (.sl (row22.map c3)) :: I ((row22.length : Int)) :: I t28 :: bt 7 (.c (.sl (e35.map c3)) :: I ((e35.length : Int)) :: I t36 :: Bo (ltI t36 ((e35.length : Int))) :: bt 21 [])))), [(456, .arr 3 1 (l37.map c3)), (304, .arr 47 1 (l14.map c47)), (296, .arr 47 1 (y12.map c47))]⟩) ?_
              refine V_seq ?_
              refine V_cond rfl (fun hc40 => ?_) (fun hc40 => ?_)
              ·have h := of_true h hc40
               refine V_skip ?_
               show V _ _ _ _
               refine V_seq ?_
               refine V_block ?_
               obtain ⟨e41, he41, h⟩ := of_bind h
               refine V_sreg (mb 93 2068052952187066888964) [456, 304, 296] (s1 := ⟨.bot :: .bot :: I k3 :: bt 5 (.ow 296 :: .ow 304 :: .bot :: .bot :: I vn23 :: .ow 456 :: .bot :: I e33 :: I t36 :: I e41 :: bt 22 (I ((y12.length : Int)) :: I t13 :: bt 16 (.c (.sl (row22.map c3)) :: I ((row22.length : Int)) :: I t28 :: bt 7 (.c (.sl (e35.map c3)) :: I ((e35.length : Int)) :: I t36 :: bt 22 [])))), [(456, .arr 3 1 (l37.map c3)), (304, .arr 47 1 (l14.map c47)), (296, .arr 47 1 (y12.map c47))]⟩) ?_ ?_
               ·refine XR 1 ?_
                refine L0 rfl rfl (Y0_idxM (c := c3) (xs := e35) (v := e41) (n := t36) Try.underlying47 sz3 rfl (by kernel_rfl) (by kernel_rfl) he41) ?_
                exact XE
               obtain ⟨e42, he42, h⟩ := of_bind h
               obtain ⟨e43, he43, h⟩ := of_bind h
               obtain ⟨e44, he44, h⟩ := of_bind h
               obtain ⟨e45, he45, h⟩ := of_bind h
               refine V_reg (mb 93 2068052952187066692356) [456, 304, 296] (s1 := ⟨.bot :: .bot :: I k3 :: bt 5 (.ow 296 :: .ow 304 :: .bot :: .bot :: I vn23 :: .ow 456 :: .bot :: I e33 :: bt 24 (I ((y12.length : Int)) :: I t13 :: bt 16 (.c (.sl (row22.map c3)) :: I ((row22.length : Int)) :: I t28 :: bt 7 (.c (.sl (e35.map c3)) :: I ((e35.length : Int)) :: I t36 :: bt 22 [])))), [(456, .arr 3 1 ((l37.set (Int.toNat (t36)) (w64 (e43 + (w64 (e33 * e41))))).map c3)), (304, .arr 47 1 (l14.map c47)), (296, .arr 47 1 (y12.map c47))]⟩) ?_ ?_
               ·refine XR 2 ?_
                refine L0 rfl rfl (Y0_idxoM (c := c3) (xs := l37) (v := e42) (id := 456) (T := 3) (sz := 1) (n := t36) Try.underlying47 sz3 rfl (by kernel_rfl) (by kernel_rfl) (by kernel_rfl) he42) ?_
                refine L0 rfl rfl (Y0_loado1 (c := c3) (xs := l37) (v := e43) (id := 456) (sz := 1) (T := 3) (off := 0) (n := t36) (d := Ti e43) (ds := []) sc3 rfl (by kernel_rfl) (by kernel_rfl) he43 (by kernel_rfl)) ?_
                refine XR 4 ?_
                refine L0 rfl rfl (Y0_idxoM (c := c3) (xs := l37) (v := e44) (id := 456) (T := 3) (sz := 1) (n := t36) Try.underlying47 sz3 rfl (by kernel_rfl) (by kernel_rfl) (by kernel_rfl) he44) ?_
                refine XL_cons rfl (X_storeoM (c := c3) (xs := l37) (v := e45) (u := w64 (e43 + (w64 (e33 * e41)))) (id := 456) (sz := 1) (off := 0) (T0 := 3) (n := t36) (vc := [Ti (w64 (e43 + (w64 (e33 * e41))))]) rfl rfl (by kernel_rfl) (by kernel_rfl) he45 (by kernel_rfl) sz3 (Nat.le_of_ble_eq_true rfl) (by kernel_rfl)) ?_
                exact XE
               show V _ _ _ _
               obtain ⟨t46, ht46, h⟩ := of_sI h
               refine V_reg (mb 93 2068052952187066692356) [456, 304, 296] (s1 := ⟨.bot :: .bot :: I k3 :: bt 5 (.ow 296 :: .ow 304 :: .bot :: .bot :: I vn23 :: .ow 456 :: .bot :: I e33 :: bt 24 (I ((y12.length : Int)) :: I t13 :: bt 16 (.c (.sl (row22.map c3)) :: I ((row22.length : Int)) :: I t28 :: bt 7 (.c (.sl (e35.map c3)) :: I ((e35.length : Int)) :: I t46 :: bt 22 [])))), [(456, .arr 3 1 ((l37.set (Int.toNat (t36)) (w64 (e43 + (w64 (e33 * e41))))).map c3)), (304, .arr 47 1 (l14.map c47)), (296, .arr 47 1 (y12.map c47))]⟩) ?_ ?_
               ·refine XR 2 ?_
                refine XL_nil ?_
                subst ht46
                kernel_rfl
               exact ⟨n, Nat.lt_succ_self n, _, _,  by rfl, h⟩
              ·have h := of_false h hc40
               refine V_exit ?_
               obtain rfl := some_inj h
               show St.keep _ _ _ = _
               rfl
            show V _ _ _ _
            obtain ⟨t47, ht47, h⟩ := of_sI h
            refine V_reg (mb 93 2017615931596878596) [456, 304, 296] (s1 := ⟨.bot :: .bot :: I k3 :: bt 5 (.ow 296 :: .ow 304 :: .bot :: .bot :: I vn23 :: .ow 456 :: bt 26 (I ((y12.length : Int)) :: I t13 :: bt 16 (.c (.sl (row22.map c3)) :: I ((row22.length : Int)) :: I t47 :: bt 32 []))), [(456, .arr 3 1 (o39.map c3)), (304, .arr 47 1 (l14.map c47)), (296, .arr 47 1 (y12.map c47))]⟩) ?_ ?_
            ·refine XR 2 ?_
             refine XL_nil ?_
             subst ht47
             kernel_rfl
            exact ⟨n, Nat.lt_succ_self n, _, _,  by rfl, h⟩
           ·have h := of_false h hc32
            refine V_exit ?_
            obtain rfl := some_inj h
            show St.keep _ _ _ = _
            rfl
         show V _ _ _ _
         refine V_freeze 456 (T := 3) (sz := 1) (els := o31.map c3) (s1 := ⟨.bot :: .bot :: I k3 :: bt 5 (.ow 296 :: .ow 304 :: .bot :: .bot :: I vn23 :: .c (.sl (o31.map c3)) :: bt 26 (I ((y12.length : Int)) :: I t13 :: bt 51 [])), [(304, .arr 47 1 (l14.map c47)), (296, .arr 47 1 (y12.map c47))]⟩) (by kernel_rfl) (by kernel_rfl) ?_
         refine V_reg (mb 93 3298534890244) [304, 296] (s1 := ⟨.bot :: .bot :: I k3 :: bt 5 (.ow 296 :: .ow 304 :: .bot :: .c (.sl (o31.map c3)) :: I vn23 :: bt 27 (I ((y12.length : Int)) :: I t13 :: bt 51 [])), [(304, .arr 47 1 (l14.map c47)), (296, .arr 47 1 (y12.map c47))]⟩) ?_ ?_
         ·exact XE
         show V _ _ _ _
         obtain ⟨vn48, hvn48, h⟩ := of_sI h
         refine V_reg (mb 93 3298534890244) [304, 296] (s1 := ⟨.bot :: .bot :: I k3 :: bt 5 (.ow 296 :: .ow 304 :: .bot :: .c (.sl (o31.map c3)) :: I vn48 :: bt 27 (I ((y12.length : Int)) :: I t13 :: bt 51 [])), [(304, .arr 47 1 (l14.map c47)), (296, .arr 47 1 (y12.map c47))]⟩) ?_ ?_
         ·refine XR 3 ?_
          refine XL_nil ?_
          subst hvn48
          kernel_rfl
         exact ⟨n, Nat.lt_succ_self n, _, _,  by rfl, h⟩
        ·have h := of_false h hc26
         refine V_exit ?_
         obtain rfl := some_inj h
         show St.keep _ _ _ = _
         rfl
      show V _ _ _ _
      obtain ⟨u49, hu49, h⟩ := of_bind h
      refine V_reg (mb 93 3298534884100) [304, 296] (s1 := ⟨.bot :: .bot :: I k3 :: bt 5 (.ow 296 :: .ow 304 :: bt 30 (I ((y12.length : Int)) :: I t13 :: bt 51 [])), [(304, .arr 47 1 ((l14 ++ ([o25])).map c47)), (296, .arr 47 1 (y12.map c47))]⟩) ?_ ?_
      ·refine XR 2 ?_
       refine L1 rfl rfl (Y1_bslice (z := zv47) (els := [o25].map c47) Try.underlying39 iz47 rfl (by decide) rfl (by kernel_rfl) rfl (by simp [c47]) (by decide) (by decide)) ?_
       refine XL_cons rfl (X_appendM (c := c47) (xs := l14) (ys := [o25]) (id := 304) (z := zv47) rfl rfl Try.underlying39 izb47 rfl (by kernel_rfl) (by kernel_rfl) (by kernel_rfl) (fun _ => rfl) (by simp) (room_some hu49) (by decide)) ?_
       exact XE
      show V _ _ _ _
      obtain ⟨t50, ht50, h⟩ := of_sI h
      refine V_reg (mb 93 3298534884100) [304, 296] (s1 := ⟨.bot :: .bot :: I k3 :: bt 5 (.ow 296 :: .ow 304 :: bt 30 (I ((y12.length : Int)) :: I t50 :: bt 51 [])), [(304, .arr 47 1 ((l14 ++ ([o25])).map c47)), (296, .arr 47 1 (y12.map c47))]⟩) ?_ ?_
      ·refine XR 2 ?_
       refine XL_nil ?_
       subst ht50
       kernel_rfl
      exact ⟨n, Nat.lt_succ_self n, _, _,  by rfl, h⟩
     ·have h := of_false h hc17
      refine V_exit ?_
      obtain rfl := some_inj h
      show St.keep _ _ _ = _
      rfl
   show V _ _ _ _
   refine V_e (mb 93 192) [304] (s1 := ⟨bt 6 (.ow 304 :: Bo true :: bt 85 []), [(304, .arr 47 1 (o16.map c47))]⟩) ?_
   refine V_ret ?_
   obtain rfl := some_inj h
   show Post _ _ _ _ _
   exact ⟨.inr rfl, rfl, rfl, rfl⟩
theorem cf_spec_l1In : ∀ args w, (callFunc 52 args).run Try.prog w = .ok (.enter 52 args) w := run_callFunc Try.func52 (by kernel_rfl) (by kernel_rfl)
theorem s_spec_l1In {vn1 : Int} {lo2 : Int} {hi3 : Int} {r : Bool} (h : r_spec_l1In vn1 lo2 hi3 = some r) : CallS Try.prog 52 [I vn1, I lo2, I hi3] (Bo r) [] := by
  refine CallS_of_text (rs := [.t 6]) (vs := [.tmp 6]) Try.func52 rfl rfl (.cons rfl FitsL.nil) (by decide) 15 rfl ?_
  unfold r_spec_l1In at h
  show V _ _ ⟨I vn1 :: I lo2 :: I hi3 :: bt 12 [], []⟩ _
  refine V_e (mb 15 7) [] (s1 := ⟨I vn1 :: I lo2 :: I hi3 :: bt 12 [], []⟩) ?_
  refine V_sreg (mb 15 64) [] (s1 := ⟨bt 6 (Bo (bif (leI lo2 vn1) then (leI vn1 hi3) else false) :: bt 8 []), []⟩) ?_ ?_
  ·refine XR 4 ?_
   refine XL_split (leI lo2 vn1) (fun hc4 => ?_) (fun hc4 => ?_)
   ·refine XL_takeC _ rfl rfl (by kernel_rfl) hc4 (X_of_Y0 rfl (E_move (I vn1) rfl (by kernel_rfl))) ?_
    refine XL_takeC _ rfl rfl (by kernel_rfl) hc4 (X_of_Y0 rfl (E_move (I hi3) rfl (by kernel_rfl))) ?_
    refine XL_takeC _ rfl rfl (by kernel_rfl) hc4 (X_of_Y0 rfl (Y0_lew (k := .i64) (a := vn1) (b := hi3) rfl (by kernel_rfl) (by kernel_rfl))) ?_
    refine XL_cons rfl (X_of_Y0 rfl (Y0_pick1 (b := leI lo2 vn1) (p := leI vn1 hi3) (q := false) rfl (by kernel_rfl) hc4 (by kernel_rfl))) ?_
    exact XE
   ·refine XL_skipT _ rfl rfl (by kernel_rfl) hc4 rfl ?_
    refine XL_skipT _ rfl rfl (by kernel_rfl) hc4 rfl ?_
    refine XL_skipT _ rfl rfl (by kernel_rfl) hc4 rfl ?_
    refine XL_cons rfl (X_of_Y0 rfl (Y0_pick0 (b := leI lo2 vn1) (p := leI vn1 hi3) (q := false) rfl (by kernel_rfl) hc4 (by kernel_rfl))) ?_
    exact XE
  refine V_ret ?_
  obtain rfl := some_inj h
  show Post _ _ _ _ _
  exact ⟨.inr rfl, rfl, rfl, rfl⟩
theorem cf_spec_reDisc : ∀ args w, (callFunc 50 args).run Try.prog w = .ok (.enter 50 args) w := run_callFunc Try.func50 (by kernel_rfl) (by kernel_rfl)
theorem s_spec_reDisc {d1 : Int} {r : Bool} (h : r_spec_reDisc d1 = some r) : CallS Try.prog 50 [I d1] (Bo r) [] := by
  refine CallS_of_text (rs := [.t 2]) (vs := [.tmp 2]) Try.func50 rfl rfl (.cons rfl FitsL.nil) (by decide) 10 rfl ?_
  unfold r_spec_reDisc at h
  show V _ _ ⟨I d1 :: bt 9 [], []⟩ _
  refine V_e (mb 10 1) [] (s1 := ⟨I d1 :: bt 9 [], []⟩) ?_
  obtain ⟨y2, hy2, h⟩ := of_bind h
  obtain ⟨b5, hb5, h⟩ := of_bind h
  refine V_sreg (mb 10 4) [] (s1 := ⟨.bot :: .bot :: Bo b5 :: bt 7 [], []⟩) ?_ ?_
  ·refine XR 1 ?_
   refine XC (s_spec_l1In hy2) cf_spec_l1In rfl rfl rfl ?_
   refine XR 1 ?_
   refine XL_split y2 (fun hc3 => ?_) (fun hc3 => ?_)
   ·have hb5 := of_true hb5 hc3
    obtain ⟨y4, hy4, hb5⟩ := of_bind hb5
    have hb5 := some_inj hb5
    refine XL_takeC _ rfl rfl (by kernel_rfl) hc3 (X_of_Y0 rfl (E_move (I d1) rfl (by kernel_rfl))) ?_
    refine XL_takeC _ rfl rfl (by kernel_rfl) hc3 (X_of_Y1 rfl (Y1_call (s_spec_nuMod hy4) cf_spec_nuMod rfl (by kernel_rfl))) ?_
    refine XL_takeC _ rfl rfl (by kernel_rfl) hc3 (X_of_Y0 rfl (Y0_ltw (k := .i64) (a := y4) (b := 2) rfl (by kernel_rfl) (by kernel_rfl))) ?_
    refine XL_cons rfl (X_of_Y0 rfl (Y0_pickTe (b := y2) (p := ltI y4 2) rfl (by kernel_rfl) hc3 (by kernel_rfl) hb5)) ?_
    exact XE
   ·have hb5 := some_inj (of_false hb5 hc3)
    refine XL_skipT _ rfl rfl (by kernel_rfl) hc3 rfl ?_
    refine XL_skipT _ rfl rfl (by kernel_rfl) hc3 rfl ?_
    refine XL_skipT _ rfl rfl (by kernel_rfl) hc3 rfl ?_
    refine XL_cons rfl (X_of_Y0 rfl (Y0_pickFe (b := y2) (p := false) rfl (by kernel_rfl) hc3 (by kernel_rfl) hb5)) ?_
    exact XE
  refine V_ret ?_
  obtain rfl := some_inj h
  show Post _ _ _ _ _
  exact ⟨.inr rfl, rfl, rfl, rfl⟩
theorem cf_spec_nuPrime : ∀ args w, (callFunc 90 args).run Try.prog w = .ok (.enter 90 args) w := run_callFunc Try.func90 (by kernel_rfl) (by kernel_rfl)
theorem s_spec_nuPrime {vn1 : Int} {r : Bool} (h : r_spec_nuPrime vn1 = some r) : CallS Try.prog 90 [I vn1] (Bo r) [] := by
  refine CallS_of_text (rs := [.t 2]) (vs := [.tmp 2]) Try.func90 rfl rfl (.cons rfl FitsL.nil) (by decide) 17 rfl ?_
  unfold r_spec_nuPrime at h
  show V _ _ ⟨I vn1 :: bt 16 [], []⟩ _
  refine V_e (mb 17 1) [] (s1 := ⟨I vn1 :: bt 16 [], []⟩) ?_
  refine V_seq ?_
  refine V_e (mb 17 33) [] (s1 := ⟨I vn1 :: bt 4 (Bo (ltI vn1 2) :: bt 11 []), []⟩) ?_
  refine V_cond rfl (fun hc2 => ?_) (fun hc2 => ?_)
  ·have h := of_true h hc2
   refine V_e (mb 17 4) [] (s1 := ⟨.bot :: .bot :: Bo false :: bt 14 [], []⟩) ?_
   refine V_ret ?_
   obtain rfl := some_inj h
   show Post _ _ _ _ _
   exact ⟨.inr rfl, rfl, rfl, rfl⟩
  ·have h := of_false h hc2
   refine V_skip ?_
   show V _ _ _ _
   refine V_seq ?_
   refine V_e (mb 17 9) [] (s1 := ⟨I vn1 :: .bot :: .bot :: I 2 :: bt 13 [], []⟩) ?_
   obtain ⟨qo5, hLo5, hko5⟩ := of_bind h
   refine V_toS (q := qo5) (S := fun o5 => ⟨bt 17 [], []⟩) (mb 17 0) [] ?_ ?_
   ·refine V_block (V_loop (fun n s => ∃ (d3 : Int), s.keep (mb 17 9) [] = (⟨I vn1 :: .bot :: .bot :: I d3 :: bt 13 [], []⟩ : St) ∧ r_spec_nuPrime_L4 vn1 n d3 = some qo5) FU ⟨_,  by rfl, hLo5⟩ ?_)
    clear hLo5
    rintro n s ⟨d3, hs, h⟩
    refine V_keep _ _ hs ?_
    clear hs
    cases n with
    | zero => cases h
    | succ n =>
     rw [r_spec_nuPrime_L4] at h
     refine V_seq ?_
     refine V_e (mb 17 1033) [] (s1 := ⟨I vn1 :: .bot :: .bot :: I d3 :: bt 6 (Bo (leI (w64 (d3 * d3)) vn1) :: bt 6 []), []⟩) ?_
     refine V_cond rfl (fun hc6 => ?_) (fun hc6 => ?_)
     ·have h := of_true h hc6
      refine V_skip ?_
      show V _ _ _ _
      refine V_seq ?_
      refine V_block ?_
      obtain ⟨z7, hz7, h⟩ := of_bind h
      refine V_sreg (mb 17 65545) [] (s1 := ⟨I vn1 :: .bot :: .bot :: I d3 :: bt 12 (Bo (eqI (Int.tmod vn1 d3) 0) :: []), []⟩) ?_ ?_
      ·refine XR 2 ?_
       refine L0 rfl rfl (Y0_rem (k := .i64) (a := vn1) (b := d3) rfl (by kernel_rfl) (by kernel_rfl) (nz_some hz7)) ?_
       exact XE
      refine V_cond rfl (fun hc8 => ?_) (fun hc8 => ?_)
      ·have h := of_true h hc8
       refine V_e (mb 17 4) [] (s1 := ⟨.bot :: .bot :: Bo false :: bt 14 [], []⟩) ?_
       refine V_ret ?_
       obtain rfl := some_inj h
       have h := hko5
       obtain rfl := some_inj h
       show Post _ _ _ _ _
       exact ⟨.inr rfl, rfl, rfl, rfl⟩
      ·have h := of_false h hc8
       refine V_skip ?_
       show V _ _ _ _
       obtain ⟨d9, hd9, h⟩ := of_sI h
       refine V_reg (mb 17 9) [] (s1 := ⟨I vn1 :: .bot :: .bot :: I d9 :: bt 13 [], []⟩) ?_ ?_
       ·refine XR 3 ?_
        refine XL_nil ?_
        subst hd9
        kernel_rfl
       exact ⟨n, Nat.lt_succ_self n, _,  by rfl, h⟩
     ·have h := of_false h hc6
      refine V_exit ?_
      obtain rfl := some_inj h
      exact ⟨_, rfl, by rfl⟩
   rintro o5 rfl
   have h := hko5
   clear hko5
   show V _ _ _ _
   refine V_e (mb 17 4) [] (s1 := ⟨.bot :: .bot :: Bo true :: bt 14 [], []⟩) ?_
   refine V_ret ?_
   obtain rfl := some_inj h
   show Post _ _ _ _ _
   exact ⟨.inr rfl, rfl, rfl, rfl⟩
theorem cf_spec_hkPrime : ∀ args w, (callFunc 51 args).run Try.prog w = .ok (.enter 51 args) w := run_callFunc Try.func51 (by kernel_rfl) (by kernel_rfl)
theorem s_spec_hkPrime {p1 : Int} {r : Bool} (h : r_spec_hkPrime p1 = some r) : CallS Try.prog 51 [I p1] (Bo r) [] := by
  refine CallS_of_text (rs := [.t 2]) (vs := [.tmp 2]) Try.func51 rfl rfl (.cons rfl FitsL.nil) (by decide) 9 rfl ?_
  unfold r_spec_hkPrime at h
  show V _ _ ⟨I p1 :: bt 8 [], []⟩ _
  refine V_e (mb 9 1) [] (s1 := ⟨I p1 :: bt 8 [], []⟩) ?_
  obtain ⟨y2, hy2, h⟩ := of_bind h
  obtain ⟨b5, hb5, h⟩ := of_bind h
  refine V_sreg (mb 9 4) [] (s1 := ⟨.bot :: .bot :: Bo b5 :: bt 6 [], []⟩) ?_ ?_
  ·refine XR 1 ?_
   refine XC (s_spec_l1In hy2) cf_spec_l1In rfl rfl rfl ?_
   refine XR 1 ?_
   refine XL_split y2 (fun hc3 => ?_) (fun hc3 => ?_)
   ·have hb5 := of_true hb5 hc3
    obtain ⟨y4, hy4, hb5⟩ := of_bind hb5
    have hb5 := some_inj hb5
    refine XL_takeC _ rfl rfl (by kernel_rfl) hc3 (X_of_Y0 rfl (E_move (I p1) rfl (by kernel_rfl))) ?_
    refine XL_takeC _ rfl rfl (by kernel_rfl) hc3 (X_of_Y1 rfl (Y1_call (s_spec_nuPrime hy4) cf_spec_nuPrime rfl (by kernel_rfl))) ?_
    refine XL_cons rfl (X_of_Y0 rfl (Y0_pickTe (b := y2) (p := y4) rfl (by kernel_rfl) hc3 (by kernel_rfl) hb5)) ?_
    exact XE
   ·have hb5 := some_inj (of_false hb5 hc3)
    refine XL_skipT _ rfl rfl (by kernel_rfl) hc3 rfl ?_
    refine XL_skipT _ rfl rfl (by kernel_rfl) hc3 rfl ?_
    refine XL_cons rfl (X_of_Y0 rfl (Y0_pickFe (b := y2) (p := false) rfl (by kernel_rfl) hc3 (by kernel_rfl) hb5)) ?_
    exact XE
  refine V_ret ?_
  obtain rfl := some_inj h
  show Post _ _ _ _ _
  exact ⟨.inr rfl, rfl, rfl, rfl⟩
theorem cf_spec_foDisc : ∀ args w, (callFunc 79 args).run Try.prog w = .ok (.enter 79 args) w := run_callFunc Try.func79 (by kernel_rfl) (by kernel_rfl)
theorem s_spec_foDisc {f1 : (Int × Int × Int)} {r : Int} (h : r_spec_foDisc f1 = some r) : CallS Try.prog 79 [.ag [Ti f1.1, Ti f1.2.1, Ti f1.2.2]] (I r) [] := by
  refine CallS_of_text (rs := [.t 2]) (vs := [.tmp 2]) Try.func79 rfl rfl (.cons rfl FitsL.nil) (by decide) 15 rfl ?_
  unfold r_spec_foDisc at h
  show V _ _ ⟨.ag [Ti f1.1, Ti f1.2.1, Ti f1.2.2] :: bt 14 [], []⟩ _
  refine V_e (mb 15 2) [8] (s1 := ⟨.bot :: .pt 8 0 :: bt 13 [], [(8, .box [Ti f1.1, Ti f1.2.1, Ti f1.2.2])]⟩) ?_
  obtain ⟨t2, ht2, h⟩ := of_sI h
  refine V_sreg (mb 15 4) [] (s1 := ⟨.bot :: .bot :: I t2 :: bt 12 [], []⟩) ?_ ?_
  ·refine XR 13 ?_
   refine XL_nil ?_
   subst ht2
   kernel_rfl
  refine V_ret ?_
  obtain rfl := some_inj h
  show Post _ _ _ _ _
  exact ⟨.inr rfl, rfl, rfl, rfl⟩
end Go.Proofs.Ytafomkclmkfjeaa
