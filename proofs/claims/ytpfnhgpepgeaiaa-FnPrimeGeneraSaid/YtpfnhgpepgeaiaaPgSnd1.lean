/-
  The functions of the program compute what the plain functions say.
  Conditions: none.
-/
import Derived.Test.YtpfnhgpepgeaiaaShZ
import Derived.Test.YtpfnhgpepgeaiaaPgRaw
import Derived.Test.YtpfnhgpepgeaiaaRows
namespace Go.Proofs.Ytpfnhgpepgeaiaa
open Go.RowKit
set_option linter.unusedVariables false
set_option linter.unusedSimpArgs false
def c5 (x : Int) : List Tr := [.v (.int .u8 x)]
def c3 (x : Int) : List Tr := [Ti x]
def c94 (x : (Int × Int)) : List Tr := [Ti x.1, Ti x.2]
def c43 (x : (Int × Int × Int)) : List Tr := [Ti x.1, Ti x.2.1, Ti x.2.2]
def c97 (x : (Int × Int)) : List Tr := [Ti x.1, Ti x.2]
def zv3 : Value := .int .i64 0
theorem zf3 : (Try.prog.info? 3).bind (·.zero) = some zv3 := by kernel_rfl
def zv43 : Value := .agg #[.int .i64 0, .int .i64 0, .int .i64 0]
theorem zf43 : (Try.prog.info? 43).bind (·.zero) = some zv43 := by kernel_rfl
def zv82 : Value := .agg #[.int .i64 0, .int .i64 0, .int .i64 0]
theorem zf82 : (Try.prog.info? 82).bind (·.zero) = some zv82 := by kernel_rfl
def zv94 : Value := .agg #[.int .i64 0, .int .i64 0]
theorem zf94 : (Try.prog.info? 94).bind (·.zero) = some zv94 := by kernel_rfl
def zv97 : Value := .agg #[.int .i64 0, .int .i64 0]
theorem zf97 : (Try.prog.info? 97).bind (·.zero) = some zv97 := by kernel_rfl
def zv99 : Value := .agg #[.int .i64 0, .int .i64 0, .int .i64 0, .int .i64 0]
theorem zf99 : (Try.prog.info? 99).bind (·.zero) = some zv99 := by kernel_rfl
theorem iz3 : (Try.prog.info? 3).map (fun i => (i.zero, i.size)) = some (some zv3, 1) := by kernel_rfl
theorem iz43 : (Try.prog.info? 43).map (fun i => (i.zero, i.size)) = some (some zv43, 3) := by kernel_rfl
theorem iz94 : (Try.prog.info? 94).map (fun i => (i.zero, i.size)) = some (some zv94, 2) := by kernel_rfl
theorem iz97 : (Try.prog.info? 97).map (fun i => (i.zero, i.size)) = some (some zv97, 2) := by kernel_rfl
theorem izb3 : (Try.prog.info? 3).map (fun i => (i.zero, i.size, i.bytes)) = some (some zv3, 1, 8) := by kernel_rfl
theorem izb43 : (Try.prog.info? 43).map (fun i => (i.zero, i.size, i.bytes)) = some (some zv43, 3, 24) := by kernel_rfl
theorem izb94 : (Try.prog.info? 94).map (fun i => (i.zero, i.size, i.bytes)) = some (some zv94, 2, 16) := by kernel_rfl
theorem izb97 : (Try.prog.info? 97).map (fun i => (i.zero, i.size, i.bytes)) = some (some zv97, 2, 16) := by kernel_rfl
theorem sc3 : scalar Try.prog 3 := ⟨_, Try.underlying3, rfl⟩
theorem sc5 : scalar Try.prog 5 := ⟨_, Try.underlying5, rfl⟩
theorem sc22 : scalar Try.prog 22 := ⟨_, Try.underlying22, rfl⟩
theorem sc55 : scalar Try.prog 55 := ⟨_, Try.underlying55, rfl⟩
theorem sz3 : (Try.prog.info? 3).map (·.size) = some 1 := by kernel_rfl
theorem sz5 : (Try.prog.info? 5).map (·.size) = some 1 := by kernel_rfl
theorem sz22 : (Try.prog.info? 22).map (·.size) = some 1 := by kernel_rfl
theorem sz43 : (Try.prog.info? 43).map (·.size) = some 3 := by kernel_rfl
theorem sz55 : (Try.prog.info? 55).map (·.size) = some 1 := by kernel_rfl
theorem sz82 : (Try.prog.info? 82).map (·.size) = some 3 := by kernel_rfl
theorem sz94 : (Try.prog.info? 94).map (·.size) = some 2 := by kernel_rfl
theorem sz97 : (Try.prog.info? 97).map (·.size) = some 2 := by kernel_rfl
theorem sz99 : (Try.prog.info? 99).map (·.size) = some 4 := by kernel_rfl
theorem wd43 : wide Try.prog 43 3 := ⟨⟨_, Try.underlying43, rfl⟩, by kernel_rfl⟩
theorem wd82 : wide Try.prog 82 3 := ⟨⟨_, Try.underlying82, rfl⟩, by kernel_rfl⟩
theorem wd94 : wide Try.prog 94 2 := ⟨⟨_, Try.underlying94, rfl⟩, by kernel_rfl⟩
theorem wd97 : wide Try.prog 97 2 := ⟨⟨_, Try.underlying97, rfl⟩, by kernel_rfl⟩
theorem wd99 : wide Try.prog 99 4 := ⟨⟨_, Try.underlying99, rfl⟩, by kernel_rfl⟩
def pl43 : Nat → Option (Nat × Nat) := fun i => (#[(0, 1), (1, 1), (2, 1)] : Array (Nat × Nat))[i]?
theorem bt43 : ∀ ps, Try.prog.built 43 ps = Instr.fill pl43 #[.int .i64 0, .int .i64 0, .int .i64 0] ps := fun ps => by kernel_rfl
def pl57 : Nat → Option (Nat × Nat) := fun i => (#[(0, 1), (1, 1), (2, 1)] : Array (Nat × Nat))[i]?
theorem bt57 : ∀ ps, Try.prog.built 57 ps = Instr.fill pl57 #[.slice none 0 0, .int .i64 0, .int .u64 0] ps := fun ps => by kernel_rfl
def pl82 : Nat → Option (Nat × Nat) := fun i => (#[(0, 1), (1, 1), (2, 1)] : Array (Nat × Nat))[i]?
theorem bt82 : ∀ ps, Try.prog.built 82 ps = Instr.fill pl82 #[.int .i64 0, .int .i64 0, .int .i64 0] ps := fun ps => by kernel_rfl
def pl94 : Nat → Option (Nat × Nat) := fun i => (#[(0, 1), (1, 1)] : Array (Nat × Nat))[i]?
theorem bt94 : ∀ ps, Try.prog.built 94 ps = Instr.fill pl94 #[.int .i64 0, .int .i64 0] ps := fun ps => by kernel_rfl
def pl97 : Nat → Option (Nat × Nat) := fun i => (#[(0, 1), (1, 1)] : Array (Nat × Nat))[i]?
theorem bt97 : ∀ ps, Try.prog.built 97 ps = Instr.fill pl97 #[.int .i64 0, .int .i64 0] ps := fun ps => by kernel_rfl
def pl99 : Nat → Option (Nat × Nat) := fun i => (#[(0, 1), (1, 1), (2, 1), (3, 1)] : Array (Nat × Nat))[i]?
theorem bt99 : ∀ ps, Try.prog.built 99 ps = Instr.fill pl99 #[.int .i64 0, .int .i64 0, .int .i64 0, .int .i64 0] ps := fun ps => by kernel_rfl
theorem eqg43 : EqAg3 Try.prog .eql 43 := by
  intro a0 a1 a2 b0 b1 b2 x y w
  have hg : (eqGuard .eql 43 x y (.agg #[.int .i64 a0, .int .i64 a1, .int .i64 a2]) (.agg #[.int .i64 b0, .int .i64 b1, .int .i64 b2])).run Try.prog w = .ok () w := by simp [eqGuard, (by kernel_rfl : Try.prog.eqGuardType Try.prog.depth 43 = false)]
  have hf : (Try.prog.fieldsOf 43).toList = (match Try.prog.underlying 43 with | some (.struct fs) => fs.toList | _ => []) := by kernel_rfl
  refine ⟨hg, ?_⟩
  rw [run_eql_struct, run_equalIn_agg (d := 9999) (ht := by kernel_rfl) (hp := by kernel_rfl), hf, Try.underlying43]
  by_cases h0 : a0 = b0 <;> by_cases h1 : a1 = b1 <;> by_cases h2 : a2 = b2 <;> simp [Op.eqFields, part, go_sem, h0, h1, h2]
theorem neg43 : EqAg3 Try.prog .neq 43 := by
  intro a0 a1 a2 b0 b1 b2 x y w
  have hg : (eqGuard .neq 43 x y (.agg #[.int .i64 a0, .int .i64 a1, .int .i64 a2]) (.agg #[.int .i64 b0, .int .i64 b1, .int .i64 b2])).run Try.prog w = .ok () w := by simp [eqGuard, (by kernel_rfl : Try.prog.eqGuardType Try.prog.depth 43 = false)]
  have hf : (Try.prog.fieldsOf 43).toList = (match Try.prog.underlying 43 with | some (.struct fs) => fs.toList | _ => []) := by kernel_rfl
  refine ⟨hg, ?_⟩
  rw [run_neq_struct, run_equalIn_agg (d := 9999) (ht := by kernel_rfl) (hp := by kernel_rfl), hf, Try.underlying43]
  by_cases h0 : a0 = b0 <;> by_cases h1 : a1 = b1 <;> by_cases h2 : a2 = b2 <;> simp [Op.eqFields, part, go_sem, h0, h1, h2]
theorem cf_laws_big : ∀ args w, (callFunc 6 args).run Try.prog w = .ok (.enter 6 args) w := run_callFunc Try.func6 (by kernel_rfl) (by kernel_rfl)
set_option maxRecDepth 100000 in
set_option maxHeartbeats 400000 in
theorem s_laws_big {code1 : List Int} {more2 : List Int} {r : Bool} (h : r_laws_big code1 more2 = some r) : CallS Try.prog 6 [.c (.sl (code1.map c5)), .c (.sl (more2.map c5))] (Bo r) [] := by
  refine CallS_of_text (rs := [.t 4]) (vs := [.tmp 4]) Try.func6 rfl rfl (.cons rfl FitsL.nil) (by decide) 16 rfl ?_
  unfold r_laws_big at h
  show V _ _ ⟨.c (.sl (code1.map c5)) :: .c (.sl (more2.map c5)) :: bt 14 [], []⟩ _
  refine V_sreg (mb 16 3) [] (s1 := ⟨.c (.sl (code1.map c5)) :: .c (.sl (more2.map c5)) :: bt 14 [], []⟩) ?_ ?_
  ·refine L0 rfl rfl (E_assign (Bo false) rfl (by kernel_rfl)) ?_
   refine XL_nil ?_
   kernel_rfl
  obtain ⟨t4, ht4, h⟩ := of_bind h
  have ht4 := some_inj ht4
  refine V_sreg (mb 16 16) [] (s1 := ⟨bt 4 (Bo t4 :: bt 11 []), []⟩) ?_ ?_
  ·refine L0 rfl rfl (E_move (.c (.sl (code1.map c5))) rfl (by kernel_rfl)) ?_
   refine L0 rfl rfl (Y0_lenM (c := c5) (xs := code1) Try.underlying22 rfl (by kernel_rfl)) ?_
   refine L0 rfl rfl (Y0_gtw (k := .i64) (a := (code1.length : Int)) (b := 1048576) rfl (by kernel_rfl) (by kernel_rfl)) ?_
   refine L0 rfl rfl (E_move (Bo (ltI 1048576 ((code1.length : Int)))) rfl (by kernel_rfl)) ?_
   refine XL_split (ltI 1048576 ((code1.length : Int))) (fun hc3 => ?_) (fun hc3 => ?_)
   ·refine XL_skipF _ rfl rfl (by kernel_rfl) hc3 rfl ?_
    refine XL_skipF _ rfl rfl (by kernel_rfl) hc3 rfl ?_
    refine XL_skipF _ rfl rfl (by kernel_rfl) hc3 rfl ?_
    refine XL_skipF _ rfl rfl (by kernel_rfl) hc3 rfl ?_
    refine XL_skipF _ rfl rfl (by kernel_rfl) hc3 rfl ?_
    refine XL_skipF _ rfl rfl (by kernel_rfl) hc3 rfl ?_
    refine XL_cons rfl (X_of_Y0 rfl (Y0_pick1 (b := ltI 1048576 ((code1.length : Int))) (p := true) (q := ltI (w64 (1048576 - ((code1.length : Int)))) ((more2.length : Int))) rfl (by kernel_rfl) hc3 (by kernel_rfl))) ?_
    refine L0 rfl rfl (E_assign (Bo (bif (ltI 1048576 ((code1.length : Int))) then true else (ltI (w64 (1048576 - ((code1.length : Int)))) ((more2.length : Int))))) rfl (by kernel_rfl)) ?_
    refine XL_nil ?_
    subst ht4
    kernel_rfl
   ·refine XL_takeC _ rfl rfl (by kernel_rfl) hc3 (X_of_Y0 rfl (E_move (.c (.sl (more2.map c5))) rfl (by kernel_rfl))) ?_
    refine XL_takeC _ rfl rfl (by kernel_rfl) hc3 (X_of_Y0 rfl (Y0_lenM (c := c5) (xs := more2) Try.underlying22 rfl (by kernel_rfl))) ?_
    refine XL_takeC _ rfl rfl (by kernel_rfl) hc3 (X_of_Y0 rfl (E_move (.c (.sl (code1.map c5))) rfl (by kernel_rfl))) ?_
    refine XL_takeC _ rfl rfl (by kernel_rfl) hc3 (X_of_Y0 rfl (Y0_lenM (c := c5) (xs := code1) Try.underlying22 rfl (by kernel_rfl))) ?_
    refine XL_takeC _ rfl rfl (by kernel_rfl) hc3 (X_of_Y0 rfl (Y0_sub64 (a := 1048576) (b := (code1.length : Int)) rfl (by kernel_rfl) (by kernel_rfl))) ?_
    refine XL_takeC _ rfl rfl (by kernel_rfl) hc3 (X_of_Y0 rfl (Y0_gtw (k := .i64) (a := (more2.length : Int)) (b := w64 (1048576 - ((code1.length : Int)))) rfl (by kernel_rfl) (by kernel_rfl))) ?_
    refine XL_cons rfl (X_of_Y0 rfl (Y0_pick0 (b := ltI 1048576 ((code1.length : Int))) (p := true) (q := ltI (w64 (1048576 - ((code1.length : Int)))) ((more2.length : Int))) rfl (by kernel_rfl) hc3 (by kernel_rfl))) ?_
    refine L0 rfl rfl (E_assign (Bo (bif (ltI 1048576 ((code1.length : Int))) then true else (ltI (w64 (1048576 - ((code1.length : Int)))) ((more2.length : Int))))) rfl (by kernel_rfl)) ?_
    refine XL_nil ?_
    subst ht4
    kernel_rfl
  refine V_ret ?_
  obtain rfl := some_inj h
  show Post _ _ _ _ _
  exact ⟨.inr rfl, rfl, rfl, rfl⟩
theorem cf_spec_l1Cur_next : ∀ args w, (callFunc 120 args).run Try.prog w = .ok (.enter 120 args) w := run_callFunc Try.func120 (by kernel_rfl) (by kernel_rfl)
set_option maxRecDepth 100000 in
set_option maxHeartbeats 400000 in
theorem s_spec_l1Cur_next {c1 : ((List Int) × Int × Int)} {r : (Int × (((List Int) × Int × Int)))} (h : r_spec_l1Cur_next c1 = some r) : CallR Try.prog 120 [.pt 80000 0] [(80000, .box [.sl (c1.1.map c5), Ti c1.2.1, .v (.int .u64 c1.2.2)])] (I r.1) [] [(80000, .box [.sl (r.2.1.map c5), Ti r.2.2.1, .v (.int .u64 r.2.2.2)])] := by
  refine CallR_of_text (rs := [.t 2]) (vs := [.tmp 2]) Try.func120 rfl rfl (.cons rfl FitsL.nil) (by decide) 62 rfl rfl fun σ => ?_
  unfold r_spec_l1Cur_next at h
  show V _ _ ⟨.pt 80000 0 :: bt 61 [], [(80000, .pbox (σ 80000) [.sl (c1.1.map c5), Ti c1.2.1, .v (.int .u64 c1.2.2)])]⟩ _
  refine V_sreg (mb 62 1) [80000] (s1 := ⟨.pt 80000 0 :: bt 61 [], [(80000, .pbox (σ 80000) [.sl (c1.1.map c5), Ti c1.2.1, .v (.int .u64 c1.2.2)])]⟩) ?_ ?_
  ·refine L0 rfl rfl (E_assign (I 0) rfl (by kernel_rfl)) ?_
   refine XL_nil ?_
   kernel_rfl
  refine V_sreg (mb 62 9) [80000] (s1 := ⟨.pt 80000 0 :: .bot :: .bot :: I 0 :: bt 58 [], [(80000, .pbox (σ 80000) [.sl (c1.1.map c5), Ti c1.2.1, .v (.int .u64 c1.2.2)])]⟩) ?_ ?_
  ·refine L0 rfl rfl (E_assign (I 0) rfl (by kernel_rfl)) ?_
   refine XL_nil ?_
   kernel_rfl
  obtain ⟨j2, hj2, h⟩ := of_bind h
  refine V_cutK (mb 62 9) [80000] (s1 := ⟨.pt 80000 0 :: .bot :: .bot :: I j2 :: bt 58 [], [(80000, .pbox (σ 80000) [.sl (c1.1.map c5), Ti c1.2.1, .v (.int .u64 c1.2.2)])]⟩) ?_ ?_
  ·clear h
   have h := hj2
   clear hj2
   refine V_sdreg [0, 1, 3, 7, 0, 16, 48, 112, 240, 511] 10 [[.z, .z, .z, .z, .b, .b, .b, .b, .b, .z], [.a, .z, .z, .z, .b, .b, .b, .b, .b, .z], [.a, .a, .z, .z, .b, .b, .b, .b, .b, .z], [.a, .a, .a, .z, .b, .b, .b, .b, .b, .z], [.b, .b, .b, .b, .z, .z, .z, .z, .z, .z], [.b, .b, .b, .b, .a, .z, .z, .z, .z, .z], [.b, .b, .b, .b, .a, .a, .z, .z, .z, .z], [.b, .b, .b, .b, .a, .a, .a, .z, .z, .z], [.b, .b, .b, .b, .a, .a, .a, .a, .z, .z], [.a, .a, .a, .a, .a, .a, .a, .a, .a, .z]] (mb 62 8201) [80000] (s1 := ⟨.pt 80000 0 :: .bot :: .bot :: I 0 :: bt 9 (Bo (ltI c1.2.1 ((c1.1.length : Int))) :: bt 48 []), [(80000, .pbox (σ 80000) [.sl (c1.1.map c5), Ti c1.2.1, .v (.int .u64 c1.2.2)])]⟩) (by kernel_rfl) (by kernel_rfl) ?_ ?_
   ·refine DE_0 0 (.pt 80000 0) (by kernel_rfl) rfl rfl rfl (gsat_none rfl) (by kernel_rfl) (E_move (.pt 80000 0) rfl (by kernel_rfl)) 4 rfl ?_
    refine DE_0 1 (.pt 80000 0) (by kernel_rfl) rfl rfl rfl (gsat_none rfl) (by kernel_rfl) (E_nil (.pt 80000 0) rfl (by kernel_rfl) (by intro hh; cases hh)) 5 rfl ?_
    refine DE_0 2 (.pt 80000 1) (by kernel_rfl) rfl rfl rfl (gsat_none rfl) (by kernel_rfl) (E_field (.pt 80000 1) Try.underlying57 rfl sz3 rfl (by kernel_rfl) (by intro hh; cases hh)) 6 rfl ?_
    refine DE_0 3 (I c1.2.1) (by kernel_rfl) rfl rfl rfl (gsat_none rfl) (by kernel_rfl) (Y0_load1 (c := Ti c1.2.1) (cs := [.v (.int .u64 c1.2.2)]) sc3 rfl (by kernel_rfl)) 7 rfl ?_
    refine DE_0 4 (.pt 80000 0) (by kernel_rfl) rfl rfl rfl (gsat_none rfl) (by kernel_rfl) (E_move (.pt 80000 0) rfl (by kernel_rfl)) 8 rfl ?_
    refine DE_0 5 (.pt 80000 0) (by kernel_rfl) rfl rfl rfl (gsat_none rfl) (by kernel_rfl) (E_nil (.pt 80000 0) rfl (by kernel_rfl) (by intro hh; cases hh)) 9 rfl ?_
    refine DE_0 6 (.pt 80000 0) (by kernel_rfl) rfl rfl rfl (gsat_none rfl) (by kernel_rfl) (E_field (.pt 80000 0) Try.underlying57 rfl sz22 rfl (by kernel_rfl) (by intro hh; cases hh)) 10 rfl ?_
    refine DE_0 7 (.c (.sl (c1.1.map c5))) (by kernel_rfl) rfl rfl rfl (gsat_none rfl) (by kernel_rfl) (Y0_load1 (c := .sl (c1.1.map c5)) (cs := [Ti c1.2.1, .v (.int .u64 c1.2.2)]) sc22 rfl (by kernel_rfl)) 11 rfl ?_
    refine DE_0 8 (I ((c1.1.length : Int))) (by kernel_rfl) rfl rfl rfl (gsat_none rfl) (by kernel_rfl) (Y0_lenM (c := c5) (xs := c1.1) Try.underlying22 rfl (by kernel_rfl)) 12 rfl ?_
    refine DE_0 9 (Bo (ltI c1.2.1 ((c1.1.length : Int)))) (by kernel_rfl) rfl rfl rfl (gsat_none rfl) (by kernel_rfl) (Y0_ltw (k := .i64) (a := c1.2.1) (b := (c1.1.length : Int)) rfl (by kernel_rfl) (by kernel_rfl)) 13 rfl ?_
    refine DL_nil (by kernel_rfl) ?_
    refine XL_nil ?_
    kernel_rfl
   refine V_cond rfl (fun hc3 => ?_) (fun hc3 => ?_)
   ·have h := of_true h hc3
    obtain ⟨e4, he4, h⟩ := of_bind h
    obtain ⟨b5, hb5, h⟩ := of_sI h
    refine V_dreg [0, 1, 3, 7, 0, 16, 48, 112, 255, 511, 1023, 2047] 12 [[.z, .z, .z, .z, .b, .b, .b, .b, .z, .z, .z, .z], [.a, .z, .z, .z, .b, .b, .b, .b, .z, .z, .z, .z], [.a, .a, .z, .z, .b, .b, .b, .b, .z, .z, .z, .z], [.a, .a, .a, .z, .b, .b, .b, .b, .z, .z, .z, .z], [.b, .b, .b, .b, .z, .z, .z, .z, .z, .z, .z, .z], [.b, .b, .b, .b, .a, .z, .z, .z, .z, .z, .z, .z], [.b, .b, .b, .b, .a, .a, .z, .z, .z, .z, .z, .z], [.b, .b, .b, .b, .a, .a, .a, .z, .z, .z, .z, .z], [.a, .a, .a, .a, .a, .a, .a, .a, .z, .z, .z, .z], [.a, .a, .a, .a, .a, .a, .a, .a, .a, .z, .z, .z], [.a, .a, .a, .a, .a, .a, .a, .a, .a, .a, .z, .z], [.a, .a, .a, .a, .a, .a, .a, .a, .a, .a, .a, .z]] (mb 62 9) [80000] (s1 := ⟨.pt 80000 0 :: .bot :: .bot :: I b5 :: bt 58 [], [(80000, .pbox (σ 80000) [.sl (c1.1.map c5), Ti c1.2.1, .v (.int .u64 c1.2.2)])]⟩) (by kernel_rfl) (by kernel_rfl) ?_ ?_
    ·refine DE_0 0 (.pt 80000 0) (by kernel_rfl) rfl rfl rfl (gsat_none rfl) (by kernel_rfl) (E_move (.pt 80000 0) rfl (by kernel_rfl)) 14 rfl ?_
     refine DE_0 1 (.pt 80000 0) (by kernel_rfl) rfl rfl rfl (gsat_none rfl) (by kernel_rfl) (E_nil (.pt 80000 0) rfl (by kernel_rfl) (by intro hh; cases hh)) 15 rfl ?_
     refine DE_0 2 (.pt 80000 0) (by kernel_rfl) rfl rfl rfl (gsat_none rfl) (by kernel_rfl) (E_field (.pt 80000 0) Try.underlying57 rfl sz22 rfl (by kernel_rfl) (by intro hh; cases hh)) 16 rfl ?_
     refine DE_0 3 (.c (.sl (c1.1.map c5))) (by kernel_rfl) rfl rfl rfl (gsat_none rfl) (by kernel_rfl) (Y0_load1 (c := .sl (c1.1.map c5)) (cs := [Ti c1.2.1, .v (.int .u64 c1.2.2)]) sc22 rfl (by kernel_rfl)) 17 rfl ?_
     refine DE_0 4 (.pt 80000 0) (by kernel_rfl) rfl rfl rfl (gsat_none rfl) (by kernel_rfl) (E_move (.pt 80000 0) rfl (by kernel_rfl)) 18 rfl ?_
     refine DE_0 5 (.pt 80000 0) (by kernel_rfl) rfl rfl rfl (gsat_none rfl) (by kernel_rfl) (E_nil (.pt 80000 0) rfl (by kernel_rfl) (by intro hh; cases hh)) 19 rfl ?_
     refine DE_0 6 (.pt 80000 1) (by kernel_rfl) rfl rfl rfl (gsat_none rfl) (by kernel_rfl) (E_field (.pt 80000 1) Try.underlying57 rfl sz3 rfl (by kernel_rfl) (by intro hh; cases hh)) 20 rfl ?_
     refine DE_0 7 (I c1.2.1) (by kernel_rfl) rfl rfl rfl (gsat_none rfl) (by kernel_rfl) (Y0_load1 (c := Ti c1.2.1) (cs := [.v (.int .u64 c1.2.2)]) sc3 rfl (by kernel_rfl)) 21 rfl ?_
     refine DE_0 8 (.pe [.v (.int .u8 e4)]) (by kernel_rfl) rfl rfl rfl (gsat_none rfl) (by kernel_rfl) (Y0_idxM (c := c5) (xs := c1.1) (v := e4) (n := c1.2.1) Try.underlying22 sz5 rfl (by kernel_rfl) (by kernel_rfl) he4) 22 rfl ?_
     refine DE_0 9 (.c (.v (.int .u8 e4))) (by kernel_rfl) rfl rfl rfl (gsat_none rfl) (by kernel_rfl) (Y0_load1 (c := .v (.int .u8 e4)) (cs := []) sc5 rfl (by kernel_rfl)) 23 rfl ?_
     refine DE_0 10 (I (IntKind.i64.wrap e4)) (by kernel_rfl) rfl rfl rfl (gsat_none rfl) (by kernel_rfl) (Y0_conv (k2 := .u8) (a := e4) Try.underlying5 Try.underlying3 rfl (by kernel_rfl)) 24 rfl ?_
     refine DE_0 11 (I (IntKind.i64.wrap e4)) (by kernel_rfl) rfl rfl rfl (gsat_none rfl) (by kernel_rfl) (E_assign (I (IntKind.i64.wrap e4)) rfl (by kernel_rfl)) 3 rfl ?_
     refine DL_nil (by kernel_rfl) ?_
     refine XL_nil ?_
     subst hb5
     kernel_rfl
    obtain rfl := some_inj h
    show St.keep _ _ _ = _
    rfl
   ·have h := of_false h hc3
    refine V_skip ?_
    obtain rfl := some_inj h
    show St.keep _ _ _ = _
    rfl
  obtain ⟨f6, hf6, h⟩ := of_sI h
  refine V_sreg (mb 62 9) [80000] (s1 := ⟨.pt 80000 0 :: .bot :: .bot :: I j2 :: bt 58 [], [(80000, .pbox (σ 80000) [.sl (c1.1.map c5), Ti f6, .v (.int .u64 c1.2.2)])]⟩) ?_ ?_
  ·refine L0 rfl rfl (E_move (.pt 80000 0) rfl (by kernel_rfl)) ?_
   refine L0 rfl rfl (E_nil (.pt 80000 0) rfl (by kernel_rfl) (by intro hh; cases hh)) ?_
   refine L0 rfl rfl (E_field (.pt 80000 1) Try.underlying57 rfl sz3 rfl (by kernel_rfl) (by intro hh; cases hh)) ?_
   refine L0 rfl rfl (Y0_load1 (c := Ti c1.2.1) (cs := [.v (.int .u64 c1.2.2)]) sc3 rfl (by kernel_rfl)) ?_
   refine L0 rfl rfl (Y0_add64 (a := c1.2.1) (b := 1) rfl (by kernel_rfl) (by kernel_rfl)) ?_
   refine L0 rfl rfl (E_nil (.pt 80000 0) rfl (by kernel_rfl) (by intro hh; cases hh)) ?_
   refine L0 rfl rfl (E_field (.pt 80000 1) Try.underlying57 rfl sz3 rfl (by kernel_rfl) (by intro hh; cases hh)) ?_
   refine XL_cons rfl (E_storep (l := σ 80000) (id := 80000) (off := 1) (cs := [.sl (c1.1.map c5), Ti c1.2.1, .v (.int .u64 c1.2.2)]) (vc := [Ti (w64 (c1.2.1 + 1))]) [.sl (c1.1.map c5), Ti (w64 (c1.2.1 + 1)), .v (.int .u64 c1.2.2)] rfl rfl (by kernel_rfl) (by kernel_rfl) (by kernel_rfl) sz3 (Nat.le_of_ble_eq_true rfl) (by kernel_rfl)) ?_
   refine XL_nil ?_
   subst hf6
   kernel_rfl
  obtain ⟨f7, hf7, h⟩ := of_sI h
  refine V_sreg (mb 62 9) [80000] (s1 := ⟨.pt 80000 0 :: .bot :: .bot :: I j2 :: bt 58 [], [(80000, .pbox (σ 80000) [.sl (c1.1.map c5), Ti f6, .v (.int .u64 f7)])]⟩) ?_ ?_
  ·refine L0 rfl rfl (E_move (.pt 80000 0) rfl (by kernel_rfl)) ?_
   refine L0 rfl rfl (E_move (.pt 80000 0) rfl (by kernel_rfl)) ?_
   refine L0 rfl rfl (E_nil (.pt 80000 0) rfl (by kernel_rfl) (by intro hh; cases hh)) ?_
   refine L0 rfl rfl (E_field (.pt 80000 2) Try.underlying57 rfl sz55 rfl (by kernel_rfl) (by intro hh; cases hh)) ?_
   refine L0 rfl rfl (Y0_load1 (c := .v (.int .u64 c1.2.2)) (cs := []) sc55 rfl (by kernel_rfl)) ?_
   refine L0 rfl rfl (Y0_mul (k := .u64) (a := c1.2.2) (b := 6364136223846793005) rfl (by kernel_rfl) (by kernel_rfl)) ?_
   refine L0 rfl rfl (E_move (I j2) rfl (by kernel_rfl)) ?_
   refine L0 rfl rfl (Y0_conv (k2 := .i64) (a := j2) Try.underlying3 Try.underlying55 rfl (by kernel_rfl)) ?_
   refine L0 rfl rfl (Y0_add (k := .u64) (a := IntKind.u64.wrap (c1.2.2 * 6364136223846793005)) (b := IntKind.u64.wrap j2) rfl (by kernel_rfl) (by kernel_rfl)) ?_
   refine L0 rfl rfl (Y0_add (k := .u64) (a := IntKind.u64.wrap ((IntKind.u64.wrap (c1.2.2 * 6364136223846793005)) + (IntKind.u64.wrap j2))) (b := 1442695040888963407) rfl (by kernel_rfl) (by kernel_rfl)) ?_
   refine L0 rfl rfl (E_nil (.pt 80000 0) rfl (by kernel_rfl) (by intro hh; cases hh)) ?_
   refine L0 rfl rfl (E_field (.pt 80000 2) Try.underlying57 rfl sz55 rfl (by kernel_rfl) (by intro hh; cases hh)) ?_
   refine XL_cons rfl (E_storep (l := σ 80000) (id := 80000) (off := 2) (cs := [.sl (c1.1.map c5), Ti f6, .v (.int .u64 c1.2.2)]) (vc := [.v (.int .u64 (IntKind.u64.wrap ((IntKind.u64.wrap ((IntKind.u64.wrap (c1.2.2 * 6364136223846793005)) + (IntKind.u64.wrap j2))) + 1442695040888963407)))]) [.sl (c1.1.map c5), Ti f6, .v (.int .u64 (IntKind.u64.wrap ((IntKind.u64.wrap ((IntKind.u64.wrap (c1.2.2 * 6364136223846793005)) + (IntKind.u64.wrap j2))) + 1442695040888963407)))] rfl rfl (by kernel_rfl) (by kernel_rfl) (by kernel_rfl) sz55 (Nat.le_of_ble_eq_true rfl) (by kernel_rfl)) ?_
   refine XL_nil ?_
   subst hf7
   kernel_rfl
  refine V_seq ?_
  refine V_sdreg [0, 1, 3, 7, 0, 16, 48, 112, 240, 511] 10 [[.z, .z, .z, .z, .b, .b, .b, .b, .b, .z], [.a, .z, .z, .z, .b, .b, .b, .b, .b, .z], [.a, .a, .z, .z, .b, .b, .b, .b, .b, .z], [.a, .a, .a, .z, .b, .b, .b, .b, .b, .z], [.b, .b, .b, .b, .z, .z, .z, .z, .z, .z], [.b, .b, .b, .b, .a, .z, .z, .z, .z, .z], [.b, .b, .b, .b, .a, .a, .z, .z, .z, .z], [.b, .b, .b, .b, .a, .a, .a, .z, .z, .z], [.b, .b, .b, .b, .a, .a, .a, .a, .z, .z], [.a, .a, .a, .a, .a, .a, .a, .a, .a, .z]] (mb 62 9007199254741001) [80000] (s1 := ⟨.pt 80000 0 :: .bot :: .bot :: I j2 :: bt 49 (Bo (leI f6 ((c1.1.length : Int))) :: bt 8 []), [(80000, .pbox (σ 80000) [.sl (c1.1.map c5), Ti f6, .v (.int .u64 f7)])]⟩) (by kernel_rfl) (by kernel_rfl) ?_ ?_
  ·refine DE_0 0 (.pt 80000 0) (by kernel_rfl) rfl rfl rfl (gsat_none rfl) (by kernel_rfl) (E_move (.pt 80000 0) rfl (by kernel_rfl)) 44 rfl ?_
   refine DE_0 1 (.pt 80000 0) (by kernel_rfl) rfl rfl rfl (gsat_none rfl) (by kernel_rfl) (E_nil (.pt 80000 0) rfl (by kernel_rfl) (by intro hh; cases hh)) 45 rfl ?_
   refine DE_0 2 (.pt 80000 1) (by kernel_rfl) rfl rfl rfl (gsat_none rfl) (by kernel_rfl) (E_field (.pt 80000 1) Try.underlying57 rfl sz3 rfl (by kernel_rfl) (by intro hh; cases hh)) 46 rfl ?_
   refine DE_0 3 (I f6) (by kernel_rfl) rfl rfl rfl (gsat_none rfl) (by kernel_rfl) (Y0_load1 (c := Ti f6) (cs := [.v (.int .u64 f7)]) sc3 rfl (by kernel_rfl)) 47 rfl ?_
   refine DE_0 4 (.pt 80000 0) (by kernel_rfl) rfl rfl rfl (gsat_none rfl) (by kernel_rfl) (E_move (.pt 80000 0) rfl (by kernel_rfl)) 48 rfl ?_
   refine DE_0 5 (.pt 80000 0) (by kernel_rfl) rfl rfl rfl (gsat_none rfl) (by kernel_rfl) (E_nil (.pt 80000 0) rfl (by kernel_rfl) (by intro hh; cases hh)) 49 rfl ?_
   refine DE_0 6 (.pt 80000 0) (by kernel_rfl) rfl rfl rfl (gsat_none rfl) (by kernel_rfl) (E_field (.pt 80000 0) Try.underlying57 rfl sz22 rfl (by kernel_rfl) (by intro hh; cases hh)) 50 rfl ?_
   refine DE_0 7 (.c (.sl (c1.1.map c5))) (by kernel_rfl) rfl rfl rfl (gsat_none rfl) (by kernel_rfl) (Y0_load1 (c := .sl (c1.1.map c5)) (cs := [Ti f6, .v (.int .u64 f7)]) sc22 rfl (by kernel_rfl)) 51 rfl ?_
   refine DE_0 8 (I ((c1.1.length : Int))) (by kernel_rfl) rfl rfl rfl (gsat_none rfl) (by kernel_rfl) (Y0_lenM (c := c5) (xs := c1.1) Try.underlying22 rfl (by kernel_rfl)) 52 rfl ?_
   refine DE_0 9 (Bo (leI f6 ((c1.1.length : Int)))) (by kernel_rfl) rfl rfl rfl (gsat_none rfl) (by kernel_rfl) (Y0_lew (k := .i64) (a := f6) (b := (c1.1.length : Int)) rfl (by kernel_rfl) (by kernel_rfl)) 53 rfl ?_
   refine DL_nil (by kernel_rfl) ?_
   refine XL_nil ?_
   kernel_rfl
  refine V_cond rfl (fun hc8 => ?_) (fun hc8 => ?_)
  ·have h := of_true h hc8
   refine V_sreg (mb 62 4) [80000] (s1 := ⟨.bot :: .bot :: I j2 :: bt 59 [], [(80000, .pbox (σ 80000) [.sl (c1.1.map c5), Ti f6, .v (.int .u64 f7)])]⟩) ?_ ?_
   ·refine L0 rfl rfl (E_move (I j2) rfl (by kernel_rfl)) ?_
    refine L0 rfl rfl (E_assign (I j2) rfl (by kernel_rfl)) ?_
    refine XL_nil ?_
    kernel_rfl
   refine V_ret ?_
   obtain rfl := some_inj h
   show PostR _ _ _ _ _ _
   exact ⟨⟨.inr rfl, rfl, rfl, rfl⟩, ⟨rfl, trivial⟩⟩
  ·have h := of_false h hc8
   refine V_skip ?_
   show V _ _ _ _
   obtain ⟨t9, ht9, h⟩ := of_sI h
   refine V_sreg (mb 62 4) [80000] (s1 := ⟨.bot :: .bot :: I t9 :: bt 59 [], [(80000, .pbox (σ 80000) [.sl (c1.1.map c5), Ti f6, .v (.int .u64 f7)])]⟩) ?_ ?_
   ·refine L0 rfl rfl (E_move (.pt 80000 0) rfl (by kernel_rfl)) ?_
    refine L0 rfl rfl (E_nil (.pt 80000 0) rfl (by kernel_rfl) (by intro hh; cases hh)) ?_
    refine L0 rfl rfl (E_field (.pt 80000 2) Try.underlying57 rfl sz55 rfl (by kernel_rfl) (by intro hh; cases hh)) ?_
    refine L0 rfl rfl (Y0_load1 (c := .v (.int .u64 f7)) (cs := []) sc55 rfl (by kernel_rfl)) ?_
    refine L0 rfl rfl (Y0_shr (k := .u64) (k2 := .u64) (a := f7) (b := 40) rfl (by kernel_rfl) (by kernel_rfl) (by decide)) ?_
    refine L0 rfl rfl (Y0_and (k := .u64) (a := shrI .u64 f7 40) (b := 255) rfl (by kernel_rfl) (by kernel_rfl)) ?_
    refine L0 rfl rfl (Y0_conv (k2 := .u64) (a := andI .u64 (shrI .u64 f7 40) 255) Try.underlying55 Try.underlying3 rfl (by kernel_rfl)) ?_
    refine L0 rfl rfl (E_assign (I (IntKind.i64.wrap (andI .u64 (shrI .u64 f7 40) 255))) rfl (by kernel_rfl)) ?_
    refine XL_nil ?_
    subst ht9
    kernel_rfl
   refine V_ret ?_
   obtain rfl := some_inj h
   show PostR _ _ _ _ _ _
   exact ⟨⟨.inr rfl, rfl, rfl, rfl⟩, ⟨rfl, trivial⟩⟩
theorem cf_spec_l1Cur_pick : ∀ args w, (callFunc 84 args).run Try.prog w = .ok (.enter 84 args) w := run_callFunc Try.func84 (by kernel_rfl) (by kernel_rfl)
set_option maxRecDepth 100000 in
set_option maxHeartbeats 400000 in
theorem s_spec_l1Cur_pick {c1 : ((List Int) × Int × Int)} {vn2 : Int} {r : (Int × (((List Int) × Int × Int)))} (h : r_spec_l1Cur_pick c1 vn2 = some r) : CallR Try.prog 84 [.pt 80000 0, I vn2] [(80000, .box [.sl (c1.1.map c5), Ti c1.2.1, .v (.int .u64 c1.2.2)])] (I r.1) [] [(80000, .box [.sl (r.2.1.map c5), Ti r.2.2.1, .v (.int .u64 r.2.2.2)])] := by
  refine CallR_of_text (rs := [.t 4]) (vs := [.tmp 4]) Try.func84 rfl rfl (.cons rfl FitsL.nil) (by decide) 20 rfl rfl fun σ => ?_
  unfold r_spec_l1Cur_pick at h
  show V _ _ ⟨.pt 80000 0 :: I vn2 :: bt 18 [], [(80000, .pbox (σ 80000) [.sl (c1.1.map c5), Ti c1.2.1, .v (.int .u64 c1.2.2)])]⟩ _
  refine V_sreg (mb 20 3) [80000] (s1 := ⟨.pt 80000 0 :: I vn2 :: bt 18 [], [(80000, .pbox (σ 80000) [.sl (c1.1.map c5), Ti c1.2.1, .v (.int .u64 c1.2.2)])]⟩) ?_ ?_
  ·refine L0 rfl rfl (E_assign (I 0) rfl (by kernel_rfl)) ?_
   refine XL_nil ?_
   kernel_rfl
  refine V_seq ?_
  refine V_sreg (mb 20 131) [80000] (s1 := ⟨.pt 80000 0 :: I vn2 :: bt 5 (Bo (leI vn2 1) :: bt 12 []), [(80000, .pbox (σ 80000) [.sl (c1.1.map c5), Ti c1.2.1, .v (.int .u64 c1.2.2)])]⟩) ?_ ?_
  ·refine L0 rfl rfl (E_move (I vn2) rfl (by kernel_rfl)) ?_
   refine L0 rfl rfl (Y0_lew (k := .i64) (a := vn2) (b := 1) rfl (by kernel_rfl) (by kernel_rfl)) ?_
   refine XL_nil ?_
   kernel_rfl
  refine V_cond rfl (fun hc3 => ?_) (fun hc3 => ?_)
  ·have h := of_true h hc3
   refine V_sreg (mb 20 16) [80000] (s1 := ⟨bt 4 (I 0 :: bt 15 []), [(80000, .pbox (σ 80000) [.sl (c1.1.map c5), Ti c1.2.1, .v (.int .u64 c1.2.2)])]⟩) ?_ ?_
   ·refine L0 rfl rfl (E_assign (I 0) rfl (by kernel_rfl)) ?_
    refine XL_nil ?_
    kernel_rfl
   refine V_ret ?_
   obtain rfl := some_inj h
   show PostR _ _ _ _ _ _
   exact ⟨⟨.inr rfl, rfl, rfl, rfl⟩, ⟨rfl, trivial⟩⟩
  ·have h := of_false h hc3
   refine V_skip ?_
   show V _ _ _ _
   obtain ⟨y4, hy4, h⟩ := of_bind h
   refine V_sreg (mb 20 35) [80000] (s1 := ⟨.pt 80000 0 :: I vn2 :: bt 3 (I y4.1 :: bt 14 []), [(80000, .pbox (σ 80000) [.sl (y4.2.1.map c5), Ti y4.2.2.1, .v (.int .u64 y4.2.2.2)])]⟩) ?_ ?_
   ·refine L0 rfl rfl (E_move (.pt 80000 0) rfl (by kernel_rfl)) ?_
    refine XL_cons rfl (X_callR (E' := [(80000, .pbox (σ 80000) [.sl (y4.2.1.map c5), Ti y4.2.2.1, .v (.int .u64 y4.2.2.2)])]) [(80000, 80000)] 9 (s_spec_l1Cur_next hy4) cf_spec_l1Cur_next rfl rfl (by kernel_rfl) rfl (mE_cons (by kernel_rfl) mE_nil) rfl (by kernel_rfl) rfl rfl (by kernel_rfl)) ?_
    refine L0 rfl rfl (E_assign (I y4.1) rfl (by kernel_rfl)) ?_
    refine XL_nil ?_
    kernel_rfl
   refine V_seq ?_
   refine V_sreg (mb 20 2083) [80000] (s1 := ⟨.pt 80000 0 :: I vn2 :: bt 3 (I y4.1 :: bt 5 (Bo (ltI 200 vn2) :: bt 8 [])), [(80000, .pbox (σ 80000) [.sl (y4.2.1.map c5), Ti y4.2.2.1, .v (.int .u64 y4.2.2.2)])]⟩) ?_ ?_
   ·refine L0 rfl rfl (E_move (I vn2) rfl (by kernel_rfl)) ?_
    refine L0 rfl rfl (Y0_gtw (k := .i64) (a := vn2) (b := 200) rfl (by kernel_rfl) (by kernel_rfl)) ?_
    refine XL_nil ?_
    kernel_rfl
   refine V_cond rfl (fun hc5 => ?_) (fun hc5 => ?_)
   ·have h := of_true h hc5
    obtain ⟨y6, hy6, h⟩ := of_bind h
    obtain ⟨x7, hx7, h⟩ := of_sI h
    refine V_reg (mb 20 34) [80000] (s1 := ⟨.bot :: I vn2 :: bt 3 (I x7 :: bt 14 []), [(80000, .pbox (σ 80000) [.sl (y6.2.1.map c5), Ti y6.2.2.1, .v (.int .u64 y6.2.2.2)])]⟩) ?_ ?_
    ·refine L0 rfl rfl (E_move (I y4.1) rfl (by kernel_rfl)) ?_
     refine L0 rfl rfl (Y0_mul64 (a := y4.1) (b := 256) rfl (by kernel_rfl) (by kernel_rfl)) ?_
     refine L0 rfl rfl (E_move (.pt 80000 0) rfl (by kernel_rfl)) ?_
     refine XL_cons rfl (X_callR (E' := [(80000, .pbox (σ 80000) [.sl (y6.2.1.map c5), Ti y6.2.2.1, .v (.int .u64 y6.2.2.2)])]) [(80000, 80000)] 15 (s_spec_l1Cur_next hy6) cf_spec_l1Cur_next rfl rfl (by kernel_rfl) rfl (mE_cons (by kernel_rfl) mE_nil) rfl (by kernel_rfl) rfl rfl (by kernel_rfl)) ?_
     refine L0 rfl rfl (Y0_add64 (a := w64 (y4.1 * 256)) (b := y6.1) rfl (by kernel_rfl) (by kernel_rfl)) ?_
     refine L0 rfl rfl (E_assign (I (w64 ((w64 (y4.1 * 256)) + y6.1))) rfl (by kernel_rfl)) ?_
     refine XL_nil ?_
     subst hx7
     kernel_rfl
    show V _ _ _ _
    obtain ⟨z8, hz8, h⟩ := of_bind h
    obtain ⟨t9, ht9, h⟩ := of_sI h
    refine V_sreg (mb 20 16) [80000] (s1 := ⟨bt 4 (I t9 :: bt 15 []), [(80000, .pbox (σ 80000) [.sl (y6.2.1.map c5), Ti y6.2.2.1, .v (.int .u64 y6.2.2.2)])]⟩) ?_ ?_
    ·refine L0 rfl rfl (E_move (I x7) rfl (by kernel_rfl)) ?_
     refine L0 rfl rfl (E_move (I vn2) rfl (by kernel_rfl)) ?_
     refine L0 rfl rfl (Y0_rem (k := .i64) (a := x7) (b := vn2) rfl (by kernel_rfl) (by kernel_rfl) (nz_some hz8)) ?_
     refine L0 rfl rfl (E_assign (I (Int.tmod x7 vn2)) rfl (by kernel_rfl)) ?_
     refine XL_nil ?_
     subst ht9
     kernel_rfl
    refine V_ret ?_
    obtain rfl := some_inj h
    show PostR _ _ _ _ _ _
    exact ⟨⟨.inr rfl, rfl, rfl, rfl⟩, ⟨rfl, trivial⟩⟩
   ·have h := of_false h hc5
    refine V_skip ?_
    show V _ _ _ _
    obtain ⟨z10, hz10, h⟩ := of_bind h
    obtain ⟨t11, ht11, h⟩ := of_sI h
    refine V_sreg (mb 20 16) [80000] (s1 := ⟨bt 4 (I t11 :: bt 15 []), [(80000, .pbox (σ 80000) [.sl (y4.2.1.map c5), Ti y4.2.2.1, .v (.int .u64 y4.2.2.2)])]⟩) ?_ ?_
    ·refine L0 rfl rfl (E_move (I y4.1) rfl (by kernel_rfl)) ?_
     refine L0 rfl rfl (E_move (I vn2) rfl (by kernel_rfl)) ?_
     refine L0 rfl rfl (Y0_rem (k := .i64) (a := y4.1) (b := vn2) rfl (by kernel_rfl) (by kernel_rfl) (nz_some hz10)) ?_
     refine L0 rfl rfl (E_assign (I (Int.tmod y4.1 vn2)) rfl (by kernel_rfl)) ?_
     refine XL_nil ?_
     subst ht11
     kernel_rfl
    refine V_ret ?_
    obtain rfl := some_inj h
    show PostR _ _ _ _ _ _
    exact ⟨⟨.inr rfl, rfl, rfl, rfl⟩, ⟨rfl, trivial⟩⟩
theorem cf_spec_l1Cur_among : ∀ args w, (callFunc 39 args).run Try.prog w = .ok (.enter 39 args) w := run_callFunc Try.func39 (by kernel_rfl) (by kernel_rfl)
set_option maxRecDepth 100000 in
set_option maxHeartbeats 400000 in
theorem s_spec_l1Cur_among {c1 : ((List Int) × Int × Int)} {list2 : List Int} {r : (Int × (((List Int) × Int × Int)))} (h : r_spec_l1Cur_among c1 list2 = some r) : CallR Try.prog 39 [.pt 80000 0, .c (.sl (list2.map c3))] [(80000, .box [.sl (c1.1.map c5), Ti c1.2.1, .v (.int .u64 c1.2.2)])] (I r.1) [] [(80000, .box [.sl (r.2.1.map c5), Ti r.2.2.1, .v (.int .u64 r.2.2.2)])] := by
  refine CallR_of_text (rs := [.t 4]) (vs := [.tmp 4]) Try.func39 rfl rfl (.cons rfl FitsL.nil) (by decide) 12 rfl rfl fun σ => ?_
  unfold r_spec_l1Cur_among at h
  show V _ _ ⟨.pt 80000 0 :: .c (.sl (list2.map c3)) :: bt 10 [], [(80000, .pbox (σ 80000) [.sl (c1.1.map c5), Ti c1.2.1, .v (.int .u64 c1.2.2)])]⟩ _
  refine V_sreg (mb 12 3) [80000] (s1 := ⟨.pt 80000 0 :: .c (.sl (list2.map c3)) :: bt 10 [], [(80000, .pbox (σ 80000) [.sl (c1.1.map c5), Ti c1.2.1, .v (.int .u64 c1.2.2)])]⟩) ?_ ?_
  ·refine L0 rfl rfl (E_assign (I 0) rfl (by kernel_rfl)) ?_
   refine XL_nil ?_
   kernel_rfl
  obtain ⟨y3, hy3, h⟩ := of_bind h
  obtain ⟨e4, he4, h⟩ := of_bind h
  refine V_sreg (mb 12 16) [80000] (s1 := ⟨bt 4 (I e4 :: bt 7 []), [(80000, .pbox (σ 80000) [.sl (y3.2.1.map c5), Ti y3.2.2.1, .v (.int .u64 y3.2.2.2)])]⟩) ?_ ?_
  ·refine L0 rfl rfl (E_move (.c (.sl (list2.map c3))) rfl (by kernel_rfl)) ?_
   refine L0 rfl rfl (E_move (.pt 80000 0) rfl (by kernel_rfl)) ?_
   refine L0 rfl rfl (E_move (.c (.sl (list2.map c3))) rfl (by kernel_rfl)) ?_
   refine L0 rfl rfl (Y0_lenM (c := c3) (xs := list2) Try.underlying28 rfl (by kernel_rfl)) ?_
   refine XL_cons rfl (X_callR (E' := [(80000, .pbox (σ 80000) [.sl (y3.2.1.map c5), Ti y3.2.2.1, .v (.int .u64 y3.2.2.2)])]) [(80000, 80000)] 9 (s_spec_l1Cur_pick hy3) cf_spec_l1Cur_pick rfl rfl (by kernel_rfl) rfl (mE_cons (by kernel_rfl) mE_nil) rfl (by kernel_rfl) rfl rfl (by kernel_rfl)) ?_
   refine L0 rfl rfl (Y0_idxM (c := c3) (xs := list2) (v := e4) (n := y3.1) Try.underlying28 sz3 rfl (by kernel_rfl) (by kernel_rfl) he4) ?_
   refine L0 rfl rfl (Y0_load1 (c := Ti e4) (cs := []) sc3 rfl (by kernel_rfl)) ?_
   refine L0 rfl rfl (E_assign (I e4) rfl (by kernel_rfl)) ?_
   refine XL_nil ?_
   kernel_rfl
  refine V_ret ?_
  obtain rfl := some_inj h
  show PostR _ _ _ _ _ _
  exact ⟨⟨.inr rfl, rfl, rfl, rfl⟩, ⟨rfl, trivial⟩⟩
theorem cf_spec_nuMod : ∀ args w, (callFunc 92 args).run Try.prog w = .ok (.enter 92 args) w := run_callFunc Try.func92 (by kernel_rfl) (by kernel_rfl)
set_option maxRecDepth 100000 in
set_option maxHeartbeats 400000 in
theorem s_spec_nuMod {a1 : Int} {vm2 : Int} {r : Int} (h : r_spec_nuMod a1 vm2 = some r) : CallS Try.prog 92 [I a1, I vm2] (I r) [] := by
  refine CallS_of_text (rs := [.t 4]) (vs := [.tmp 4]) Try.func92 rfl rfl (.cons rfl FitsL.nil) (by decide) 15 rfl ?_
  unfold r_spec_nuMod at h
  show V _ _ ⟨I a1 :: I vm2 :: bt 13 [], []⟩ _
  refine V_sreg (mb 15 3) [] (s1 := ⟨I a1 :: I vm2 :: bt 13 [], []⟩) ?_ ?_
  ·refine L0 rfl rfl (E_assign (I 0) rfl (by kernel_rfl)) ?_
   refine XL_nil ?_
   kernel_rfl
  obtain ⟨z3, hz3, h⟩ := of_bind h
  obtain ⟨vr4, hvr4, h⟩ := of_sI h
  refine V_sreg (mb 15 34) [] (s1 := ⟨.bot :: I vm2 :: bt 3 (I vr4 :: bt 9 []), []⟩) ?_ ?_
  ·refine L0 rfl rfl (E_move (I a1) rfl (by kernel_rfl)) ?_
   refine L0 rfl rfl (E_move (I vm2) rfl (by kernel_rfl)) ?_
   refine L0 rfl rfl (Y0_rem (k := .i64) (a := a1) (b := vm2) rfl (by kernel_rfl) (by kernel_rfl) (nz_some hz3)) ?_
   refine L0 rfl rfl (E_assign (I (Int.tmod a1 vm2)) rfl (by kernel_rfl)) ?_
   refine XL_nil ?_
   subst hvr4
   kernel_rfl
  refine V_seq ?_
  refine V_sreg (mb 15 1058) [] (s1 := ⟨.bot :: I vm2 :: bt 3 (I vr4 :: bt 4 (Bo (ltI vr4 0) :: bt 4 [])), []⟩) ?_ ?_
  ·refine L0 rfl rfl (E_move (I vr4) rfl (by kernel_rfl)) ?_
   refine L0 rfl rfl (Y0_ltw (k := .i64) (a := vr4) (b := 0) rfl (by kernel_rfl) (by kernel_rfl)) ?_
   refine XL_nil ?_
   kernel_rfl
  refine V_cond rfl (fun hc5 => ?_) (fun hc5 => ?_)
  ·have h := of_true h hc5
   obtain ⟨vr6, hvr6, h⟩ := of_sI h
   refine V_reg (mb 15 32) [] (s1 := ⟨bt 5 (I vr6 :: bt 9 []), []⟩) ?_ ?_
   ·refine L0 rfl rfl (E_move (I vr4) rfl (by kernel_rfl)) ?_
    refine L0 rfl rfl (E_move (I vm2) rfl (by kernel_rfl)) ?_
    refine L0 rfl rfl (Y0_add64 (a := vr4) (b := vm2) rfl (by kernel_rfl) (by kernel_rfl)) ?_
    refine L0 rfl rfl (E_assign (I (w64 (vr4 + vm2))) rfl (by kernel_rfl)) ?_
    refine XL_nil ?_
    subst hvr6
    kernel_rfl
   show V _ _ _ _
   refine V_sreg (mb 15 16) [] (s1 := ⟨bt 4 (I vr6 :: bt 10 []), []⟩) ?_ ?_
   ·refine L0 rfl rfl (E_move (I vr6) rfl (by kernel_rfl)) ?_
    refine L0 rfl rfl (E_assign (I vr6) rfl (by kernel_rfl)) ?_
    refine XL_nil ?_
    kernel_rfl
   refine V_ret ?_
   obtain rfl := some_inj h
   show Post _ _ _ _ _
   exact ⟨.inr rfl, rfl, rfl, rfl⟩
  ·have h := of_false h hc5
   refine V_skip ?_
   show V _ _ _ _
   refine V_sreg (mb 15 16) [] (s1 := ⟨bt 4 (I vr4 :: bt 10 []), []⟩) ?_ ?_
   ·refine L0 rfl rfl (E_move (I vr4) rfl (by kernel_rfl)) ?_
    refine L0 rfl rfl (E_assign (I vr4) rfl (by kernel_rfl)) ?_
    refine XL_nil ?_
    kernel_rfl
   refine V_ret ?_
   obtain rfl := some_inj h
   show Post _ _ _ _ _
   exact ⟨.inr rfl, rfl, rfl, rfl⟩
theorem cf_spec_l1Most : ∀ args w, (callFunc 94 args).run Try.prog w = .ok (.enter 94 args) w := run_callFunc Try.func94 (by kernel_rfl) (by kernel_rfl)
set_option maxRecDepth 100000 in
set_option maxHeartbeats 400000 in
theorem s_spec_l1Most {a1 : Int} {b2 : Int} {r : Int} (h : r_spec_l1Most a1 b2 = some r) : CallS Try.prog 94 [I a1, I b2] (I r) [] := by
  refine CallS_of_text (rs := [.t 4]) (vs := [.tmp 4]) Try.func94 rfl rfl (.cons rfl FitsL.nil) (by decide) 10 rfl ?_
  unfold r_spec_l1Most at h
  show V _ _ ⟨I a1 :: I b2 :: bt 8 [], []⟩ _
  refine V_sreg (mb 10 3) [] (s1 := ⟨I a1 :: I b2 :: bt 8 [], []⟩) ?_ ?_
  ·refine L0 rfl rfl (E_assign (I 0) rfl (by kernel_rfl)) ?_
   refine XL_nil ?_
   kernel_rfl
  refine V_seq ?_
  refine V_sreg (mb 10 131) [] (s1 := ⟨I a1 :: I b2 :: bt 5 (Bo (ltI b2 a1) :: .bot :: .bot :: []), []⟩) ?_ ?_
  ·refine L0 rfl rfl (E_move (I a1) rfl (by kernel_rfl)) ?_
   refine L0 rfl rfl (E_move (I b2) rfl (by kernel_rfl)) ?_
   refine L0 rfl rfl (Y0_gtw (k := .i64) (a := a1) (b := b2) rfl (by kernel_rfl) (by kernel_rfl)) ?_
   refine XL_nil ?_
   kernel_rfl
  refine V_cond rfl (fun hc3 => ?_) (fun hc3 => ?_)
  ·have h := of_true h hc3
   refine V_sreg (mb 10 16) [] (s1 := ⟨bt 4 (I a1 :: bt 5 []), []⟩) ?_ ?_
   ·refine L0 rfl rfl (E_move (I a1) rfl (by kernel_rfl)) ?_
    refine L0 rfl rfl (E_assign (I a1) rfl (by kernel_rfl)) ?_
    refine XL_nil ?_
    kernel_rfl
   refine V_ret ?_
   obtain rfl := some_inj h
   show Post _ _ _ _ _
   exact ⟨.inr rfl, rfl, rfl, rfl⟩
  ·have h := of_false h hc3
   refine V_skip ?_
   show V _ _ _ _
   refine V_sreg (mb 10 16) [] (s1 := ⟨bt 4 (I b2 :: bt 5 []), []⟩) ?_ ?_
   ·refine L0 rfl rfl (E_move (I b2) rfl (by kernel_rfl)) ?_
    refine L0 rfl rfl (E_assign (I b2) rfl (by kernel_rfl)) ?_
    refine XL_nil ?_
    kernel_rfl
   refine V_ret ?_
   obtain rfl := some_inj h
   show Post _ _ _ _ _
   exact ⟨.inr rfl, rfl, rfl, rfl⟩
theorem cf_spec_l1Cur_disc : ∀ args w, (callFunc 53 args).run Try.prog w = .ok (.enter 53 args) w := run_callFunc Try.func53 (by kernel_rfl) (by kernel_rfl)
set_option maxRecDepth 100000 in
set_option maxHeartbeats 400000 in
theorem s_spec_l1Cur_disc {c1 : ((List Int) × Int × Int)} {r : (Int × (((List Int) × Int × Int)))} (h : r_spec_l1Cur_disc c1 = some r) : CallR Try.prog 53 [.pt 80000 0] [(80000, .box [.sl (c1.1.map c5), Ti c1.2.1, .v (.int .u64 c1.2.2)])] (I r.1) [] [(80000, .box [.sl (r.2.1.map c5), Ti r.2.2.1, .v (.int .u64 r.2.2.2)])] := by
  refine CallR_of_text (rs := [.t 2]) (vs := [.tmp 2]) Try.func53 rfl rfl (.cons rfl FitsL.nil) (by decide) 42 rfl rfl fun σ => ?_
  unfold r_spec_l1Cur_disc at h
  show V _ _ ⟨.pt 80000 0 :: bt 41 [], [(80000, .pbox (σ 80000) [.sl (c1.1.map c5), Ti c1.2.1, .v (.int .u64 c1.2.2)])]⟩ _
  refine V_sreg (mb 42 1) [80000] (s1 := ⟨.pt 80000 0 :: bt 41 [], [(80000, .pbox (σ 80000) [.sl (c1.1.map c5), Ti c1.2.1, .v (.int .u64 c1.2.2)])]⟩) ?_ ?_
  ·refine L0 rfl rfl (E_assign (I 0) rfl (by kernel_rfl)) ?_
   refine XL_nil ?_
   kernel_rfl
  refine V_seq ?_
  obtain ⟨y2, hy2, h⟩ := of_bind h
  refine V_sreg (mb 42 33) [80000] (s1 := ⟨.pt 80000 0 :: bt 4 (I y2.1 :: bt 36 []), [(80000, .pbox (σ 80000) [.sl (y2.2.1.map c5), Ti y2.2.2.1, .v (.int .u64 y2.2.2.2)])]⟩) ?_ ?_
  ·refine L0 rfl rfl (E_move (.pt 80000 0) rfl (by kernel_rfl)) ?_
   refine XL_cons rfl (X_callR (E' := [(80000, .pbox (σ 80000) [.sl (y2.2.1.map c5), Ti y2.2.2.1, .v (.int .u64 y2.2.2.2)])]) [(80000, 80000)] 5 (s_spec_l1Cur_pick hy2) cf_spec_l1Cur_pick rfl rfl (by kernel_rfl) rfl (mE_cons (by kernel_rfl) mE_nil) rfl (by kernel_rfl) rfl rfl (by kernel_rfl)) ?_
   refine XL_nil ?_
   kernel_rfl
  refine V_block ?_
  refine V_sreg (mb 42 97) [80000] (s1 := ⟨.pt 80000 0 :: bt 4 (I y2.1 :: Bo (eqI y2.1 0) :: bt 35 []), [(80000, .pbox (σ 80000) [.sl (y2.2.1.map c5), Ti y2.2.2.1, .v (.int .u64 y2.2.2.2)])]⟩) ?_ ?_
  ·refine L0 rfl rfl (Y0_eqw (k := .i64) (a := y2.1) (b := 0) rfl (by kernel_rfl) (by kernel_rfl)) ?_
   refine L0 rfl rfl (E_assign (Bo (eqI y2.1 0)) rfl (by kernel_rfl)) ?_
   refine XL_nil ?_
   kernel_rfl
  refine V_cond rfl (fun hc3 => ?_) (fun hc3 => ?_)
  ·have h := of_true h hc3
   obtain ⟨y4, hy4, h⟩ := of_bind h
   refine V_sreg (mb 42 4) [80000] (s1 := ⟨.bot :: .bot :: I y4.1 :: bt 39 [], [(80000, .pbox (σ 80000) [.sl (y4.2.1.map c5), Ti y4.2.2.1, .v (.int .u64 y4.2.2.2)])]⟩) ?_ ?_
   ·refine L0 rfl rfl (E_move (.pt 80000 0) rfl (by kernel_rfl)) ?_
    refine L1 rfl rfl (Y1_bslice (z := zv3) (els := [-3, -4, -2000, -1999, -1996, -1995, -163, -2001, -2003, -2004, 0, 1, 5, -1, -2, -5, -9223372036854775808].map c3) Try.underlying28 iz3 rfl (by decide) rfl (by kernel_rfl) rfl (by simp [c3]) (by decide) (by decide)) ?_
    refine XL_freeze 72 (T := 3) (sz := 1) (els := ([-3, -4, -2000, -1999, -1996, -1995, -163, -2001, -2003, -2004, 0, 1, 5, -1, -2, -5, -9223372036854775808]).map c3) (s1 := ⟨.pt 80000 0 :: bt 4 (I y2.1 :: Bo (eqI y2.1 0) :: .bot :: .pt 80000 0 :: .c (.sl (([-3, -4, -2000, -1999, -1996, -1995, -163, -2001, -2003, -2004, 0, 1, 5, -1, -2, -5, -9223372036854775808]).map c3)) :: bt 32 []), [(80000, .pbox (σ 80000) [.sl (y2.2.1.map c5), Ti y2.2.2.1, .v (.int .u64 y2.2.2.2)])]⟩) (by kernel_rfl) (by kernel_rfl) ?_
    refine XL_cons rfl (X_callR (E' := [(80000, .pbox (σ 80000) [.sl (y4.2.1.map c5), Ti y4.2.2.1, .v (.int .u64 y4.2.2.2)])]) [(80000, 80000)] 10 (s_spec_l1Cur_among hy4) cf_spec_l1Cur_among rfl rfl (by kernel_rfl) rfl (mE_cons (by kernel_rfl) mE_nil) rfl (by kernel_rfl) rfl rfl (by kernel_rfl)) ?_
    refine L0 rfl rfl (E_assign (I y4.1) rfl (by kernel_rfl)) ?_
    refine XL_nil ?_
    kernel_rfl
   refine V_ret ?_
   obtain rfl := some_inj h
   show PostR _ _ _ _ _ _
   exact ⟨⟨.inr rfl, rfl, rfl, rfl⟩, ⟨rfl, trivial⟩⟩
  ·have h := of_false h hc3
   obtain ⟨j5, hj5, h⟩ := of_bind h
   refine V_cutK (mb 42 2081) [80000] (s1 := ⟨.pt 80000 0 :: bt 4 (I y2.1 :: bt 5 (Bo j5 :: bt 30 [])), [(80000, .pbox (σ 80000) [.sl (y2.2.1.map c5), Ti y2.2.2.1, .v (.int .u64 y2.2.2.2)])]⟩) ?_ ?_
   ·clear h
    have h := hj5
    clear hj5
    refine V_sreg (mb 42 2081) [80000] (s1 := ⟨.pt 80000 0 :: bt 4 (I y2.1 :: bt 5 (Bo (eqI y2.1 1) :: bt 30 [])), [(80000, .pbox (σ 80000) [.sl (y2.2.1.map c5), Ti y2.2.2.1, .v (.int .u64 y2.2.2.2)])]⟩) ?_ ?_
    ·refine L0 rfl rfl (Y0_eqw (k := .i64) (a := y2.1) (b := 1) rfl (by kernel_rfl) (by kernel_rfl)) ?_
     refine L0 rfl rfl (E_assign (Bo (eqI y2.1 1)) rfl (by kernel_rfl)) ?_
     refine XL_nil ?_
     kernel_rfl
    refine V_cond rfl (fun hc6 => ?_) (fun hc6 => ?_)
    ·have h := of_true h hc6
     refine V_skip ?_
     obtain rfl := some_inj h
     show St.keep _ _ _ = _
     rfl
    ·have h := of_false h hc6
     refine V_reg (mb 42 2081) [80000] (s1 := ⟨.pt 80000 0 :: bt 4 (I y2.1 :: bt 5 (Bo (eqI y2.1 2) :: bt 30 [])), [(80000, .pbox (σ 80000) [.sl (y2.2.1.map c5), Ti y2.2.2.1, .v (.int .u64 y2.2.2.2)])]⟩) ?_ ?_
     ·refine L0 rfl rfl (Y0_eqw (k := .i64) (a := y2.1) (b := 2) rfl (by kernel_rfl) (by kernel_rfl)) ?_
      refine L0 rfl rfl (E_assign (Bo (eqI y2.1 2)) rfl (by kernel_rfl)) ?_
      refine XL_nil ?_
      kernel_rfl
     obtain rfl := some_inj h
     show St.keep _ _ _ = _
     rfl
   refine V_cond rfl (fun hc7 => ?_) (fun hc7 => ?_)
   ·have h := of_true h hc7
    obtain ⟨y8, hy8, h⟩ := of_bind h
    obtain ⟨d9, hd9, h⟩ := of_sI h
    refine V_sreg (mb 42 8) [80000] (s1 := ⟨bt 3 (I d9 :: bt 38 []), [(80000, .pbox (σ 80000) [.sl (y8.2.1.map c5), Ti y8.2.2.1, .v (.int .u64 y8.2.2.2)])]⟩) ?_ ?_
    ·refine L0 rfl rfl (E_move (.pt 80000 0) rfl (by kernel_rfl)) ?_
     refine XL_cons rfl (X_callR (E' := [(80000, .pbox (σ 80000) [.sl (y8.2.1.map c5), Ti y8.2.2.1, .v (.int .u64 y8.2.2.2)])]) [(80000, 80000)] 15 (s_spec_l1Cur_pick hy8) cf_spec_l1Cur_pick rfl rfl (by kernel_rfl) rfl (mE_cons (by kernel_rfl) mE_nil) rfl (by kernel_rfl) rfl rfl (by kernel_rfl)) ?_
     refine L0 rfl rfl (Y0_sub64 (a := -3) (b := y8.1) rfl (by kernel_rfl) (by kernel_rfl)) ?_
     refine L0 rfl rfl (E_assign (I (w64 ((-3) - y8.1))) rfl (by kernel_rfl)) ?_
     refine XL_nil ?_
     subst hd9
     kernel_rfl
    refine V_seq ?_
    obtain ⟨y10, hy10, h⟩ := of_bind h
    refine V_sreg (mb 42 524296) [80000] (s1 := ⟨bt 3 (I d9 :: bt 15 (Bo (ltI 1 y10) :: bt 22 [])), [(80000, .pbox (σ 80000) [.sl (y8.2.1.map c5), Ti y8.2.2.1, .v (.int .u64 y8.2.2.2)])]⟩) ?_ ?_
    ·refine L0 rfl rfl (E_move (I d9) rfl (by kernel_rfl)) ?_
     refine L1 rfl rfl (Y1_call (s_spec_nuMod hy10) cf_spec_nuMod rfl (by kernel_rfl)) ?_
     refine L0 rfl rfl (Y0_gtw (k := .i64) (a := y10) (b := 1) rfl (by kernel_rfl) (by kernel_rfl)) ?_
     refine XL_nil ?_
     kernel_rfl
    refine V_cond rfl (fun hc11 => ?_) (fun hc11 => ?_)
    ·have h := of_true h hc11
     obtain ⟨y12, hy12, h⟩ := of_bind h
     refine V_reg (mb 42 8) [80000] (s1 := ⟨bt 3 (I y12 :: bt 38 []), [(80000, .pbox (σ 80000) [.sl (y8.2.1.map c5), Ti y8.2.2.1, .v (.int .u64 y8.2.2.2)])]⟩) ?_ ?_
     ·refine L0 rfl rfl (E_move (I d9) rfl (by kernel_rfl)) ?_
      refine L0 rfl rfl (Y0_sub64 (a := d9) (b := 2) rfl (by kernel_rfl) (by kernel_rfl)) ?_
      refine L1 rfl rfl (Y1_call (s_spec_l1Most hy12) cf_spec_l1Most rfl (by kernel_rfl)) ?_
      refine L0 rfl rfl (E_assign (I y12) rfl (by kernel_rfl)) ?_
      refine XL_nil ?_
      kernel_rfl
     show V _ _ _ _
     refine V_sreg (mb 42 4) [80000] (s1 := ⟨.bot :: .bot :: I y12 :: bt 39 [], [(80000, .pbox (σ 80000) [.sl (y8.2.1.map c5), Ti y8.2.2.1, .v (.int .u64 y8.2.2.2)])]⟩) ?_ ?_
     ·refine L0 rfl rfl (E_move (I y12) rfl (by kernel_rfl)) ?_
      refine L0 rfl rfl (E_assign (I y12) rfl (by kernel_rfl)) ?_
      refine XL_nil ?_
      kernel_rfl
     refine V_ret ?_
     obtain rfl := some_inj h
     show PostR _ _ _ _ _ _
     exact ⟨⟨.inr rfl, rfl, rfl, rfl⟩, ⟨rfl, trivial⟩⟩
    ·have h := of_false h hc11
     refine V_skip ?_
     show V _ _ _ _
     refine V_sreg (mb 42 4) [80000] (s1 := ⟨.bot :: .bot :: I d9 :: bt 39 [], [(80000, .pbox (σ 80000) [.sl (y8.2.1.map c5), Ti y8.2.2.1, .v (.int .u64 y8.2.2.2)])]⟩) ?_ ?_
     ·refine L0 rfl rfl (E_move (I d9) rfl (by kernel_rfl)) ?_
      refine L0 rfl rfl (E_assign (I d9) rfl (by kernel_rfl)) ?_
      refine XL_nil ?_
      kernel_rfl
     refine V_ret ?_
     obtain rfl := some_inj h
     show PostR _ _ _ _ _ _
     exact ⟨⟨.inr rfl, rfl, rfl, rfl⟩, ⟨rfl, trivial⟩⟩
   ·have h := of_false h hc7
    obtain ⟨j13, hj13, h⟩ := of_bind h
    refine V_cutK (mb 42 16777249) [80000] (s1 := ⟨.pt 80000 0 :: bt 4 (I y2.1 :: bt 18 (Bo j13 :: bt 17 [])), [(80000, .pbox (σ 80000) [.sl (y2.2.1.map c5), Ti y2.2.2.1, .v (.int .u64 y2.2.2.2)])]⟩) ?_ ?_
    ·clear h
     have h := hj13
     clear hj13
     refine V_sreg (mb 42 16777249) [80000] (s1 := ⟨.pt 80000 0 :: bt 4 (I y2.1 :: bt 18 (Bo (eqI y2.1 3) :: bt 17 [])), [(80000, .pbox (σ 80000) [.sl (y2.2.1.map c5), Ti y2.2.2.1, .v (.int .u64 y2.2.2.2)])]⟩) ?_ ?_
     ·refine L0 rfl rfl (Y0_eqw (k := .i64) (a := y2.1) (b := 3) rfl (by kernel_rfl) (by kernel_rfl)) ?_
      refine L0 rfl rfl (E_assign (Bo (eqI y2.1 3)) rfl (by kernel_rfl)) ?_
      refine XL_nil ?_
      kernel_rfl
     refine V_cond rfl (fun hc14 => ?_) (fun hc14 => ?_)
     ·have h := of_true h hc14
      refine V_skip ?_
      obtain rfl := some_inj h
      show St.keep _ _ _ = _
      rfl
     ·have h := of_false h hc14
      refine V_sreg (mb 42 16777249) [80000] (s1 := ⟨.pt 80000 0 :: bt 4 (I y2.1 :: bt 18 (Bo (eqI y2.1 4) :: bt 17 [])), [(80000, .pbox (σ 80000) [.sl (y2.2.1.map c5), Ti y2.2.2.1, .v (.int .u64 y2.2.2.2)])]⟩) ?_ ?_
      ·refine L0 rfl rfl (Y0_eqw (k := .i64) (a := y2.1) (b := 4) rfl (by kernel_rfl) (by kernel_rfl)) ?_
       refine L0 rfl rfl (E_assign (Bo (eqI y2.1 4)) rfl (by kernel_rfl)) ?_
       refine XL_nil ?_
       kernel_rfl
      refine V_cond rfl (fun hc15 => ?_) (fun hc15 => ?_)
      ·have h := of_true h hc15
       refine V_skip ?_
       obtain rfl := some_inj h
       show St.keep _ _ _ = _
       rfl
      ·have h := of_false h hc15
       refine V_reg (mb 42 16777249) [80000] (s1 := ⟨.pt 80000 0 :: bt 4 (I y2.1 :: bt 18 (Bo (eqI y2.1 5) :: bt 17 [])), [(80000, .pbox (σ 80000) [.sl (y2.2.1.map c5), Ti y2.2.2.1, .v (.int .u64 y2.2.2.2)])]⟩) ?_ ?_
       ·refine L0 rfl rfl (Y0_eqw (k := .i64) (a := y2.1) (b := 5) rfl (by kernel_rfl) (by kernel_rfl)) ?_
        refine L0 rfl rfl (E_assign (Bo (eqI y2.1 5)) rfl (by kernel_rfl)) ?_
        refine XL_nil ?_
        kernel_rfl
       obtain rfl := some_inj h
       show St.keep _ _ _ = _
       rfl
    refine V_cond rfl (fun hc16 => ?_) (fun hc16 => ?_)
    ·have h := of_true h hc16
     obtain ⟨y17, hy17, h⟩ := of_bind h
     refine V_sreg (mb 42 4) [80000] (s1 := ⟨.bot :: .bot :: I y17.1 :: bt 39 [], [(80000, .pbox (σ 80000) [.sl (y17.2.1.map c5), Ti y17.2.2.1, .v (.int .u64 y17.2.2.2)])]⟩) ?_ ?_
     ·refine L0 rfl rfl (E_move (.pt 80000 0) rfl (by kernel_rfl)) ?_
      refine L1 rfl rfl (Y1_bslice (z := zv3) (els := [-84, -420, -231, -260, -455, -520, -660, -1155, -1320, -1380, -1428, -1540, -399, -1092, -1560, -1785].map c3) Try.underlying28 iz3 rfl (by decide) rfl (by kernel_rfl) rfl (by simp [c3]) (by decide) (by decide)) ?_
      refine XL_freeze 232 (T := 3) (sz := 1) (els := ([-84, -420, -231, -260, -455, -520, -660, -1155, -1320, -1380, -1428, -1540, -399, -1092, -1560, -1785]).map c3) (s1 := ⟨.pt 80000 0 :: bt 4 (I y2.1 :: bt 18 (Bo j13 :: bt 3 (.pt 80000 0 :: .c (.sl (([-84, -420, -231, -260, -455, -520, -660, -1155, -1320, -1380, -1428, -1540, -399, -1092, -1560, -1785]).map c3)) :: bt 12 []))), [(80000, .pbox (σ 80000) [.sl (y2.2.1.map c5), Ti y2.2.2.1, .v (.int .u64 y2.2.2.2)])]⟩) (by kernel_rfl) (by kernel_rfl) ?_
      refine XL_cons rfl (X_callR (E' := [(80000, .pbox (σ 80000) [.sl (y17.2.1.map c5), Ti y17.2.2.1, .v (.int .u64 y17.2.2.2)])]) [(80000, 80000)] 30 (s_spec_l1Cur_among hy17) cf_spec_l1Cur_among rfl rfl (by kernel_rfl) rfl (mE_cons (by kernel_rfl) mE_nil) rfl (by kernel_rfl) rfl rfl (by kernel_rfl)) ?_
      refine L0 rfl rfl (E_assign (I y17.1) rfl (by kernel_rfl)) ?_
      refine XL_nil ?_
      kernel_rfl
     refine V_ret ?_
     obtain rfl := some_inj h
     show PostR _ _ _ _ _ _
     exact ⟨⟨.inr rfl, rfl, rfl, rfl⟩, ⟨rfl, trivial⟩⟩
    ·have h := of_false h hc16
     obtain ⟨j18, hj18, h⟩ := of_bind h
     refine V_cutK (mb 42 2147483649) [80000] (s1 := ⟨.pt 80000 0 :: bt 30 (Bo j18 :: bt 10 []), [(80000, .pbox (σ 80000) [.sl (y2.2.1.map c5), Ti y2.2.2.1, .v (.int .u64 y2.2.2.2)])]⟩) ?_ ?_
     ·clear h
      have h := hj18
      clear hj18
      refine V_sreg (mb 42 2147483681) [80000] (s1 := ⟨.pt 80000 0 :: bt 4 (I y2.1 :: bt 25 (Bo (eqI y2.1 6) :: bt 10 [])), [(80000, .pbox (σ 80000) [.sl (y2.2.1.map c5), Ti y2.2.2.1, .v (.int .u64 y2.2.2.2)])]⟩) ?_ ?_
      ·refine L0 rfl rfl (Y0_eqw (k := .i64) (a := y2.1) (b := 6) rfl (by kernel_rfl) (by kernel_rfl)) ?_
       refine L0 rfl rfl (E_assign (Bo (eqI y2.1 6)) rfl (by kernel_rfl)) ?_
       refine XL_nil ?_
       kernel_rfl
      refine V_cond rfl (fun hc19 => ?_) (fun hc19 => ?_)
      ·have h := of_true h hc19
       refine V_skip ?_
       obtain rfl := some_inj h
       show St.keep _ _ _ = _
       rfl
      ·have h := of_false h hc19
       refine V_reg (mb 42 2147483649) [80000] (s1 := ⟨.pt 80000 0 :: bt 30 (Bo (eqI y2.1 7) :: bt 10 []), [(80000, .pbox (σ 80000) [.sl (y2.2.1.map c5), Ti y2.2.2.1, .v (.int .u64 y2.2.2.2)])]⟩) ?_ ?_
       ·refine L0 rfl rfl (Y0_eqw (k := .i64) (a := y2.1) (b := 7) rfl (by kernel_rfl) (by kernel_rfl)) ?_
        refine L0 rfl rfl (E_assign (Bo (eqI y2.1 7)) rfl (by kernel_rfl)) ?_
        refine XL_nil ?_
        kernel_rfl
       obtain rfl := some_inj h
       show St.keep _ _ _ = _
       rfl
     refine V_cond rfl (fun hc20 => ?_) (fun hc20 => ?_)
     ·have h := of_true h hc20
      obtain ⟨y21, hy21, h⟩ := of_bind h
      obtain ⟨t22, ht22, h⟩ := of_sI h
      refine V_sreg (mb 42 4) [80000] (s1 := ⟨.bot :: .bot :: I t22 :: bt 39 [], [(80000, .pbox (σ 80000) [.sl (y21.2.1.map c5), Ti y21.2.2.1, .v (.int .u64 y21.2.2.2)])]⟩) ?_ ?_
      ·refine L0 rfl rfl (E_move (.pt 80000 0) rfl (by kernel_rfl)) ?_
       refine XL_cons rfl (X_callR (E' := [(80000, .pbox (σ 80000) [.sl (y21.2.1.map c5), Ti y21.2.2.1, .v (.int .u64 y21.2.2.2)])]) [(80000, 80000)] 35 (s_spec_l1Cur_pick hy21) cf_spec_l1Cur_pick rfl rfl (by kernel_rfl) rfl (mE_cons (by kernel_rfl) mE_nil) rfl (by kernel_rfl) rfl rfl (by kernel_rfl)) ?_
       refine L0 rfl rfl (Y0_add64 (a := 1) (b := y21.1) rfl (by kernel_rfl) (by kernel_rfl)) ?_
       refine L0 rfl rfl (Y0_mul64 (a := -4) (b := w64 (1 + y21.1)) rfl (by kernel_rfl) (by kernel_rfl)) ?_
       refine L0 rfl rfl (E_assign (I (w64 ((-4) * (w64 (1 + y21.1))))) rfl (by kernel_rfl)) ?_
       refine XL_nil ?_
       subst ht22
       kernel_rfl
      refine V_ret ?_
      obtain rfl := some_inj h
      show PostR _ _ _ _ _ _
      exact ⟨⟨.inr rfl, rfl, rfl, rfl⟩, ⟨rfl, trivial⟩⟩
     ·have h := of_false h hc20
      refine V_skip ?_
      show V _ _ _ _
      obtain ⟨y23, hy23, h⟩ := of_bind h
      obtain ⟨t24, ht24, h⟩ := of_sI h
      refine V_sreg (mb 42 4) [80000] (s1 := ⟨.bot :: .bot :: I t24 :: bt 39 [], [(80000, .pbox (σ 80000) [.sl (y23.2.1.map c5), Ti y23.2.2.1, .v (.int .u64 y23.2.2.2)])]⟩) ?_ ?_
      ·refine L0 rfl rfl (E_move (.pt 80000 0) rfl (by kernel_rfl)) ?_
       refine XL_cons rfl (X_callR (E' := [(80000, .pbox (σ 80000) [.sl (y23.2.1.map c5), Ti y23.2.2.1, .v (.int .u64 y23.2.2.2)])]) [(80000, 80000)] 39 (s_spec_l1Cur_pick hy23) cf_spec_l1Cur_pick rfl rfl (by kernel_rfl) rfl (mE_cons (by kernel_rfl) mE_nil) rfl (by kernel_rfl) rfl rfl (by kernel_rfl)) ?_
       refine L0 rfl rfl (Y0_mul64 (a := 4) (b := y23.1) rfl (by kernel_rfl) (by kernel_rfl)) ?_
       refine L0 rfl rfl (Y0_sub64 (a := -3) (b := w64 (4 * y23.1)) rfl (by kernel_rfl) (by kernel_rfl)) ?_
       refine L0 rfl rfl (E_assign (I (w64 ((-3) - (w64 (4 * y23.1))))) rfl (by kernel_rfl)) ?_
       refine XL_nil ?_
       subst ht24
       kernel_rfl
      refine V_ret ?_
      obtain rfl := some_inj h
      show PostR _ _ _ _ _ _
      exact ⟨⟨.inr rfl, rfl, rfl, rfl⟩, ⟨rfl, trivial⟩⟩
theorem cf_spec_l1Cur_one : ∀ args w, (callFunc 107 args).run Try.prog w = .ok (.enter 107 args) w := run_callFunc Try.func107 (by kernel_rfl) (by kernel_rfl)
set_option maxRecDepth 100000 in
set_option maxHeartbeats 400000 in
theorem s_spec_l1Cur_one {c1 : ((List Int) × Int × Int)} {vn2 : Int} {r : (Bool × (((List Int) × Int × Int)))} (h : r_spec_l1Cur_one c1 vn2 = some r) : CallR Try.prog 107 [.pt 80000 0, I vn2] [(80000, .box [.sl (c1.1.map c5), Ti c1.2.1, .v (.int .u64 c1.2.2)])] (Bo r.1) [] [(80000, .box [.sl (r.2.1.map c5), Ti r.2.2.1, .v (.int .u64 r.2.2.2)])] := by
  refine CallR_of_text (rs := [.t 4]) (vs := [.tmp 4]) Try.func107 rfl rfl (.cons rfl FitsL.nil) (by decide) 9 rfl rfl fun σ => ?_
  unfold r_spec_l1Cur_one at h
  show V _ _ ⟨.pt 80000 0 :: I vn2 :: bt 7 [], [(80000, .pbox (σ 80000) [.sl (c1.1.map c5), Ti c1.2.1, .v (.int .u64 c1.2.2)])]⟩ _
  refine V_sreg (mb 9 3) [80000] (s1 := ⟨.pt 80000 0 :: I vn2 :: bt 7 [], [(80000, .pbox (σ 80000) [.sl (c1.1.map c5), Ti c1.2.1, .v (.int .u64 c1.2.2)])]⟩) ?_ ?_
  ·refine L0 rfl rfl (E_assign (Bo false) rfl (by kernel_rfl)) ?_
   refine XL_nil ?_
   kernel_rfl
  obtain ⟨y3, hy3, h⟩ := of_bind h
  refine V_sreg (mb 9 16) [80000] (s1 := ⟨bt 4 (Bo (eqI y3.1 0) :: bt 4 []), [(80000, .pbox (σ 80000) [.sl (y3.2.1.map c5), Ti y3.2.2.1, .v (.int .u64 y3.2.2.2)])]⟩) ?_ ?_
  ·refine L0 rfl rfl (E_move (.pt 80000 0) rfl (by kernel_rfl)) ?_
   refine L0 rfl rfl (E_move (I vn2) rfl (by kernel_rfl)) ?_
   refine XL_cons rfl (X_callR (E' := [(80000, .pbox (σ 80000) [.sl (y3.2.1.map c5), Ti y3.2.2.1, .v (.int .u64 y3.2.2.2)])]) [(80000, 80000)] 7 (s_spec_l1Cur_pick hy3) cf_spec_l1Cur_pick rfl rfl (by kernel_rfl) rfl (mE_cons (by kernel_rfl) mE_nil) rfl (by kernel_rfl) rfl rfl (by kernel_rfl)) ?_
   refine L0 rfl rfl (Y0_eqw (k := .i64) (a := y3.1) (b := 0) rfl (by kernel_rfl) (by kernel_rfl)) ?_
   refine L0 rfl rfl (E_assign (Bo (eqI y3.1 0)) rfl (by kernel_rfl)) ?_
   refine XL_nil ?_
   kernel_rfl
  refine V_ret ?_
  obtain rfl := some_inj h
  show PostR _ _ _ _ _ _
  exact ⟨⟨.inr rfl, rfl, rfl, rfl⟩, ⟨rfl, trivial⟩⟩
theorem cf_spec_l1Cur_number : ∀ args w, (callFunc 90 args).run Try.prog w = .ok (.enter 90 args) w := run_callFunc Try.func90 (by kernel_rfl) (by kernel_rfl)
set_option maxRecDepth 100000 in
set_option maxHeartbeats 400000 in
theorem s_spec_l1Cur_number {c1 : ((List Int) × Int × Int)} {r : (Int × (((List Int) × Int × Int)))} (h : r_spec_l1Cur_number c1 = some r) : CallR Try.prog 90 [.pt 80000 0] [(80000, .box [.sl (c1.1.map c5), Ti c1.2.1, .v (.int .u64 c1.2.2)])] (I r.1) [] [(80000, .box [.sl (r.2.1.map c5), Ti r.2.2.1, .v (.int .u64 r.2.2.2)])] := by
  refine CallR_of_text (rs := [.t 2]) (vs := [.tmp 2]) Try.func90 rfl rfl (.cons rfl FitsL.nil) (by decide) 32 rfl rfl fun σ => ?_
  unfold r_spec_l1Cur_number at h
  show V _ _ ⟨.pt 80000 0 :: bt 31 [], [(80000, .pbox (σ 80000) [.sl (c1.1.map c5), Ti c1.2.1, .v (.int .u64 c1.2.2)])]⟩ _
  refine V_sreg (mb 32 1) [80000] (s1 := ⟨.pt 80000 0 :: bt 31 [], [(80000, .pbox (σ 80000) [.sl (c1.1.map c5), Ti c1.2.1, .v (.int .u64 c1.2.2)])]⟩) ?_ ?_
  ·refine L0 rfl rfl (E_assign (I 0) rfl (by kernel_rfl)) ?_
   refine XL_nil ?_
   kernel_rfl
  refine V_seq ?_
  obtain ⟨y2, hy2, h⟩ := of_bind h
  refine V_sreg (mb 32 17) [80000] (s1 := ⟨.pt 80000 0 :: bt 3 (I y2.1 :: bt 27 []), [(80000, .pbox (σ 80000) [.sl (y2.2.1.map c5), Ti y2.2.2.1, .v (.int .u64 y2.2.2.2)])]⟩) ?_ ?_
  ·refine L0 rfl rfl (E_move (.pt 80000 0) rfl (by kernel_rfl)) ?_
   refine XL_cons rfl (X_callR (E' := [(80000, .pbox (σ 80000) [.sl (y2.2.1.map c5), Ti y2.2.2.1, .v (.int .u64 y2.2.2.2)])]) [(80000, 80000)] 4 (s_spec_l1Cur_pick hy2) cf_spec_l1Cur_pick rfl rfl (by kernel_rfl) rfl (mE_cons (by kernel_rfl) mE_nil) rfl (by kernel_rfl) rfl rfl (by kernel_rfl)) ?_
   refine XL_nil ?_
   kernel_rfl
  refine V_block ?_
  refine V_sreg (mb 32 49) [80000] (s1 := ⟨.pt 80000 0 :: bt 3 (I y2.1 :: Bo (eqI y2.1 0) :: bt 26 []), [(80000, .pbox (σ 80000) [.sl (y2.2.1.map c5), Ti y2.2.2.1, .v (.int .u64 y2.2.2.2)])]⟩) ?_ ?_
  ·refine L0 rfl rfl (Y0_eqw (k := .i64) (a := y2.1) (b := 0) rfl (by kernel_rfl) (by kernel_rfl)) ?_
   refine L0 rfl rfl (E_assign (Bo (eqI y2.1 0)) rfl (by kernel_rfl)) ?_
   refine XL_nil ?_
   kernel_rfl
  refine V_cond rfl (fun hc3 => ?_) (fun hc3 => ?_)
  ·have h := of_true h hc3
   obtain ⟨y4, hy4, h⟩ := of_bind h
   refine V_sreg (mb 32 4) [80000] (s1 := ⟨.bot :: .bot :: I y4.1 :: bt 29 [], [(80000, .pbox (σ 80000) [.sl (y4.2.1.map c5), Ti y4.2.2.1, .v (.int .u64 y4.2.2.2)])]⟩) ?_ ?_
   ·refine L0 rfl rfl (E_move (.pt 80000 0) rfl (by kernel_rfl)) ?_
    refine L1 rfl rfl (Y1_bslice (z := zv3) (els := [0, 1, -1, 1000000, -1000000, 1000001, -1000001, -9223372036854775808, 9223372036854775807, 999983, 999999, 1000].map c3) Try.underlying28 iz3 rfl (by decide) rfl (by kernel_rfl) rfl (by simp [c3]) (by decide) (by decide)) ?_
    refine XL_freeze 64 (T := 3) (sz := 1) (els := ([0, 1, -1, 1000000, -1000000, 1000001, -1000001, -9223372036854775808, 9223372036854775807, 999983, 999999, 1000]).map c3) (s1 := ⟨.pt 80000 0 :: bt 3 (I y2.1 :: Bo (eqI y2.1 0) :: .bot :: .pt 80000 0 :: .c (.sl (([0, 1, -1, 1000000, -1000000, 1000001, -1000001, -9223372036854775808, 9223372036854775807, 999983, 999999, 1000]).map c3)) :: bt 23 []), [(80000, .pbox (σ 80000) [.sl (y2.2.1.map c5), Ti y2.2.2.1, .v (.int .u64 y2.2.2.2)])]⟩) (by kernel_rfl) (by kernel_rfl) ?_
    refine XL_cons rfl (X_callR (E' := [(80000, .pbox (σ 80000) [.sl (y4.2.1.map c5), Ti y4.2.2.1, .v (.int .u64 y4.2.2.2)])]) [(80000, 80000)] 9 (s_spec_l1Cur_among hy4) cf_spec_l1Cur_among rfl rfl (by kernel_rfl) rfl (mE_cons (by kernel_rfl) mE_nil) rfl (by kernel_rfl) rfl rfl (by kernel_rfl)) ?_
    refine L0 rfl rfl (E_assign (I y4.1) rfl (by kernel_rfl)) ?_
    refine XL_nil ?_
    kernel_rfl
   refine V_ret ?_
   obtain rfl := some_inj h
   show PostR _ _ _ _ _ _
   exact ⟨⟨.inr rfl, rfl, rfl, rfl⟩, ⟨rfl, trivial⟩⟩
  ·have h := of_false h hc3
   obtain ⟨j5, hj5, h⟩ := of_bind h
   refine V_cutK (mb 32 1041) [80000] (s1 := ⟨.pt 80000 0 :: bt 3 (I y2.1 :: bt 5 (Bo j5 :: bt 21 [])), [(80000, .pbox (σ 80000) [.sl (y2.2.1.map c5), Ti y2.2.2.1, .v (.int .u64 y2.2.2.2)])]⟩) ?_ ?_
   ·clear h
    have h := hj5
    clear hj5
    refine V_sreg (mb 32 1041) [80000] (s1 := ⟨.pt 80000 0 :: bt 3 (I y2.1 :: bt 5 (Bo (eqI y2.1 1) :: bt 21 [])), [(80000, .pbox (σ 80000) [.sl (y2.2.1.map c5), Ti y2.2.2.1, .v (.int .u64 y2.2.2.2)])]⟩) ?_ ?_
    ·refine L0 rfl rfl (Y0_eqw (k := .i64) (a := y2.1) (b := 1) rfl (by kernel_rfl) (by kernel_rfl)) ?_
     refine L0 rfl rfl (E_assign (Bo (eqI y2.1 1)) rfl (by kernel_rfl)) ?_
     refine XL_nil ?_
     kernel_rfl
    refine V_cond rfl (fun hc6 => ?_) (fun hc6 => ?_)
    ·have h := of_true h hc6
     refine V_skip ?_
     obtain rfl := some_inj h
     show St.keep _ _ _ = _
     rfl
    ·have h := of_false h hc6
     refine V_reg (mb 32 1041) [80000] (s1 := ⟨.pt 80000 0 :: bt 3 (I y2.1 :: bt 5 (Bo (eqI y2.1 2) :: bt 21 [])), [(80000, .pbox (σ 80000) [.sl (y2.2.1.map c5), Ti y2.2.2.1, .v (.int .u64 y2.2.2.2)])]⟩) ?_ ?_
     ·refine L0 rfl rfl (Y0_eqw (k := .i64) (a := y2.1) (b := 2) rfl (by kernel_rfl) (by kernel_rfl)) ?_
      refine L0 rfl rfl (E_assign (Bo (eqI y2.1 2)) rfl (by kernel_rfl)) ?_
      refine XL_nil ?_
      kernel_rfl
     obtain rfl := some_inj h
     show St.keep _ _ _ = _
     rfl
   refine V_cond rfl (fun hc7 => ?_) (fun hc7 => ?_)
   ·have h := of_true h hc7
    obtain ⟨y8, hy8, h⟩ := of_bind h
    obtain ⟨y9, hy9, h⟩ := of_bind h
    obtain ⟨y10, hy10, h⟩ := of_bind h
    obtain ⟨t11, ht11, h⟩ := of_sI h
    refine V_sreg (mb 32 4) [80000] (s1 := ⟨.bot :: .bot :: I t11 :: bt 29 [], [(80000, .pbox (σ 80000) [.sl (y10.2.1.map c5), Ti y10.2.2.1, .v (.int .u64 y10.2.2.2)])]⟩) ?_ ?_
    ·refine L0 rfl rfl (E_move (.pt 80000 0) rfl (by kernel_rfl)) ?_
     refine XL_cons rfl (X_callR (E' := [(80000, .pbox (σ 80000) [.sl (y8.2.1.map c5), Ti y8.2.2.1, .v (.int .u64 y8.2.2.2)])]) [(80000, 80000)] 14 (s_spec_l1Cur_pick hy8) cf_spec_l1Cur_pick rfl rfl (by kernel_rfl) rfl (mE_cons (by kernel_rfl) mE_nil) rfl (by kernel_rfl) rfl rfl (by kernel_rfl)) ?_
     refine L0 rfl rfl (E_move (.pt 80000 0) rfl (by kernel_rfl)) ?_
     refine XL_cons rfl (X_callR (E' := [(80000, .pbox (σ 80000) [.sl (y9.2.1.map c5), Ti y9.2.2.1, .v (.int .u64 y9.2.2.2)])]) [(80000, 80000)] 16 (s_spec_l1Cur_pick hy9) cf_spec_l1Cur_pick rfl rfl (by kernel_rfl) rfl (mE_cons (by kernel_rfl) mE_nil) rfl (by kernel_rfl) rfl rfl (by kernel_rfl)) ?_
     refine L0 rfl rfl (Y0_add64 (a := 1) (b := y9.1) rfl (by kernel_rfl) (by kernel_rfl)) ?_
     refine L0 rfl rfl (Y0_mul64 (a := y8.1) (b := w64 (1 + y9.1)) rfl (by kernel_rfl) (by kernel_rfl)) ?_
     refine L0 rfl rfl (E_move (.pt 80000 0) rfl (by kernel_rfl)) ?_
     refine XL_cons rfl (X_callR (E' := [(80000, .pbox (σ 80000) [.sl (y10.2.1.map c5), Ti y10.2.2.1, .v (.int .u64 y10.2.2.2)])]) [(80000, 80000)] 20 (s_spec_l1Cur_pick hy10) cf_spec_l1Cur_pick rfl rfl (by kernel_rfl) rfl (mE_cons (by kernel_rfl) mE_nil) rfl (by kernel_rfl) rfl rfl (by kernel_rfl)) ?_
     refine L0 rfl rfl (Y0_mul64 (a := 2) (b := y10.1) rfl (by kernel_rfl) (by kernel_rfl)) ?_
     refine L0 rfl rfl (Y0_sub64 (a := 1) (b := w64 (2 * y10.1)) rfl (by kernel_rfl) (by kernel_rfl)) ?_
     refine L0 rfl rfl (Y0_mul64 (a := w64 (y8.1 * (w64 (1 + y9.1)))) (b := w64 (1 - (w64 (2 * y10.1)))) rfl (by kernel_rfl) (by kernel_rfl)) ?_
     refine L0 rfl rfl (E_assign (I (w64 ((w64 (y8.1 * (w64 (1 + y9.1)))) * (w64 (1 - (w64 (2 * y10.1))))))) rfl (by kernel_rfl)) ?_
     refine XL_nil ?_
     subst ht11
     kernel_rfl
    refine V_ret ?_
    obtain rfl := some_inj h
    show PostR _ _ _ _ _ _
    exact ⟨⟨.inr rfl, rfl, rfl, rfl⟩, ⟨rfl, trivial⟩⟩
   ·have h := of_false h hc7
    obtain ⟨j12, hj12, h⟩ := of_bind h
    refine V_cutK (mb 32 16777217) [80000] (s1 := ⟨.pt 80000 0 :: bt 23 (Bo j12 :: bt 7 []), [(80000, .pbox (σ 80000) [.sl (y2.2.1.map c5), Ti y2.2.2.1, .v (.int .u64 y2.2.2.2)])]⟩) ?_ ?_
    ·clear h
     have h := hj12
     clear hj12
     refine V_sreg (mb 32 16777233) [80000] (s1 := ⟨.pt 80000 0 :: bt 3 (I y2.1 :: bt 19 (Bo (eqI y2.1 3) :: bt 7 [])), [(80000, .pbox (σ 80000) [.sl (y2.2.1.map c5), Ti y2.2.2.1, .v (.int .u64 y2.2.2.2)])]⟩) ?_ ?_
     ·refine L0 rfl rfl (Y0_eqw (k := .i64) (a := y2.1) (b := 3) rfl (by kernel_rfl) (by kernel_rfl)) ?_
      refine L0 rfl rfl (E_assign (Bo (eqI y2.1 3)) rfl (by kernel_rfl)) ?_
      refine XL_nil ?_
      kernel_rfl
     refine V_cond rfl (fun hc13 => ?_) (fun hc13 => ?_)
     ·have h := of_true h hc13
      refine V_skip ?_
      obtain rfl := some_inj h
      show St.keep _ _ _ = _
      rfl
     ·have h := of_false h hc13
      refine V_reg (mb 32 16777217) [80000] (s1 := ⟨.pt 80000 0 :: bt 23 (Bo (eqI y2.1 4) :: bt 7 []), [(80000, .pbox (σ 80000) [.sl (y2.2.1.map c5), Ti y2.2.2.1, .v (.int .u64 y2.2.2.2)])]⟩) ?_ ?_
      ·refine L0 rfl rfl (Y0_eqw (k := .i64) (a := y2.1) (b := 4) rfl (by kernel_rfl) (by kernel_rfl)) ?_
       refine L0 rfl rfl (E_assign (Bo (eqI y2.1 4)) rfl (by kernel_rfl)) ?_
       refine XL_nil ?_
       kernel_rfl
      obtain rfl := some_inj h
      show St.keep _ _ _ = _
      rfl
    refine V_cond rfl (fun hc14 => ?_) (fun hc14 => ?_)
    ·have h := of_true h hc14
     obtain ⟨y15, hy15, h⟩ := of_bind h
     refine V_sreg (mb 32 4) [80000] (s1 := ⟨.bot :: .bot :: I y15.1 :: bt 29 [], [(80000, .pbox (σ 80000) [.sl (y15.2.1.map c5), Ti y15.2.2.1, .v (.int .u64 y15.2.2.2)])]⟩) ?_ ?_
     ·refine L0 rfl rfl (E_move (.pt 80000 0) rfl (by kernel_rfl)) ?_
      refine XL_cons rfl (X_callR (E' := [(80000, .pbox (σ 80000) [.sl (y15.2.1.map c5), Ti y15.2.2.1, .v (.int .u64 y15.2.2.2)])]) [(80000, 80000)] 28 (s_spec_l1Cur_pick hy15) cf_spec_l1Cur_pick rfl rfl (by kernel_rfl) rfl (mE_cons (by kernel_rfl) mE_nil) rfl (by kernel_rfl) rfl rfl (by kernel_rfl)) ?_
      refine L0 rfl rfl (E_assign (I y15.1) rfl (by kernel_rfl)) ?_
      refine XL_nil ?_
      kernel_rfl
     refine V_ret ?_
     obtain rfl := some_inj h
     show PostR _ _ _ _ _ _
     exact ⟨⟨.inr rfl, rfl, rfl, rfl⟩, ⟨rfl, trivial⟩⟩
    ·have h := of_false h hc14
     refine V_skip ?_
     show V _ _ _ _
     obtain ⟨y16, hy16, h⟩ := of_bind h
     obtain ⟨t17, ht17, h⟩ := of_sI h
     refine V_sreg (mb 32 4) [80000] (s1 := ⟨.bot :: .bot :: I t17 :: bt 29 [], [(80000, .pbox (σ 80000) [.sl (y16.2.1.map c5), Ti y16.2.2.1, .v (.int .u64 y16.2.2.2)])]⟩) ?_ ?_
     ·refine L0 rfl rfl (E_move (.pt 80000 0) rfl (by kernel_rfl)) ?_
      refine XL_cons rfl (X_callR (E' := [(80000, .pbox (σ 80000) [.sl (y16.2.1.map c5), Ti y16.2.2.1, .v (.int .u64 y16.2.2.2)])]) [(80000, 80000)] 30 (s_spec_l1Cur_pick hy16) cf_spec_l1Cur_pick rfl rfl (by kernel_rfl) rfl (mE_cons (by kernel_rfl) mE_nil) rfl (by kernel_rfl) rfl rfl (by kernel_rfl)) ?_
      refine L0 rfl rfl (Y0_sub64 (a := y16.1) (b := 40) rfl (by kernel_rfl) (by kernel_rfl)) ?_
      refine L0 rfl rfl (E_assign (I (w64 (y16.1 - 40))) rfl (by kernel_rfl)) ?_
      refine XL_nil ?_
      subst ht17
      kernel_rfl
     refine V_ret ?_
     obtain rfl := some_inj h
     show PostR _ _ _ _ _ _
     exact ⟨⟨.inr rfl, rfl, rfl, rfl⟩, ⟨rfl, trivial⟩⟩
theorem cf_spec_l1Cur_small : ∀ args w, (callFunc 69 args).run Try.prog w = .ok (.enter 69 args) w := run_callFunc Try.func69 (by kernel_rfl) (by kernel_rfl)
set_option maxRecDepth 100000 in
set_option maxHeartbeats 400000 in
theorem s_spec_l1Cur_small {c1 : ((List Int) × Int × Int)} {r : (Int × (((List Int) × Int × Int)))} (h : r_spec_l1Cur_small c1 = some r) : CallR Try.prog 69 [.pt 80000 0] [(80000, .box [.sl (c1.1.map c5), Ti c1.2.1, .v (.int .u64 c1.2.2)])] (I r.1) [] [(80000, .box [.sl (r.2.1.map c5), Ti r.2.2.1, .v (.int .u64 r.2.2.2)])] := by
  refine CallR_of_text (rs := [.t 2]) (vs := [.tmp 2]) Try.func69 rfl rfl (.cons rfl FitsL.nil) (by decide) 10 rfl rfl fun σ => ?_
  unfold r_spec_l1Cur_small at h
  show V _ _ ⟨.pt 80000 0 :: bt 9 [], [(80000, .pbox (σ 80000) [.sl (c1.1.map c5), Ti c1.2.1, .v (.int .u64 c1.2.2)])]⟩ _
  refine V_sreg (mb 10 1) [80000] (s1 := ⟨.pt 80000 0 :: bt 9 [], [(80000, .pbox (σ 80000) [.sl (c1.1.map c5), Ti c1.2.1, .v (.int .u64 c1.2.2)])]⟩) ?_ ?_
  ·refine L0 rfl rfl (E_assign (I 0) rfl (by kernel_rfl)) ?_
   refine XL_nil ?_
   kernel_rfl
  refine V_seq ?_
  obtain ⟨y2, hy2, h⟩ := of_bind h
  refine V_sreg (mb 10 17) [80000] (s1 := ⟨.pt 80000 0 :: bt 3 (Bo y2.1 :: bt 5 []), [(80000, .pbox (σ 80000) [.sl (y2.2.1.map c5), Ti y2.2.2.1, .v (.int .u64 y2.2.2.2)])]⟩) ?_ ?_
  ·refine L0 rfl rfl (E_move (.pt 80000 0) rfl (by kernel_rfl)) ?_
   refine XL_cons rfl (X_callR (E' := [(80000, .pbox (σ 80000) [.sl (y2.2.1.map c5), Ti y2.2.2.1, .v (.int .u64 y2.2.2.2)])]) [(80000, 80000)] 4 (s_spec_l1Cur_one hy2) cf_spec_l1Cur_one rfl rfl (by kernel_rfl) rfl (mE_cons (by kernel_rfl) mE_nil) rfl (by kernel_rfl) rfl rfl (by kernel_rfl)) ?_
   refine XL_nil ?_
   kernel_rfl
  refine V_cond rfl (fun hc3 => ?_) (fun hc3 => ?_)
  ·have h := of_true h hc3
   obtain ⟨y4, hy4, h⟩ := of_bind h
   refine V_sreg (mb 10 4) [80000] (s1 := ⟨.bot :: .bot :: I y4.1 :: bt 7 [], [(80000, .pbox (σ 80000) [.sl (y4.2.1.map c5), Ti y4.2.2.1, .v (.int .u64 y4.2.2.2)])]⟩) ?_ ?_
   ·refine L0 rfl rfl (E_move (.pt 80000 0) rfl (by kernel_rfl)) ?_
    refine XL_cons rfl (X_callR (E' := [(80000, .pbox (σ 80000) [.sl (y4.2.1.map c5), Ti y4.2.2.1, .v (.int .u64 y4.2.2.2)])]) [(80000, 80000)] 6 (s_spec_l1Cur_number hy4) cf_spec_l1Cur_number rfl rfl (by kernel_rfl) rfl (mE_cons (by kernel_rfl) mE_nil) rfl (by kernel_rfl) rfl rfl (by kernel_rfl)) ?_
    refine L0 rfl rfl (E_assign (I y4.1) rfl (by kernel_rfl)) ?_
    refine XL_nil ?_
    kernel_rfl
   refine V_ret ?_
   obtain rfl := some_inj h
   show PostR _ _ _ _ _ _
   exact ⟨⟨.inr rfl, rfl, rfl, rfl⟩, ⟨rfl, trivial⟩⟩
  ·have h := of_false h hc3
   refine V_skip ?_
   show V _ _ _ _
   obtain ⟨y5, hy5, h⟩ := of_bind h
   obtain ⟨t6, ht6, h⟩ := of_sI h
   refine V_sreg (mb 10 4) [80000] (s1 := ⟨.bot :: .bot :: I t6 :: bt 7 [], [(80000, .pbox (σ 80000) [.sl (y5.2.1.map c5), Ti y5.2.2.1, .v (.int .u64 y5.2.2.2)])]⟩) ?_ ?_
   ·refine L0 rfl rfl (E_move (.pt 80000 0) rfl (by kernel_rfl)) ?_
    refine XL_cons rfl (X_callR (E' := [(80000, .pbox (σ 80000) [.sl (y5.2.1.map c5), Ti y5.2.2.1, .v (.int .u64 y5.2.2.2)])]) [(80000, 80000)] 8 (s_spec_l1Cur_pick hy5) cf_spec_l1Cur_pick rfl rfl (by kernel_rfl) rfl (mE_cons (by kernel_rfl) mE_nil) rfl (by kernel_rfl) rfl rfl (by kernel_rfl)) ?_
    refine L0 rfl rfl (Y0_sub64 (a := y5.1) (b := 40) rfl (by kernel_rfl) (by kernel_rfl)) ?_
    refine L0 rfl rfl (E_assign (I (w64 (y5.1 - 40))) rfl (by kernel_rfl)) ?_
    refine XL_nil ?_
    subst ht6
    kernel_rfl
   refine V_ret ?_
   obtain rfl := some_inj h
   show PostR _ _ _ _ _ _
   exact ⟨⟨.inr rfl, rfl, rfl, rfl⟩, ⟨rfl, trivial⟩⟩
theorem cf_spec_l1In : ∀ args w, (callFunc 99 args).run Try.prog w = .ok (.enter 99 args) w := run_callFunc Try.func99 (by kernel_rfl) (by kernel_rfl)
set_option maxRecDepth 100000 in
set_option maxHeartbeats 400000 in
theorem s_spec_l1In {vn1 : Int} {lo2 : Int} {hi3 : Int} {r : Bool} (h : r_spec_l1In vn1 lo2 hi3 = some r) : CallS Try.prog 99 [I vn1, I lo2, I hi3] (Bo r) [] := by
  refine CallS_of_text (rs := [.t 6]) (vs := [.tmp 6]) Try.func99 rfl rfl (.cons rfl FitsL.nil) (by decide) 15 rfl ?_
  unfold r_spec_l1In at h
  show V _ _ ⟨I vn1 :: I lo2 :: I hi3 :: bt 12 [], []⟩ _
  refine V_sreg (mb 15 7) [] (s1 := ⟨I vn1 :: I lo2 :: I hi3 :: bt 12 [], []⟩) ?_ ?_
  ·refine L0 rfl rfl (E_assign (Bo false) rfl (by kernel_rfl)) ?_
   refine XL_nil ?_
   kernel_rfl
  refine V_sreg (mb 15 64) [] (s1 := ⟨bt 6 (Bo (bif (leI lo2 vn1) then (leI vn1 hi3) else false) :: bt 8 []), []⟩) ?_ ?_
  ·refine L0 rfl rfl (E_move (I vn1) rfl (by kernel_rfl)) ?_
   refine L0 rfl rfl (E_move (I lo2) rfl (by kernel_rfl)) ?_
   refine L0 rfl rfl (Y0_gew (k := .i64) (a := vn1) (b := lo2) rfl (by kernel_rfl) (by kernel_rfl)) ?_
   refine L0 rfl rfl (E_move (Bo (leI lo2 vn1)) rfl (by kernel_rfl)) ?_
   refine XL_split (leI lo2 vn1) (fun hc4 => ?_) (fun hc4 => ?_)
   ·refine XL_takeC _ rfl rfl (by kernel_rfl) hc4 (X_of_Y0 rfl (E_move (I vn1) rfl (by kernel_rfl))) ?_
    refine XL_takeC _ rfl rfl (by kernel_rfl) hc4 (X_of_Y0 rfl (E_move (I hi3) rfl (by kernel_rfl))) ?_
    refine XL_takeC _ rfl rfl (by kernel_rfl) hc4 (X_of_Y0 rfl (Y0_lew (k := .i64) (a := vn1) (b := hi3) rfl (by kernel_rfl) (by kernel_rfl))) ?_
    refine XL_cons rfl (X_of_Y0 rfl (Y0_pick1 (b := leI lo2 vn1) (p := leI vn1 hi3) (q := false) rfl (by kernel_rfl) hc4 (by kernel_rfl))) ?_
    refine L0 rfl rfl (E_assign (Bo (bif (leI lo2 vn1) then (leI vn1 hi3) else false)) rfl (by kernel_rfl)) ?_
    refine XL_nil ?_
    kernel_rfl
   ·refine XL_skipT _ rfl rfl (by kernel_rfl) hc4 rfl ?_
    refine XL_skipT _ rfl rfl (by kernel_rfl) hc4 rfl ?_
    refine XL_skipT _ rfl rfl (by kernel_rfl) hc4 rfl ?_
    refine XL_cons rfl (X_of_Y0 rfl (Y0_pick0 (b := leI lo2 vn1) (p := leI vn1 hi3) (q := false) rfl (by kernel_rfl) hc4 (by kernel_rfl))) ?_
    refine L0 rfl rfl (E_assign (Bo (bif (leI lo2 vn1) then (leI vn1 hi3) else false)) rfl (by kernel_rfl)) ?_
    refine XL_nil ?_
    kernel_rfl
  refine V_ret ?_
  obtain rfl := some_inj h
  show Post _ _ _ _ _
  exact ⟨.inr rfl, rfl, rfl, rfl⟩
theorem cf_spec_reDisc : ∀ args w, (callFunc 59 args).run Try.prog w = .ok (.enter 59 args) w := run_callFunc Try.func59 (by kernel_rfl) (by kernel_rfl)
set_option maxRecDepth 100000 in
set_option maxHeartbeats 400000 in
theorem s_spec_reDisc {d1 : Int} {r : Bool} (h : r_spec_reDisc d1 = some r) : CallS Try.prog 59 [I d1] (Bo r) [] := by
  refine CallS_of_text (rs := [.t 2]) (vs := [.tmp 2]) Try.func59 rfl rfl (.cons rfl FitsL.nil) (by decide) 10 rfl ?_
  unfold r_spec_reDisc at h
  show V _ _ ⟨I d1 :: bt 9 [], []⟩ _
  refine V_sreg (mb 10 1) [] (s1 := ⟨I d1 :: bt 9 [], []⟩) ?_ ?_
  ·refine L0 rfl rfl (E_assign (Bo false) rfl (by kernel_rfl)) ?_
   refine XL_nil ?_
   kernel_rfl
  obtain ⟨y2, hy2, h⟩ := of_bind h
  obtain ⟨b5, hb5, h⟩ := of_bind h
  refine V_sreg (mb 10 4) [] (s1 := ⟨.bot :: .bot :: Bo b5 :: bt 7 [], []⟩) ?_ ?_
  ·refine L0 rfl rfl (E_move (I d1) rfl (by kernel_rfl)) ?_
   refine L1 rfl rfl (Y1_call (s_spec_l1In hy2) cf_spec_l1In rfl (by kernel_rfl)) ?_
   refine L0 rfl rfl (E_move (Bo y2) rfl (by kernel_rfl)) ?_
   refine XL_split y2 (fun hc3 => ?_) (fun hc3 => ?_)
   ·have hb5 := of_true hb5 hc3
    obtain ⟨y4, hy4, hb5⟩ := of_bind hb5
    have hb5 := some_inj hb5
    refine XL_takeC _ rfl rfl (by kernel_rfl) hc3 (X_of_Y0 rfl (E_move (I d1) rfl (by kernel_rfl))) ?_
    refine XL_takeC _ rfl rfl (by kernel_rfl) hc3 (X_of_Y1 rfl (Y1_call (s_spec_nuMod hy4) cf_spec_nuMod rfl (by kernel_rfl))) ?_
    refine XL_takeC _ rfl rfl (by kernel_rfl) hc3 (X_of_Y0 rfl (Y0_ltw (k := .i64) (a := y4) (b := 2) rfl (by kernel_rfl) (by kernel_rfl))) ?_
    refine XL_cons rfl (X_of_Y0 rfl (Y0_pickTe (b := y2) (p := ltI y4 2) rfl (by kernel_rfl) hc3 (by kernel_rfl) hb5)) ?_
    refine L0 rfl rfl (E_assign (Bo b5) rfl (by kernel_rfl)) ?_
    refine XL_nil ?_
    kernel_rfl
   ·have hb5 := some_inj (of_false hb5 hc3)
    refine XL_skipT _ rfl rfl (by kernel_rfl) hc3 rfl ?_
    refine XL_skipT _ rfl rfl (by kernel_rfl) hc3 rfl ?_
    refine XL_skipT _ rfl rfl (by kernel_rfl) hc3 rfl ?_
    refine XL_cons rfl (X_of_Y0 rfl (Y0_pickFe (b := y2) (p := false) rfl (by kernel_rfl) hc3 (by kernel_rfl) hb5)) ?_
    refine L0 rfl rfl (E_assign (Bo b5) rfl (by kernel_rfl)) ?_
    refine XL_nil ?_
    kernel_rfl
  refine V_ret ?_
  obtain rfl := some_inj h
  show Post _ _ _ _ _
  exact ⟨.inr rfl, rfl, rfl, rfl⟩
theorem cf_spec_nuGood : ∀ args w, (callFunc 70 args).run Try.prog w = .ok (.enter 70 args) w := run_callFunc Try.func70 (by kernel_rfl) (by kernel_rfl)
set_option maxRecDepth 100000 in
set_option maxHeartbeats 400000 in
theorem s_spec_nuGood {vn1 : Int} {r : Bool} (h : r_spec_nuGood vn1 = some r) : CallS Try.prog 70 [I vn1] (Bo r) [] := by
  refine CallS_of_text (rs := [.t 2]) (vs := [.tmp 2]) Try.func70 rfl rfl (.cons rfl FitsL.nil) (by decide) 5 rfl ?_
  unfold r_spec_nuGood at h
  show V _ _ ⟨I vn1 :: bt 4 [], []⟩ _
  refine V_sreg (mb 5 1) [] (s1 := ⟨I vn1 :: bt 4 [], []⟩) ?_ ?_
  ·refine L0 rfl rfl (E_assign (Bo false) rfl (by kernel_rfl)) ?_
   refine XL_nil ?_
   kernel_rfl
  obtain ⟨y2, hy2, h⟩ := of_bind h
  refine V_sreg (mb 5 4) [] (s1 := ⟨.bot :: .bot :: Bo y2 :: .bot :: .bot :: [], []⟩) ?_ ?_
  ·refine L0 rfl rfl (E_move (I vn1) rfl (by kernel_rfl)) ?_
   refine L1 rfl rfl (Y1_call (s_spec_l1In hy2) cf_spec_l1In rfl (by kernel_rfl)) ?_
   refine L0 rfl rfl (E_assign (Bo y2) rfl (by kernel_rfl)) ?_
   refine XL_nil ?_
   kernel_rfl
  refine V_ret ?_
  obtain rfl := some_inj h
  show Post _ _ _ _ _
  exact ⟨.inr rfl, rfl, rfl, rfl⟩
theorem cf_spec_l1Abs : ∀ args w, (callFunc 51 args).run Try.prog w = .ok (.enter 51 args) w := run_callFunc Try.func51 (by kernel_rfl) (by kernel_rfl)
set_option maxRecDepth 100000 in
set_option maxHeartbeats 400000 in
theorem s_spec_l1Abs {vn1 : Int} {r : Int} (h : r_spec_l1Abs vn1 = some r) : CallS Try.prog 51 [I vn1] (I r) [] := by
  refine CallS_of_text (rs := [.t 2]) (vs := [.tmp 2]) Try.func51 rfl rfl (.cons rfl FitsL.nil) (by decide) 7 rfl ?_
  unfold r_spec_l1Abs at h
  show V _ _ ⟨I vn1 :: bt 6 [], []⟩ _
  refine V_sreg (mb 7 1) [] (s1 := ⟨I vn1 :: bt 6 [], []⟩) ?_ ?_
  ·refine L0 rfl rfl (E_assign (I 0) rfl (by kernel_rfl)) ?_
   refine XL_nil ?_
   kernel_rfl
  obtain ⟨y2, hy2, h⟩ := of_bind h
  refine V_sreg (mb 7 4) [] (s1 := ⟨.bot :: .bot :: I y2 :: bt 4 [], []⟩) ?_ ?_
  ·refine L0 rfl rfl (E_move (I vn1) rfl (by kernel_rfl)) ?_
   refine L0 rfl rfl (E_move (I vn1) rfl (by kernel_rfl)) ?_
   refine L0 rfl rfl (Y0_neg64 (a := vn1) rfl (by kernel_rfl)) ?_
   refine L1 rfl rfl (Y1_call (s_spec_l1Most hy2) cf_spec_l1Most rfl (by kernel_rfl)) ?_
   refine L0 rfl rfl (E_assign (I y2) rfl (by kernel_rfl)) ?_
   refine XL_nil ?_
   kernel_rfl
  refine V_ret ?_
  obtain rfl := some_inj h
  show Post _ _ _ _ _
  exact ⟨.inr rfl, rfl, rfl, rfl⟩
theorem cf_spec_nuGcd : ∀ args w, (callFunc 71 args).run Try.prog w = .ok (.enter 71 args) w := run_callFunc Try.func71 (by kernel_rfl) (by kernel_rfl)
set_option maxRecDepth 100000 in
set_option maxHeartbeats 400000 in
theorem s_spec_nuGcd {a1 : Int} {b2 : Int} {r : Int} (h : r_spec_nuGcd a1 b2 = some r) : CallS Try.prog 71 [I a1, I b2] (I r) [] := by
  refine CallS_of_text (rs := [.t 4]) (vs := [.tmp 4]) Try.func71 rfl rfl (.cons rfl FitsL.nil) (by decide) 16 rfl ?_
  unfold r_spec_nuGcd at h
  show V _ _ ⟨I a1 :: I b2 :: bt 14 [], []⟩ _
  refine V_sreg (mb 16 3) [] (s1 := ⟨I a1 :: I b2 :: bt 14 [], []⟩) ?_ ?_
  ·refine L0 rfl rfl (E_assign (I 0) rfl (by kernel_rfl)) ?_
   refine XL_nil ?_
   kernel_rfl
  obtain ⟨y3, hy3, h⟩ := of_bind h
  obtain ⟨y4, hy4, h⟩ := of_bind h
  refine V_sreg (mb 16 3) [] (s1 := ⟨I y3 :: I y4 :: bt 14 [], []⟩) ?_ ?_
  ·refine L0 rfl rfl (E_move (I a1) rfl (by kernel_rfl)) ?_
   refine L1 rfl rfl (Y1_call (s_spec_l1Abs hy3) cf_spec_l1Abs rfl (by kernel_rfl)) ?_
   refine L0 rfl rfl (E_move (I b2) rfl (by kernel_rfl)) ?_
   refine L1 rfl rfl (Y1_call (s_spec_l1Abs hy4) cf_spec_l1Abs rfl (by kernel_rfl)) ?_
   refine L0 rfl rfl (E_assign (I y3) rfl (by kernel_rfl)) ?_
   refine L0 rfl rfl (E_assign (I y4) rfl (by kernel_rfl)) ?_
   refine XL_nil ?_
   kernel_rfl
  refine V_seq ?_
  obtain ⟨o8, hLo8, h⟩ := of_bind h
  refine V_toK (mb 16 1) [] (s1 := ⟨I o8 :: bt 15 [], []⟩) ?_ ?_
  ·clear h
   refine V_block (V_loop (fun n s => ∃ (a5 : Int) (b6 : Int), s.keep (mb 16 3) [] = (⟨I a5 :: I b6 :: bt 14 [], []⟩ : St) ∧ r_spec_nuGcd_L7 n a5 b6 = some o8) FU ⟨_, _,  by rfl, hLo8⟩ ?_)
   clear hLo8
   rintro n s ⟨a5, b6, hs, h⟩
   refine V_keep _ _ hs ?_
   clear hs
   cases n with
   | zero => cases h
   | succ n =>
    rw [r_spec_nuGcd_L7] at h
    refine V_seq ?_
    refine V_sreg (mb 16 1027) [] (s1 := ⟨I a5 :: I b6 :: bt 8 (Bo (!eqI b6 0) :: bt 5 []), []⟩) ?_ ?_
    ·refine L0 rfl rfl (E_move (I b6) rfl (by kernel_rfl)) ?_
     refine L0 rfl rfl (Y0_new (k := .i64) (a := b6) (b := 0) rfl (by kernel_rfl) (by kernel_rfl)) ?_
     refine XL_nil ?_
     kernel_rfl
    refine V_cond rfl (fun hc9 => ?_) (fun hc9 => ?_)
    ·have h := of_true h hc9
     refine V_skip ?_
     show V _ _ _ _
     refine V_block ?_
     obtain ⟨z10, hz10, h⟩ := of_bind h
     obtain ⟨b11, hb11, h⟩ := of_sI h
     refine V_dreg [0, 0, 0, 6, 3, 31] 6 [[.z, .b, .b, .b, .z, .z], [.b, .z, .b, .z, .z, .z], [.b, .b, .z, .z, .b, .z], [.b, .a, .a, .z, .b, .z], [.a, .a, .b, .b, .z, .z], [.a, .a, .a, .a, .a, .z]] (mb 16 3) [] (s1 := ⟨I b6 :: I b11 :: bt 14 [], []⟩) (by kernel_rfl) (by kernel_rfl) ?_ ?_
     ·refine DE_0 0 (I b6) (by kernel_rfl) rfl rfl rfl (gsat_none rfl) (by kernel_rfl) (E_move (I b6) rfl (by kernel_rfl)) 11 rfl ?_
      refine DE_0 1 (I a5) (by kernel_rfl) rfl rfl rfl (gsat_none rfl) (by kernel_rfl) (E_move (I a5) rfl (by kernel_rfl)) 12 rfl ?_
      refine DE_0 2 (I b6) (by kernel_rfl) rfl rfl rfl (gsat_none rfl) (by kernel_rfl) (E_move (I b6) rfl (by kernel_rfl)) 13 rfl ?_
      refine DE_0 3 (I (Int.tmod a5 b6)) (by kernel_rfl) rfl rfl rfl (gsat_none rfl) (by kernel_rfl) (Y0_rem (k := .i64) (a := a5) (b := b6) rfl (by kernel_rfl) (by kernel_rfl) (nz_some hz10)) 14 rfl ?_
      refine DE_0 4 (I b6) (by kernel_rfl) rfl rfl rfl (gsat_none rfl) (by kernel_rfl) (E_assign (I b6) rfl (by kernel_rfl)) 0 rfl ?_
      refine DE_0 5 (I (Int.tmod a5 b6)) (by kernel_rfl) rfl rfl rfl (gsat_none rfl) (by kernel_rfl) (E_assign (I (Int.tmod a5 b6)) rfl (by kernel_rfl)) 1 rfl ?_
      refine DL_nil (by kernel_rfl) ?_
      refine XL_nil ?_
      subst hb11
      kernel_rfl
     exact ⟨n, Nat.lt_succ_self n, _, _,  by rfl, h⟩
    ·have h := of_false h hc9
     refine V_exit ?_
     obtain rfl := some_inj h
     show St.keep _ _ _ = _
     rfl
  show V _ _ _ _
  refine V_sreg (mb 16 16) [] (s1 := ⟨bt 4 (I o8 :: bt 11 []), []⟩) ?_ ?_
  ·refine L0 rfl rfl (E_move (I o8) rfl (by kernel_rfl)) ?_
   refine L0 rfl rfl (E_assign (I o8) rfl (by kernel_rfl)) ?_
   refine XL_nil ?_
   kernel_rfl
  refine V_ret ?_
  obtain rfl := some_inj h
  show Post _ _ _ _ _
  exact ⟨.inr rfl, rfl, rfl, rfl⟩
theorem cf_spec_DrawValuesAt : ∀ args w, (callFunc 30 args).run Try.prog w = .ok (.enter 30 args) w := run_callFunc Try.func30 (by kernel_rfl) (by kernel_rfl)
set_option maxRecDepth 100000 in
set_option maxHeartbeats 400000 in
theorem s_spec_DrawValuesAt {code1 : List Int} {r : (Int × Int)} (h : r_spec_DrawValuesAt code1 = some r) : CallS Try.prog 30 [.c (.sl (code1.map c5))] (.tc (I r.1) (.tc (I r.2) .tn)) [] := by
  refine CallS_of_text (rs := [.t 2, .t 3]) (vs := [.tmp 2, .tmp 3]) Try.func30 rfl rfl (.cons rfl (.cons rfl FitsL.nil)) (by decide) 38 rfl ?_
  unfold r_spec_DrawValuesAt at h
  show V _ _ ⟨.c (.sl (code1.map c5)) :: bt 37 [], []⟩ _
  refine V_sreg (mb 38 1) [] (s1 := ⟨.c (.sl (code1.map c5)) :: bt 37 [], []⟩) ?_ ?_
  ·refine L0 rfl rfl (E_assign (I 0) rfl (by kernel_rfl)) ?_
   refine L0 rfl rfl (E_assign (I 0) rfl (by kernel_rfl)) ?_
   refine XL_nil ?_
   kernel_rfl
  refine V_sreg (mb 38 16) [80] (s1 := ⟨bt 4 (.pt 80 0 :: bt 33 []), [(80, .box [.sl (code1.map c5), Ti 0, .v (.int .u64 0)])]⟩) ?_ ?_
  ·refine L0 rfl rfl (E_move (.c (.sl (code1.map c5))) rfl (by kernel_rfl)) ?_
   refine L0 rfl rfl (Y0_build (cs := [.sl (code1.map c5), Ti 0, .v (.int .u64 0)]) pl57 bt57 rfl rfl (by kernel_rfl)) ?_
   refine L1 rfl rfl (Y1_box (cs := [.sl (code1.map c5), Ti 0, .v (.int .u64 0)]) rfl (by kernel_rfl)) ?_
   refine L0 rfl rfl (E_assign (.pt 80 0) rfl (by kernel_rfl)) ?_
   refine XL_nil ?_
   kernel_rfl
  obtain ⟨y2, hy2, h⟩ := of_bind h
  refine V_sreg (mb 38 48) [80] (s1 := ⟨bt 4 (.pt 80 0 :: I y2.1 :: bt 32 []), [(80, .box [.sl (y2.2.1.map c5), Ti y2.2.2.1, .v (.int .u64 y2.2.2.2)])]⟩) ?_ ?_
  ·refine L0 rfl rfl (E_move (.pt 80 0) rfl (by kernel_rfl)) ?_
   refine XL_cons rfl (X_callR (E' := [(80, .box [.sl (y2.2.1.map c5), Ti y2.2.2.1, .v (.int .u64 y2.2.2.2)])]) [(80000, 80)] 12 (s_spec_l1Cur_disc hy2) cf_spec_l1Cur_disc rfl rfl (by kernel_rfl) rfl (mE_cons (by kernel_rfl) mE_nil) rfl (by kernel_rfl) rfl rfl (by kernel_rfl)) ?_
   refine L0 rfl rfl (E_assign (I y2.1) rfl (by kernel_rfl)) ?_
   refine XL_nil ?_
   kernel_rfl
  obtain ⟨y3, hy3, h⟩ := of_bind h
  refine V_sreg (mb 38 96) [] (s1 := ⟨bt 5 (I y2.1 :: I y3.1 :: bt 31 []), []⟩) ?_ ?_
  ·refine L0 rfl rfl (E_move (.pt 80 0) rfl (by kernel_rfl)) ?_
   refine XL_cons rfl (X_callR (E' := [(80, .box [.sl (y3.2.1.map c5), Ti y3.2.2.1, .v (.int .u64 y3.2.2.2)])]) [(80000, 80)] 14 (s_spec_l1Cur_small hy3) cf_spec_l1Cur_small rfl rfl (by kernel_rfl) rfl (mE_cons (by kernel_rfl) mE_nil) rfl (by kernel_rfl) rfl rfl (by kernel_rfl)) ?_
   refine L0 rfl rfl (E_assign (I y3.1) rfl (by kernel_rfl)) ?_
   refine XL_nil ?_
   kernel_rfl
  refine V_seq ?_
  refine V_sreg (mb 38 224) [] (s1 := ⟨bt 5 (I y2.1 :: I y3.1 :: I 0 :: bt 30 []), []⟩) ?_ ?_
  ·refine L0 rfl rfl (E_assign (I 0) rfl (by kernel_rfl)) ?_
   refine XL_nil ?_
   kernel_rfl
  obtain ⟨o7, hLo7, h⟩ := of_bind h
  refine V_toK (mb 38 96) [] (s1 := ⟨bt 5 (I y2.1 :: I o7 :: bt 31 []), []⟩) ?_ ?_
  ·clear h
   refine V_block (V_loop (fun n s => ∃ (vn4 : Int) (k5 : Int), s.keep (mb 38 224) [] = (⟨bt 5 (I y2.1 :: I vn4 :: I k5 :: bt 30 []), []⟩ : St) ∧ r_spec_DrawValuesAt_L6 y2 n vn4 k5 = some o7) FU ⟨_, _,  by rfl, hLo7⟩ ?_)
   clear hLo7
   rintro n s ⟨vn4, k5, hs, h⟩
   refine V_keep _ _ hs ?_
   clear hs
   cases n with
   | zero => cases h
   | succ n =>
    rw [r_spec_DrawValuesAt_L6] at h
    refine V_seq ?_
    obtain ⟨b10, hb10, h⟩ := of_bind h
    obtain ⟨b13, hb13, h⟩ := of_bind h
    obtain ⟨b16, hb16, h⟩ := of_bind h
    refine V_sreg (mb 38 2147483872) [] (s1 := ⟨bt 5 (I y2.1 :: I vn4 :: I k5 :: bt 23 (Bo b16 :: bt 6 [])), []⟩) ?_ ?_
    ·refine L0 rfl rfl (E_move (I k5) rfl (by kernel_rfl)) ?_
     refine L0 rfl rfl (Y0_ltw (k := .i64) (a := k5) (b := 4) rfl (by kernel_rfl) (by kernel_rfl)) ?_
     refine L0 rfl rfl (E_move (Bo (ltI k5 4)) rfl (by kernel_rfl)) ?_
     refine XL_split (ltI k5 4) (fun hc8 => ?_) (fun hc8 => ?_)
     ·have hb10 := of_true hb10 hc8
      obtain ⟨y9, hy9, hb10⟩ := of_bind hb10
      have hb10 := some_inj hb10
      refine XL_takeC _ rfl rfl (by kernel_rfl) hc8 (X_of_Y0 rfl (E_move (I y2.1) rfl (by kernel_rfl))) ?_
      refine XL_takeC _ rfl rfl (by kernel_rfl) hc8 (X_of_Y1 rfl (Y1_call (s_spec_reDisc hy9) cf_spec_reDisc rfl (by kernel_rfl))) ?_
      refine XL_cons rfl (X_of_Y0 rfl (Y0_pickTe (b := ltI k5 4) (p := y9) rfl (by kernel_rfl) hc8 (by kernel_rfl) hb10)) ?_
      refine L0 rfl rfl (E_move (Bo b10) rfl (by kernel_rfl)) ?_
      refine XL_split b10 (fun hc11 => ?_) (fun hc11 => ?_)
      ·have hb13 := of_true hb13 hc11
       obtain ⟨y12, hy12, hb13⟩ := of_bind hb13
       have hb13 := some_inj hb13
       refine XL_takeC _ rfl rfl (by kernel_rfl) hc11 (X_of_Y0 rfl (E_move (I vn4) rfl (by kernel_rfl))) ?_
       refine XL_takeC _ rfl rfl (by kernel_rfl) hc11 (X_of_Y1 rfl (Y1_call (s_spec_nuGood hy12) cf_spec_nuGood rfl (by kernel_rfl))) ?_
       refine XL_cons rfl (X_of_Y0 rfl (Y0_pickTe (b := b10) (p := y12) rfl (by kernel_rfl) hc11 (by kernel_rfl) hb13)) ?_
       refine L0 rfl rfl (E_move (Bo b13) rfl (by kernel_rfl)) ?_
       refine XL_split b13 (fun hc14 => ?_) (fun hc14 => ?_)
       ·have hb16 := of_true hb16 hc14
        obtain ⟨y15, hy15, hb16⟩ := of_bind hb16
        have hb16 := some_inj hb16
        refine XL_takeC _ rfl rfl (by kernel_rfl) hc14 (X_of_Y0 rfl (E_move (I vn4) rfl (by kernel_rfl))) ?_
        refine XL_takeC _ rfl rfl (by kernel_rfl) hc14 (X_of_Y0 rfl (E_move (I y2.1) rfl (by kernel_rfl))) ?_
        refine XL_takeC _ rfl rfl (by kernel_rfl) hc14 (X_of_Y0 rfl (Y0_mul64 (a := 2) (b := y2.1) rfl (by kernel_rfl) (by kernel_rfl))) ?_
        refine XL_takeC _ rfl rfl (by kernel_rfl) hc14 (X_of_Y1 rfl (Y1_call (s_spec_nuGcd hy15) cf_spec_nuGcd rfl (by kernel_rfl))) ?_
        refine XL_takeC _ rfl rfl (by kernel_rfl) hc14 (X_of_Y0 rfl (Y0_new (k := .i64) (a := y15) (b := 1) rfl (by kernel_rfl) (by kernel_rfl))) ?_
        refine XL_cons rfl (X_of_Y0 rfl (Y0_pickTe (b := b13) (p := !eqI y15 1) rfl (by kernel_rfl) hc14 (by kernel_rfl) hb16)) ?_
        refine XL_nil ?_
        kernel_rfl
       ·have hb16 := some_inj (of_false hb16 hc14)
        refine XL_skipT _ rfl rfl (by kernel_rfl) hc14 rfl ?_
        refine XL_skipT _ rfl rfl (by kernel_rfl) hc14 rfl ?_
        refine XL_skipT _ rfl rfl (by kernel_rfl) hc14 rfl ?_
        refine XL_skipT _ rfl rfl (by kernel_rfl) hc14 rfl ?_
        refine XL_skipT _ rfl rfl (by kernel_rfl) hc14 rfl ?_
        refine XL_cons rfl (X_of_Y0 rfl (Y0_pickFe (b := b13) (p := false) rfl (by kernel_rfl) hc14 (by kernel_rfl) hb16)) ?_
        refine XL_nil ?_
        kernel_rfl
      ·have hb13 := some_inj (of_false hb13 hc11)
       refine XL_skipT _ rfl rfl (by kernel_rfl) hc11 rfl ?_
       refine XL_skipT _ rfl rfl (by kernel_rfl) hc11 rfl ?_
       refine XL_cons rfl (X_of_Y0 rfl (Y0_pickFe (b := b10) (p := false) rfl (by kernel_rfl) hc11 (by kernel_rfl) hb13)) ?_
       refine L0 rfl rfl (E_move (Bo b13) rfl (by kernel_rfl)) ?_
       refine XL_split b13 (fun hc14 => ?_) (fun hc14 => ?_)
       ·have hb16 := of_true hb16 hc14
        obtain ⟨y15, hy15, hb16⟩ := of_bind hb16
        have hb16 := some_inj hb16
        refine XL_takeC _ rfl rfl (by kernel_rfl) hc14 (X_of_Y0 rfl (E_move (I vn4) rfl (by kernel_rfl))) ?_
        refine XL_takeC _ rfl rfl (by kernel_rfl) hc14 (X_of_Y0 rfl (E_move (I y2.1) rfl (by kernel_rfl))) ?_
        refine XL_takeC _ rfl rfl (by kernel_rfl) hc14 (X_of_Y0 rfl (Y0_mul64 (a := 2) (b := y2.1) rfl (by kernel_rfl) (by kernel_rfl))) ?_
        refine XL_takeC _ rfl rfl (by kernel_rfl) hc14 (X_of_Y1 rfl (Y1_call (s_spec_nuGcd hy15) cf_spec_nuGcd rfl (by kernel_rfl))) ?_
        refine XL_takeC _ rfl rfl (by kernel_rfl) hc14 (X_of_Y0 rfl (Y0_new (k := .i64) (a := y15) (b := 1) rfl (by kernel_rfl) (by kernel_rfl))) ?_
        refine XL_cons rfl (X_of_Y0 rfl (Y0_pickTe (b := b13) (p := !eqI y15 1) rfl (by kernel_rfl) hc14 (by kernel_rfl) hb16)) ?_
        refine XL_nil ?_
        kernel_rfl
       ·have hb16 := some_inj (of_false hb16 hc14)
        refine XL_skipT _ rfl rfl (by kernel_rfl) hc14 rfl ?_
        refine XL_skipT _ rfl rfl (by kernel_rfl) hc14 rfl ?_
        refine XL_skipT _ rfl rfl (by kernel_rfl) hc14 rfl ?_
        refine XL_skipT _ rfl rfl (by kernel_rfl) hc14 rfl ?_
        refine XL_skipT _ rfl rfl (by kernel_rfl) hc14 rfl ?_
        refine XL_cons rfl (X_of_Y0 rfl (Y0_pickFe (b := b13) (p := false) rfl (by kernel_rfl) hc14 (by kernel_rfl) hb16)) ?_
        refine XL_nil ?_
        kernel_rfl
     ·have hb10 := some_inj (of_false hb10 hc8)
      refine XL_skipT _ rfl rfl (by kernel_rfl) hc8 rfl ?_
      refine XL_skipT _ rfl rfl (by kernel_rfl) hc8 rfl ?_
      refine XL_cons rfl (X_of_Y0 rfl (Y0_pickFe (b := ltI k5 4) (p := false) rfl (by kernel_rfl) hc8 (by kernel_rfl) hb10)) ?_
      refine L0 rfl rfl (E_move (Bo b10) rfl (by kernel_rfl)) ?_
      refine XL_split b10 (fun hc11 => ?_) (fun hc11 => ?_)
      ·have hb13 := of_true hb13 hc11
       obtain ⟨y12, hy12, hb13⟩ := of_bind hb13
       have hb13 := some_inj hb13
       refine XL_takeC _ rfl rfl (by kernel_rfl) hc11 (X_of_Y0 rfl (E_move (I vn4) rfl (by kernel_rfl))) ?_
       refine XL_takeC _ rfl rfl (by kernel_rfl) hc11 (X_of_Y1 rfl (Y1_call (s_spec_nuGood hy12) cf_spec_nuGood rfl (by kernel_rfl))) ?_
       refine XL_cons rfl (X_of_Y0 rfl (Y0_pickTe (b := b10) (p := y12) rfl (by kernel_rfl) hc11 (by kernel_rfl) hb13)) ?_
       refine L0 rfl rfl (E_move (Bo b13) rfl (by kernel_rfl)) ?_
       refine XL_split b13 (fun hc14 => ?_) (fun hc14 => ?_)
       ·have hb16 := of_true hb16 hc14
        obtain ⟨y15, hy15, hb16⟩ := of_bind hb16
        have hb16 := some_inj hb16
        refine XL_takeC _ rfl rfl (by kernel_rfl) hc14 (X_of_Y0 rfl (E_move (I vn4) rfl (by kernel_rfl))) ?_
        refine XL_takeC _ rfl rfl (by kernel_rfl) hc14 (X_of_Y0 rfl (E_move (I y2.1) rfl (by kernel_rfl))) ?_
        refine XL_takeC _ rfl rfl (by kernel_rfl) hc14 (X_of_Y0 rfl (Y0_mul64 (a := 2) (b := y2.1) rfl (by kernel_rfl) (by kernel_rfl))) ?_
        refine XL_takeC _ rfl rfl (by kernel_rfl) hc14 (X_of_Y1 rfl (Y1_call (s_spec_nuGcd hy15) cf_spec_nuGcd rfl (by kernel_rfl))) ?_
        refine XL_takeC _ rfl rfl (by kernel_rfl) hc14 (X_of_Y0 rfl (Y0_new (k := .i64) (a := y15) (b := 1) rfl (by kernel_rfl) (by kernel_rfl))) ?_
        refine XL_cons rfl (X_of_Y0 rfl (Y0_pickTe (b := b13) (p := !eqI y15 1) rfl (by kernel_rfl) hc14 (by kernel_rfl) hb16)) ?_
        refine XL_nil ?_
        kernel_rfl
       ·have hb16 := some_inj (of_false hb16 hc14)
        refine XL_skipT _ rfl rfl (by kernel_rfl) hc14 rfl ?_
        refine XL_skipT _ rfl rfl (by kernel_rfl) hc14 rfl ?_
        refine XL_skipT _ rfl rfl (by kernel_rfl) hc14 rfl ?_
        refine XL_skipT _ rfl rfl (by kernel_rfl) hc14 rfl ?_
        refine XL_skipT _ rfl rfl (by kernel_rfl) hc14 rfl ?_
        refine XL_cons rfl (X_of_Y0 rfl (Y0_pickFe (b := b13) (p := false) rfl (by kernel_rfl) hc14 (by kernel_rfl) hb16)) ?_
        refine XL_nil ?_
        kernel_rfl
      ·have hb13 := some_inj (of_false hb13 hc11)
       refine XL_skipT _ rfl rfl (by kernel_rfl) hc11 rfl ?_
       refine XL_skipT _ rfl rfl (by kernel_rfl) hc11 rfl ?_
       refine XL_cons rfl (X_of_Y0 rfl (Y0_pickFe (b := b10) (p := false) rfl (by kernel_rfl) hc11 (by kernel_rfl) hb13)) ?_
       refine L0 rfl rfl (E_move (Bo b13) rfl (by kernel_rfl)) ?_
       refine XL_split b13 (fun hc14 => ?_) (fun hc14 => ?_)
       ·have hb16 := of_true hb16 hc14
        obtain ⟨y15, hy15, hb16⟩ := of_bind hb16
        have hb16 := some_inj hb16
        refine XL_takeC _ rfl rfl (by kernel_rfl) hc14 (X_of_Y0 rfl (E_move (I vn4) rfl (by kernel_rfl))) ?_
        refine XL_takeC _ rfl rfl (by kernel_rfl) hc14 (X_of_Y0 rfl (E_move (I y2.1) rfl (by kernel_rfl))) ?_
        refine XL_takeC _ rfl rfl (by kernel_rfl) hc14 (X_of_Y0 rfl (Y0_mul64 (a := 2) (b := y2.1) rfl (by kernel_rfl) (by kernel_rfl))) ?_
        refine XL_takeC _ rfl rfl (by kernel_rfl) hc14 (X_of_Y1 rfl (Y1_call (s_spec_nuGcd hy15) cf_spec_nuGcd rfl (by kernel_rfl))) ?_
        refine XL_takeC _ rfl rfl (by kernel_rfl) hc14 (X_of_Y0 rfl (Y0_new (k := .i64) (a := y15) (b := 1) rfl (by kernel_rfl) (by kernel_rfl))) ?_
        refine XL_cons rfl (X_of_Y0 rfl (Y0_pickTe (b := b13) (p := !eqI y15 1) rfl (by kernel_rfl) hc14 (by kernel_rfl) hb16)) ?_
        refine XL_nil ?_
        kernel_rfl
       ·have hb16 := some_inj (of_false hb16 hc14)
        refine XL_skipT _ rfl rfl (by kernel_rfl) hc14 rfl ?_
        refine XL_skipT _ rfl rfl (by kernel_rfl) hc14 rfl ?_
        refine XL_skipT _ rfl rfl (by kernel_rfl) hc14 rfl ?_
        refine XL_skipT _ rfl rfl (by kernel_rfl) hc14 rfl ?_
        refine XL_skipT _ rfl rfl (by kernel_rfl) hc14 rfl ?_
        refine XL_cons rfl (X_of_Y0 rfl (Y0_pickFe (b := b13) (p := false) rfl (by kernel_rfl) hc14 (by kernel_rfl) hb16)) ?_
        refine XL_nil ?_
        kernel_rfl
    refine V_cond rfl (fun hc17 => ?_) (fun hc17 => ?_)
    ·have h := of_true h hc17
     refine V_skip ?_
     show V _ _ _ _
     refine V_seq ?_
     refine V_block ?_
     obtain ⟨vn18, hvn18, h⟩ := of_sI h
     refine V_reg (mb 38 224) [] (s1 := ⟨bt 5 (I y2.1 :: I vn18 :: I k5 :: bt 30 []), []⟩) ?_ ?_
     ·refine L0 rfl rfl (E_move (I vn4) rfl (by kernel_rfl)) ?_
      refine L0 rfl rfl (Y0_add64 (a := vn4) (b := 1) rfl (by kernel_rfl) (by kernel_rfl)) ?_
      refine L0 rfl rfl (E_assign (I (w64 (vn4 + 1))) rfl (by kernel_rfl)) ?_
      refine XL_nil ?_
      subst hvn18
      kernel_rfl
     show V _ _ _ _
     obtain ⟨k19, hk19, h⟩ := of_sI h
     refine V_reg (mb 38 224) [] (s1 := ⟨bt 5 (I y2.1 :: I vn18 :: I k19 :: bt 30 []), []⟩) ?_ ?_
     ·refine L0 rfl rfl (E_move (I k5) rfl (by kernel_rfl)) ?_
      refine L0 rfl rfl (Y0_add64 (a := k5) (b := 1) rfl (by kernel_rfl) (by kernel_rfl)) ?_
      refine L0 rfl rfl (E_assign (I (w64 (k5 + 1))) rfl (by kernel_rfl)) ?_
      refine XL_nil ?_
      subst hk19
      kernel_rfl
     exact ⟨n, Nat.lt_succ_self n, _, _,  by rfl, h⟩
    ·have h := of_false h hc17
     refine V_exit ?_
     obtain rfl := some_inj h
     show St.keep _ _ _ = _
     rfl
  show V _ _ _ _
  refine V_sreg (mb 38 12) [] (s1 := ⟨.bot :: .bot :: I y2.1 :: I o7 :: bt 34 [], []⟩) ?_ ?_
  ·refine L0 rfl rfl (E_move (I y2.1) rfl (by kernel_rfl)) ?_
   refine L0 rfl rfl (E_move (I o7) rfl (by kernel_rfl)) ?_
   refine L0 rfl rfl (E_assign (I y2.1) rfl (by kernel_rfl)) ?_
   refine L0 rfl rfl (E_assign (I o7) rfl (by kernel_rfl)) ?_
   refine XL_nil ?_
   kernel_rfl
  refine V_ret ?_
  obtain rfl := some_inj h
  show Post _ _ _ _ _
  exact ⟨.inr rfl, rfl, rfl, rfl⟩
theorem cf_laws_numberOf : ∀ args w, (callFunc 18 args).run Try.prog w = .ok (.enter 18 args) w := run_callFunc Try.func18 (by kernel_rfl) (by kernel_rfl)
set_option maxRecDepth 100000 in
set_option maxHeartbeats 400000 in
theorem s_laws_numberOf {b1 : List Int} {r : Int} (h : r_laws_numberOf b1 = some r) : CallS Try.prog 18 [.c (.sl (b1.map c5))] (I r) [] := by
  refine CallS_of_text (rs := [.t 2]) (vs := [.tmp 2]) Try.func18 rfl rfl (.cons rfl FitsL.nil) (by decide) 20 rfl ?_
  unfold r_laws_numberOf at h
  show V _ _ ⟨.c (.sl (b1.map c5)) :: bt 19 [], []⟩ _
  refine V_sreg (mb 20 1) [] (s1 := ⟨.c (.sl (b1.map c5)) :: bt 19 [], []⟩) ?_ ?_
  ·refine L0 rfl rfl (E_assign (I 0) rfl (by kernel_rfl)) ?_
   refine XL_nil ?_
   kernel_rfl
  refine V_sreg (mb 20 9) [] (s1 := ⟨.c (.sl (b1.map c5)) :: .bot :: .bot :: I 0 :: bt 16 [], []⟩) ?_ ?_
  ·refine L0 rfl rfl (E_assign (I 0) rfl (by kernel_rfl)) ?_
   refine XL_nil ?_
   kernel_rfl
  refine V_seq ?_
  refine V_sreg (mb 20 456) [] (s1 := ⟨bt 3 (I 0 :: .bot :: .bot :: .c (.sl (b1.map c5)) :: I ((b1.length : Int)) :: I 0 :: bt 11 []), []⟩) ?_ ?_
  ·refine L0 rfl rfl (E_move (.c (.sl (b1.map c5))) rfl (by kernel_rfl)) ?_
   refine L0 rfl rfl (Y0_lenM (c := c5) (xs := b1) Try.underlying22 rfl (by kernel_rfl)) ?_
   refine L0 rfl rfl (E_move (I 0) rfl (by kernel_rfl)) ?_
   refine XL_nil ?_
   kernel_rfl
  obtain ⟨o5, hLo5, h⟩ := of_bind h
  refine V_toK (mb 20 8) [] (s1 := ⟨bt 3 (I o5 :: bt 16 []), []⟩) ?_ ?_
  ·clear h
   refine V_block (V_loop (fun n s => ∃ (vn2 : Int) (t3 : Int), s.keep (mb 20 456) [] = (⟨bt 3 (I vn2 :: .bot :: .bot :: .c (.sl (b1.map c5)) :: I ((b1.length : Int)) :: I t3 :: bt 11 []), []⟩ : St) ∧ r_laws_numberOf_L4 b1 n vn2 t3 = some o5) FU ⟨_, _,  by rfl, hLo5⟩ ?_)
   clear hLo5
   rintro n s ⟨vn2, t3, hs, h⟩
   refine V_keep _ _ hs ?_
   clear hs
   cases n with
   | zero => cases h
   | succ n =>
    rw [r_laws_numberOf_L4] at h
    refine V_sreg (mb 20 968) [] (s1 := ⟨bt 3 (I vn2 :: .bot :: .bot :: .c (.sl (b1.map c5)) :: I ((b1.length : Int)) :: I t3 :: Bo (ltI t3 ((b1.length : Int))) :: bt 10 []), []⟩) ?_ ?_
    ·refine L0 rfl rfl (Y0_ltw (k := .i64) (a := t3) (b := (b1.length : Int)) rfl (by kernel_rfl) (by kernel_rfl)) ?_
     refine XL_nil ?_
     kernel_rfl
    refine V_seq ?_
    refine V_cond rfl (fun hc6 => ?_) (fun hc6 => ?_)
    ·have h := of_true h hc6
     refine V_skip ?_
     show V _ _ _ _
     refine V_seq ?_
     refine V_block ?_
     obtain ⟨e7, he7, h⟩ := of_bind h
     refine V_sreg (mb 20 488) [] (s1 := ⟨bt 3 (I vn2 :: .bot :: .c (.v (.int .u8 e7)) :: .c (.sl (b1.map c5)) :: I ((b1.length : Int)) :: I t3 :: bt 11 []), []⟩) ?_ ?_
     ·refine L0 rfl rfl (Y0_idxM (c := c5) (xs := b1) (v := e7) (n := t3) Try.underlying22 sz5 rfl (by kernel_rfl) (by kernel_rfl) he7) ?_
      refine L0 rfl rfl (Y0_load1 (c := .v (.int .u8 e7)) (cs := []) sc5 rfl (by kernel_rfl)) ?_
      refine L0 rfl rfl (E_assign (.c (.v (.int .u8 e7))) rfl (by kernel_rfl)) ?_
      refine XL_nil ?_
      kernel_rfl
     obtain ⟨vn8, hvn8, h⟩ := of_sI h
     refine V_reg (mb 20 456) [] (s1 := ⟨bt 3 (I vn8 :: .bot :: .bot :: .c (.sl (b1.map c5)) :: I ((b1.length : Int)) :: I t3 :: bt 11 []), []⟩) ?_ ?_
     ·refine L0 rfl rfl (E_move (I vn2) rfl (by kernel_rfl)) ?_
      refine L0 rfl rfl (Y0_mul64 (a := 31) (b := vn2) rfl (by kernel_rfl) (by kernel_rfl)) ?_
      refine L0 rfl rfl (E_move (.c (.v (.int .u8 e7))) rfl (by kernel_rfl)) ?_
      refine L0 rfl rfl (Y0_conv (k2 := .u8) (a := e7) Try.underlying5 Try.underlying3 rfl (by kernel_rfl)) ?_
      refine L0 rfl rfl (Y0_add64 (a := w64 (31 * vn2)) (b := IntKind.i64.wrap e7) rfl (by kernel_rfl) (by kernel_rfl)) ?_
      refine L0 rfl rfl (Y0_rem (k := .i64) (a := w64 ((w64 (31 * vn2)) + (IntKind.i64.wrap e7))) (b := 1000003) rfl (by kernel_rfl) (by kernel_rfl) (by decide)) ?_
      refine L0 rfl rfl (E_assign (I (Int.tmod (w64 ((w64 (31 * vn2)) + (IntKind.i64.wrap e7))) 1000003)) rfl (by kernel_rfl)) ?_
      refine XL_nil ?_
      subst hvn8
      kernel_rfl
     show V _ _ _ _
     obtain ⟨t9, ht9, h⟩ := of_sI h
     refine V_reg (mb 20 456) [] (s1 := ⟨bt 3 (I vn8 :: .bot :: .bot :: .c (.sl (b1.map c5)) :: I ((b1.length : Int)) :: I t9 :: bt 11 []), []⟩) ?_ ?_
     ·refine L0 rfl rfl (Y0_add64 (a := t3) (b := 1) rfl (by kernel_rfl) (by kernel_rfl)) ?_
      refine L0 rfl rfl (E_move (I (w64 (t3 + 1))) rfl (by kernel_rfl)) ?_
      refine XL_nil ?_
      subst ht9
      kernel_rfl
     exact ⟨n, Nat.lt_succ_self n, _, _,  by rfl, h⟩
    ·have h := of_false h hc6
     refine V_exit ?_
     obtain rfl := some_inj h
     show St.keep _ _ _ = _
     rfl
  show V _ _ _ _
  refine V_sreg (mb 20 4) [] (s1 := ⟨.bot :: .bot :: I o5 :: bt 17 [], []⟩) ?_ ?_
  ·refine L0 rfl rfl (E_move (I o5) rfl (by kernel_rfl)) ?_
   refine L0 rfl rfl (E_assign (I o5) rfl (by kernel_rfl)) ?_
   refine XL_nil ?_
   kernel_rfl
  refine V_ret ?_
  obtain rfl := some_inj h
  show Post _ _ _ _ _
  exact ⟨.inr rfl, rfl, rfl, rfl⟩
theorem cf_impl_mod : ∀ args w, (callFunc 85 args).run Try.prog w = .ok (.enter 85 args) w := run_callFunc Try.func85 (by kernel_rfl) (by kernel_rfl)
set_option maxRecDepth 100000 in
set_option maxHeartbeats 400000 in
theorem s_impl_mod {a1 : Int} {vm2 : Int} {r : Int} (h : r_impl_mod a1 vm2 = some r) : CallS Try.prog 85 [I a1, I vm2] (I r) [] := by
  refine CallS_of_text (rs := [.t 4]) (vs := [.tmp 4]) Try.func85 rfl rfl (.cons rfl FitsL.nil) (by decide) 15 rfl ?_
  unfold r_impl_mod at h
  show V _ _ ⟨I a1 :: I vm2 :: bt 13 [], []⟩ _
  refine V_sreg (mb 15 3) [] (s1 := ⟨I a1 :: I vm2 :: bt 13 [], []⟩) ?_ ?_
  ·refine L0 rfl rfl (E_assign (I 0) rfl (by kernel_rfl)) ?_
   refine XL_nil ?_
   kernel_rfl
  obtain ⟨z3, hz3, h⟩ := of_bind h
  obtain ⟨vr4, hvr4, h⟩ := of_sI h
  refine V_sreg (mb 15 34) [] (s1 := ⟨.bot :: I vm2 :: bt 3 (I vr4 :: bt 9 []), []⟩) ?_ ?_
  ·refine L0 rfl rfl (E_move (I a1) rfl (by kernel_rfl)) ?_
   refine L0 rfl rfl (E_move (I vm2) rfl (by kernel_rfl)) ?_
   refine L0 rfl rfl (Y0_rem (k := .i64) (a := a1) (b := vm2) rfl (by kernel_rfl) (by kernel_rfl) (nz_some hz3)) ?_
   refine L0 rfl rfl (E_assign (I (Int.tmod a1 vm2)) rfl (by kernel_rfl)) ?_
   refine XL_nil ?_
   subst hvr4
   kernel_rfl
  refine V_seq ?_
  refine V_sreg (mb 15 1058) [] (s1 := ⟨.bot :: I vm2 :: bt 3 (I vr4 :: bt 4 (Bo (ltI vr4 0) :: bt 4 [])), []⟩) ?_ ?_
  ·refine L0 rfl rfl (E_move (I vr4) rfl (by kernel_rfl)) ?_
   refine L0 rfl rfl (Y0_ltw (k := .i64) (a := vr4) (b := 0) rfl (by kernel_rfl) (by kernel_rfl)) ?_
   refine XL_nil ?_
   kernel_rfl
  refine V_cond rfl (fun hc5 => ?_) (fun hc5 => ?_)
  ·have h := of_true h hc5
   obtain ⟨vr6, hvr6, h⟩ := of_sI h
   refine V_reg (mb 15 32) [] (s1 := ⟨bt 5 (I vr6 :: bt 9 []), []⟩) ?_ ?_
   ·refine L0 rfl rfl (E_move (I vr4) rfl (by kernel_rfl)) ?_
    refine L0 rfl rfl (E_move (I vm2) rfl (by kernel_rfl)) ?_
    refine L0 rfl rfl (Y0_add64 (a := vr4) (b := vm2) rfl (by kernel_rfl) (by kernel_rfl)) ?_
    refine L0 rfl rfl (E_assign (I (w64 (vr4 + vm2))) rfl (by kernel_rfl)) ?_
    refine XL_nil ?_
    subst hvr6
    kernel_rfl
   show V _ _ _ _
   refine V_sreg (mb 15 16) [] (s1 := ⟨bt 4 (I vr6 :: bt 10 []), []⟩) ?_ ?_
   ·refine L0 rfl rfl (E_move (I vr6) rfl (by kernel_rfl)) ?_
    refine L0 rfl rfl (E_assign (I vr6) rfl (by kernel_rfl)) ?_
    refine XL_nil ?_
    kernel_rfl
   refine V_ret ?_
   obtain rfl := some_inj h
   show Post _ _ _ _ _
   exact ⟨.inr rfl, rfl, rfl, rfl⟩
  ·have h := of_false h hc5
   refine V_skip ?_
   show V _ _ _ _
   refine V_sreg (mb 15 16) [] (s1 := ⟨bt 4 (I vr4 :: bt 10 []), []⟩) ?_ ?_
   ·refine L0 rfl rfl (E_move (I vr4) rfl (by kernel_rfl)) ?_
    refine L0 rfl rfl (E_assign (I vr4) rfl (by kernel_rfl)) ?_
    refine XL_nil ?_
    kernel_rfl
   refine V_ret ?_
   obtain rfl := some_inj h
   show Post _ _ _ _ _
   exact ⟨.inr rfl, rfl, rfl, rfl⟩
theorem cf_impl_isNegativeDisc : ∀ args w, (callFunc 55 args).run Try.prog w = .ok (.enter 55 args) w := run_callFunc Try.func55 (by kernel_rfl) (by kernel_rfl)
set_option maxRecDepth 100000 in
set_option maxHeartbeats 400000 in
theorem s_impl_isNegativeDisc {d1 : Int} {r : Bool} (h : r_impl_isNegativeDisc d1 = some r) : CallS Try.prog 55 [I d1] (Bo r) [] := by
  refine CallS_of_text (rs := [.t 2]) (vs := [.tmp 2]) Try.func55 rfl rfl (.cons rfl FitsL.nil) (by decide) 14 rfl ?_
  unfold r_impl_isNegativeDisc at h
  show V _ _ ⟨I d1 :: bt 13 [], []⟩ _
  refine V_sreg (mb 14 1) [] (s1 := ⟨I d1 :: bt 13 [], []⟩) ?_ ?_
  ·refine L0 rfl rfl (E_assign (Bo false) rfl (by kernel_rfl)) ?_
   refine XL_nil ?_
   kernel_rfl
  obtain ⟨b5, hb5, h⟩ := of_bind h
  refine V_sreg (mb 14 4) [] (s1 := ⟨.bot :: .bot :: Bo b5 :: bt 11 [], []⟩) ?_ ?_
  ·refine L0 rfl rfl (E_move (I d1) rfl (by kernel_rfl)) ?_
   refine L0 rfl rfl (Y0_gew (k := .i64) (a := d1) (b := -2000) rfl (by kernel_rfl) (by kernel_rfl)) ?_
   refine L0 rfl rfl (E_move (Bo (leI (-2000) d1)) rfl (by kernel_rfl)) ?_
   refine XL_split (leI (-2000) d1) (fun hc2 => ?_) (fun hc2 => ?_)
   ·refine XL_takeC _ rfl rfl (by kernel_rfl) hc2 (X_of_Y0 rfl (E_move (I d1) rfl (by kernel_rfl))) ?_
    refine XL_takeC _ rfl rfl (by kernel_rfl) hc2 (X_of_Y0 rfl (Y0_lew (k := .i64) (a := d1) (b := -3) rfl (by kernel_rfl) (by kernel_rfl))) ?_
    refine XL_cons rfl (X_of_Y0 rfl (Y0_pick1 (b := leI (-2000) d1) (p := leI d1 (-3)) (q := false) rfl (by kernel_rfl) hc2 (by kernel_rfl))) ?_
    refine L0 rfl rfl (E_move (Bo (bif (leI (-2000) d1) then (leI d1 (-3)) else false)) rfl (by kernel_rfl)) ?_
    refine XL_split (bif (leI (-2000) d1) then (leI d1 (-3)) else false) (fun hc3 => ?_) (fun hc3 => ?_)
    ·have hb5 := of_true hb5 hc3
     obtain ⟨y4, hy4, hb5⟩ := of_bind hb5
     have hb5 := some_inj hb5
     refine XL_takeC _ rfl rfl (by kernel_rfl) hc3 (X_of_Y0 rfl (E_move (I d1) rfl (by kernel_rfl))) ?_
     refine XL_takeC _ rfl rfl (by kernel_rfl) hc3 (X_of_Y1 rfl (Y1_call (s_impl_mod hy4) cf_impl_mod rfl (by kernel_rfl))) ?_
     refine XL_takeC _ rfl rfl (by kernel_rfl) hc3 (X_of_Y0 rfl (Y0_lew (k := .i64) (a := y4) (b := 1) rfl (by kernel_rfl) (by kernel_rfl))) ?_
     refine XL_cons rfl (X_of_Y0 rfl (Y0_pickTe (b := bif (leI (-2000) d1) then (leI d1 (-3)) else false) (p := leI y4 1) rfl (by kernel_rfl) hc3 (by kernel_rfl) hb5)) ?_
     refine L0 rfl rfl (E_assign (Bo b5) rfl (by kernel_rfl)) ?_
     refine XL_nil ?_
     kernel_rfl
    ·have hb5 := some_inj (of_false hb5 hc3)
     refine XL_skipT _ rfl rfl (by kernel_rfl) hc3 rfl ?_
     refine XL_skipT _ rfl rfl (by kernel_rfl) hc3 rfl ?_
     refine XL_skipT _ rfl rfl (by kernel_rfl) hc3 rfl ?_
     refine XL_cons rfl (X_of_Y0 rfl (Y0_pickFe (b := bif (leI (-2000) d1) then (leI d1 (-3)) else false) (p := false) rfl (by kernel_rfl) hc3 (by kernel_rfl) hb5)) ?_
     refine L0 rfl rfl (E_assign (Bo b5) rfl (by kernel_rfl)) ?_
     refine XL_nil ?_
     kernel_rfl
   ·refine XL_skipT _ rfl rfl (by kernel_rfl) hc2 rfl ?_
    refine XL_skipT _ rfl rfl (by kernel_rfl) hc2 rfl ?_
    refine XL_cons rfl (X_of_Y0 rfl (Y0_pick0 (b := leI (-2000) d1) (p := leI d1 (-3)) (q := false) rfl (by kernel_rfl) hc2 (by kernel_rfl))) ?_
    refine L0 rfl rfl (E_move (Bo (bif (leI (-2000) d1) then (leI d1 (-3)) else false)) rfl (by kernel_rfl)) ?_
    refine XL_split (bif (leI (-2000) d1) then (leI d1 (-3)) else false) (fun hc3 => ?_) (fun hc3 => ?_)
    ·have hb5 := of_true hb5 hc3
     obtain ⟨y4, hy4, hb5⟩ := of_bind hb5
     have hb5 := some_inj hb5
     refine XL_takeC _ rfl rfl (by kernel_rfl) hc3 (X_of_Y0 rfl (E_move (I d1) rfl (by kernel_rfl))) ?_
     refine XL_takeC _ rfl rfl (by kernel_rfl) hc3 (X_of_Y1 rfl (Y1_call (s_impl_mod hy4) cf_impl_mod rfl (by kernel_rfl))) ?_
     refine XL_takeC _ rfl rfl (by kernel_rfl) hc3 (X_of_Y0 rfl (Y0_lew (k := .i64) (a := y4) (b := 1) rfl (by kernel_rfl) (by kernel_rfl))) ?_
     refine XL_cons rfl (X_of_Y0 rfl (Y0_pickTe (b := bif (leI (-2000) d1) then (leI d1 (-3)) else false) (p := leI y4 1) rfl (by kernel_rfl) hc3 (by kernel_rfl) hb5)) ?_
     refine L0 rfl rfl (E_assign (Bo b5) rfl (by kernel_rfl)) ?_
     refine XL_nil ?_
     kernel_rfl
    ·have hb5 := some_inj (of_false hb5 hc3)
     refine XL_skipT _ rfl rfl (by kernel_rfl) hc3 rfl ?_
     refine XL_skipT _ rfl rfl (by kernel_rfl) hc3 rfl ?_
     refine XL_skipT _ rfl rfl (by kernel_rfl) hc3 rfl ?_
     refine XL_cons rfl (X_of_Y0 rfl (Y0_pickFe (b := bif (leI (-2000) d1) then (leI d1 (-3)) else false) (p := false) rfl (by kernel_rfl) hc3 (by kernel_rfl) hb5)) ?_
     refine L0 rfl rfl (E_assign (Bo b5) rfl (by kernel_rfl)) ?_
     refine XL_nil ?_
     kernel_rfl
  refine V_ret ?_
  obtain rfl := some_inj h
  show Post _ _ _ _ _
  exact ⟨.inr rfl, rfl, rfl, rfl⟩
theorem cf_impl_areNumbers : ∀ args w, (callFunc 45 args).run Try.prog w = .ok (.enter 45 args) w := run_callFunc Try.func45 (by kernel_rfl) (by kernel_rfl)
set_option maxRecDepth 100000 in
set_option maxHeartbeats 400000 in
theorem s_impl_areNumbers {list1 : List Int} {r : Bool} (h : r_impl_areNumbers list1 = some r) : CallS Try.prog 45 [.c (.sl (list1.map c3))] (Bo r) [] := by
  refine CallS_of_text (rs := [.t 2]) (vs := [.tmp 2]) Try.func45 rfl rfl (.cons rfl FitsL.nil) (by decide) 18 rfl ?_
  unfold r_impl_areNumbers at h
  show V _ _ ⟨.c (.sl (list1.map c3)) :: bt 17 [], []⟩ _
  refine V_sreg (mb 18 1) [] (s1 := ⟨.c (.sl (list1.map c3)) :: bt 17 [], []⟩) ?_ ?_
  ·refine L0 rfl rfl (E_assign (Bo false) rfl (by kernel_rfl)) ?_
   refine XL_nil ?_
   kernel_rfl
  refine V_seq ?_
  refine V_sreg (mb 18 224) [] (s1 := ⟨bt 5 (.c (.sl (list1.map c3)) :: I ((list1.length : Int)) :: I 0 :: bt 10 []), []⟩) ?_ ?_
  ·refine L0 rfl rfl (E_move (.c (.sl (list1.map c3))) rfl (by kernel_rfl)) ?_
   refine L0 rfl rfl (Y0_lenM (c := c3) (xs := list1) Try.underlying28 rfl (by kernel_rfl)) ?_
   refine L0 rfl rfl (E_move (I 0) rfl (by kernel_rfl)) ?_
   refine XL_nil ?_
   kernel_rfl
  obtain ⟨qo4, hLo4, hko4⟩ := of_bind h
  refine V_toS (q := qo4) (S := fun o4 => ⟨bt 18 [], []⟩) (mb 18 0) [] ?_ ?_
  ·refine V_block (V_loop (fun n s => ∃ (t2 : Int), s.keep (mb 18 224) [] = (⟨bt 5 (.c (.sl (list1.map c3)) :: I ((list1.length : Int)) :: I t2 :: bt 10 []), []⟩ : St) ∧ r_impl_areNumbers_L3 list1 n t2 = some qo4) FU ⟨_,  by rfl, hLo4⟩ ?_)
   clear hLo4
   rintro n s ⟨t2, hs, h⟩
   refine V_keep _ _ hs ?_
   clear hs
   cases n with
   | zero => cases h
   | succ n =>
    rw [r_impl_areNumbers_L3] at h
    refine V_sreg (mb 18 480) [] (s1 := ⟨bt 5 (.c (.sl (list1.map c3)) :: I ((list1.length : Int)) :: I t2 :: Bo (ltI t2 ((list1.length : Int))) :: bt 9 []), []⟩) ?_ ?_
    ·refine L0 rfl rfl (Y0_ltw (k := .i64) (a := t2) (b := (list1.length : Int)) rfl (by kernel_rfl) (by kernel_rfl)) ?_
     refine XL_nil ?_
     kernel_rfl
    refine V_seq ?_
    refine V_cond rfl (fun hc5 => ?_) (fun hc5 => ?_)
    ·have h := of_true h hc5
     refine V_skip ?_
     show V _ _ _ _
     refine V_seq ?_
     refine V_block ?_
     obtain ⟨e6, he6, h⟩ := of_bind h
     refine V_sreg (mb 18 240) [] (s1 := ⟨bt 4 (I e6 :: .c (.sl (list1.map c3)) :: I ((list1.length : Int)) :: I t2 :: bt 10 []), []⟩) ?_ ?_
     ·refine L0 rfl rfl (Y0_idxM (c := c3) (xs := list1) (v := e6) (n := t2) Try.underlying28 sz3 rfl (by kernel_rfl) (by kernel_rfl) he6) ?_
      refine L0 rfl rfl (Y0_load1 (c := Ti e6) (cs := []) sc3 rfl (by kernel_rfl)) ?_
      refine L0 rfl rfl (E_assign (I e6) rfl (by kernel_rfl)) ?_
      refine XL_nil ?_
      kernel_rfl
     refine V_sreg (mb 18 65760) [] (s1 := ⟨bt 5 (.c (.sl (list1.map c3)) :: I ((list1.length : Int)) :: I t2 :: bt 8 (Bo (bif (ltI e6 (-1000000)) then true else (ltI 1000000 e6)) :: .bot :: [])), []⟩) ?_ ?_
     ·refine L0 rfl rfl (E_move (I e6) rfl (by kernel_rfl)) ?_
      refine L0 rfl rfl (Y0_ltw (k := .i64) (a := e6) (b := -1000000) rfl (by kernel_rfl) (by kernel_rfl)) ?_
      refine L0 rfl rfl (E_move (Bo (ltI e6 (-1000000))) rfl (by kernel_rfl)) ?_
      refine XL_split (ltI e6 (-1000000)) (fun hc7 => ?_) (fun hc7 => ?_)
      ·refine XL_skipF _ rfl rfl (by kernel_rfl) hc7 rfl ?_
       refine XL_skipF _ rfl rfl (by kernel_rfl) hc7 rfl ?_
       refine XL_cons rfl (X_of_Y0 rfl (Y0_pick1 (b := ltI e6 (-1000000)) (p := true) (q := ltI 1000000 e6) rfl (by kernel_rfl) hc7 (by kernel_rfl))) ?_
       refine XL_nil ?_
       kernel_rfl
      ·refine XL_takeC _ rfl rfl (by kernel_rfl) hc7 (X_of_Y0 rfl (E_move (I e6) rfl (by kernel_rfl))) ?_
       refine XL_takeC _ rfl rfl (by kernel_rfl) hc7 (X_of_Y0 rfl (Y0_gtw (k := .i64) (a := e6) (b := 1000000) rfl (by kernel_rfl) (by kernel_rfl))) ?_
       refine XL_cons rfl (X_of_Y0 rfl (Y0_pick0 (b := ltI e6 (-1000000)) (p := true) (q := ltI 1000000 e6) rfl (by kernel_rfl) hc7 (by kernel_rfl))) ?_
       refine XL_nil ?_
       kernel_rfl
     refine V_cond rfl (fun hc8 => ?_) (fun hc8 => ?_)
     ·have h := of_true h hc8
      refine V_sreg (mb 18 4) [] (s1 := ⟨.bot :: .bot :: Bo false :: bt 15 [], []⟩) ?_ ?_
      ·refine L0 rfl rfl (E_assign (Bo false) rfl (by kernel_rfl)) ?_
       refine XL_nil ?_
       kernel_rfl
      refine V_ret ?_
      obtain rfl := some_inj h
      have h := hko4
      obtain rfl := some_inj h
      show Post _ _ _ _ _
      exact ⟨.inr rfl, rfl, rfl, rfl⟩
     ·have h := of_false h hc8
      refine V_skip ?_
      show V _ _ _ _
      obtain ⟨t9, ht9, h⟩ := of_sI h
      refine V_reg (mb 18 224) [] (s1 := ⟨bt 5 (.c (.sl (list1.map c3)) :: I ((list1.length : Int)) :: I t9 :: bt 10 []), []⟩) ?_ ?_
      ·refine L0 rfl rfl (Y0_add64 (a := t2) (b := 1) rfl (by kernel_rfl) (by kernel_rfl)) ?_
       refine L0 rfl rfl (E_move (I (w64 (t2 + 1))) rfl (by kernel_rfl)) ?_
       refine XL_nil ?_
       subst ht9
       kernel_rfl
      exact ⟨n, Nat.lt_succ_self n, _,  by rfl, h⟩
    ·have h := of_false h hc5
     refine V_exit ?_
     obtain rfl := some_inj h
     exact ⟨_, rfl, by rfl⟩
  rintro o4 rfl
  have h := hko4
  clear hko4
  show V _ _ _ _
  refine V_sreg (mb 18 4) [] (s1 := ⟨.bot :: .bot :: Bo true :: bt 15 [], []⟩) ?_ ?_
  ·refine L0 rfl rfl (E_assign (Bo true) rfl (by kernel_rfl)) ?_
   refine XL_nil ?_
   kernel_rfl
  refine V_ret ?_
  obtain rfl := some_inj h
  show Post _ _ _ _ _
  exact ⟨.inr rfl, rfl, rfl, rfl⟩
theorem cf_impl_abs : ∀ args w, (callFunc 48 args).run Try.prog w = .ok (.enter 48 args) w := run_callFunc Try.func48 (by kernel_rfl) (by kernel_rfl)
set_option maxRecDepth 100000 in
set_option maxHeartbeats 400000 in
theorem s_impl_abs {vn1 : Int} {r : Int} (h : r_impl_abs vn1 = some r) : CallS Try.prog 48 [I vn1] (I r) [] := by
  refine CallS_of_text (rs := [.t 2]) (vs := [.tmp 2]) Try.func48 rfl rfl (.cons rfl FitsL.nil) (by decide) 8 rfl ?_
  unfold r_impl_abs at h
  show V _ _ ⟨I vn1 :: bt 7 [], []⟩ _
  refine V_sreg (mb 8 1) [] (s1 := ⟨I vn1 :: bt 7 [], []⟩) ?_ ?_
  ·refine L0 rfl rfl (E_assign (I 0) rfl (by kernel_rfl)) ?_
   refine XL_nil ?_
   kernel_rfl
  obtain ⟨t2, ht2, h⟩ := of_sI h
  refine V_sreg (mb 8 4) [] (s1 := ⟨.bot :: .bot :: I t2 :: bt 5 [], []⟩) ?_ ?_
  ·refine L0 rfl rfl (E_move (I vn1) rfl (by kernel_rfl)) ?_
   refine L0 rfl rfl (E_move (I vn1) rfl (by kernel_rfl)) ?_
   refine L0 rfl rfl (Y0_max (a := vn1) (b := -9223372036854775807) rfl (by kernel_rfl) (by kernel_rfl)) ?_
   refine L0 rfl rfl (Y0_neg64 (a := mxI vn1 (-9223372036854775807)) rfl (by kernel_rfl)) ?_
   refine L0 rfl rfl (Y0_max (a := vn1) (b := w64 (0 - (mxI vn1 (-9223372036854775807)))) rfl (by kernel_rfl) (by kernel_rfl)) ?_
   refine L0 rfl rfl (E_assign (I (mxI vn1 (w64 (0 - (mxI vn1 (-9223372036854775807)))))) rfl (by kernel_rfl)) ?_
   refine XL_nil ?_
   subst ht2
   kernel_rfl
  refine V_ret ?_
  obtain rfl := some_inj h
  show Post _ _ _ _ _
  exact ⟨.inr rfl, rfl, rfl, rfl⟩
theorem cf_impl_gcd : ∀ args w, (callFunc 72 args).run Try.prog w = .ok (.enter 72 args) w := run_callFunc Try.func72 (by kernel_rfl) (by kernel_rfl)
set_option maxRecDepth 100000 in
set_option maxHeartbeats 400000 in
theorem s_impl_gcd {a1 : Int} {b2 : Int} {r : Int} (h : r_impl_gcd a1 b2 = some r) : CallS Try.prog 72 [I a1, I b2] (I r) [] := by
  refine CallS_of_text (rs := [.t 4]) (vs := [.tmp 4]) Try.func72 rfl rfl (.cons rfl FitsL.nil) (by decide) 13 rfl ?_
  unfold r_impl_gcd at h
  show V _ _ ⟨I a1 :: I b2 :: bt 11 [], []⟩ _
  refine V_sreg (mb 13 3) [] (s1 := ⟨I a1 :: I b2 :: bt 11 [], []⟩) ?_ ?_
  ·refine L0 rfl rfl (E_assign (I 0) rfl (by kernel_rfl)) ?_
   refine XL_nil ?_
   kernel_rfl
  refine V_seq ?_
  obtain ⟨o6, hLo6, h⟩ := of_bind h
  refine V_toK (mb 13 1) [] (s1 := ⟨I o6 :: bt 12 [], []⟩) ?_ ?_
  ·clear h
   refine V_block (V_loop (fun n s => ∃ (a3 : Int) (b4 : Int), s.keep (mb 13 3) [] = (⟨I a3 :: I b4 :: bt 11 [], []⟩ : St) ∧ r_impl_gcd_L5 n a3 b4 = some o6) FU ⟨_, _,  by rfl, hLo6⟩ ?_)
   clear hLo6
   rintro n s ⟨a3, b4, hs, h⟩
   refine V_keep _ _ hs ?_
   clear hs
   cases n with
   | zero => cases h
   | succ n =>
    rw [r_impl_gcd_L5] at h
    refine V_seq ?_
    refine V_sreg (mb 13 67) [] (s1 := ⟨I a3 :: I b4 :: bt 4 (Bo (!eqI b4 0) :: bt 6 []), []⟩) ?_ ?_
    ·refine L0 rfl rfl (E_move (I b4) rfl (by kernel_rfl)) ?_
     refine L0 rfl rfl (Y0_new (k := .i64) (a := b4) (b := 0) rfl (by kernel_rfl) (by kernel_rfl)) ?_
     refine XL_nil ?_
     kernel_rfl
    refine V_cond rfl (fun hc7 => ?_) (fun hc7 => ?_)
    ·have h := of_true h hc7
     refine V_skip ?_
     show V _ _ _ _
     refine V_block ?_
     obtain ⟨z8, hz8, h⟩ := of_bind h
     obtain ⟨b9, hb9, h⟩ := of_sI h
     refine V_dreg [0, 0, 0, 6, 3, 31] 6 [[.z, .b, .b, .b, .z, .z], [.b, .z, .b, .z, .z, .z], [.b, .b, .z, .z, .b, .z], [.b, .a, .a, .z, .b, .z], [.a, .a, .b, .b, .z, .z], [.a, .a, .a, .a, .a, .z]] (mb 13 3) [] (s1 := ⟨I b4 :: I b9 :: bt 11 [], []⟩) (by kernel_rfl) (by kernel_rfl) ?_ ?_
     ·refine DE_0 0 (I b4) (by kernel_rfl) rfl rfl rfl (gsat_none rfl) (by kernel_rfl) (E_move (I b4) rfl (by kernel_rfl)) 7 rfl ?_
      refine DE_0 1 (I a3) (by kernel_rfl) rfl rfl rfl (gsat_none rfl) (by kernel_rfl) (E_move (I a3) rfl (by kernel_rfl)) 8 rfl ?_
      refine DE_0 2 (I b4) (by kernel_rfl) rfl rfl rfl (gsat_none rfl) (by kernel_rfl) (E_move (I b4) rfl (by kernel_rfl)) 9 rfl ?_
      refine DE_0 3 (I (Int.tmod a3 b4)) (by kernel_rfl) rfl rfl rfl (gsat_none rfl) (by kernel_rfl) (Y0_rem (k := .i64) (a := a3) (b := b4) rfl (by kernel_rfl) (by kernel_rfl) (nz_some hz8)) 10 rfl ?_
      refine DE_0 4 (I b4) (by kernel_rfl) rfl rfl rfl (gsat_none rfl) (by kernel_rfl) (E_assign (I b4) rfl (by kernel_rfl)) 0 rfl ?_
      refine DE_0 5 (I (Int.tmod a3 b4)) (by kernel_rfl) rfl rfl rfl (gsat_none rfl) (by kernel_rfl) (E_assign (I (Int.tmod a3 b4)) rfl (by kernel_rfl)) 1 rfl ?_
      refine DL_nil (by kernel_rfl) ?_
      refine XL_nil ?_
      subst hb9
      kernel_rfl
     exact ⟨n, Nat.lt_succ_self n, _, _,  by rfl, h⟩
    ·have h := of_false h hc7
     refine V_exit ?_
     obtain rfl := some_inj h
     show St.keep _ _ _ = _
     rfl
  show V _ _ _ _
  obtain ⟨y10, hy10, h⟩ := of_bind h
  refine V_sreg (mb 13 16) [] (s1 := ⟨bt 4 (I y10 :: bt 8 []), []⟩) ?_ ?_
  ·refine L0 rfl rfl (E_move (I o6) rfl (by kernel_rfl)) ?_
   refine L1 rfl rfl (Y1_call (s_impl_abs hy10) cf_impl_abs rfl (by kernel_rfl)) ?_
   refine L0 rfl rfl (E_assign (I y10) rfl (by kernel_rfl)) ?_
   refine XL_nil ?_
   kernel_rfl
  refine V_ret ?_
  obtain rfl := some_inj h
  show Post _ _ _ _ _
  exact ⟨.inr rfl, rfl, rfl, rfl⟩
theorem cf_impl_factors : ∀ args w, (callFunc 139 args).run Try.prog w = .ok (.enter 139 args) w := run_callFunc Try.func139 (by kernel_rfl) (by kernel_rfl)
set_option maxRecDepth 100000 in
set_option maxHeartbeats 400000 in
theorem s_impl_factors {vn1 : Int} {r : List Int} (h : r_impl_factors vn1 = some r) : CallS Try.prog 139 [I vn1] (.ow 0) [(0, .arr 3 1 (r.map c3))] := by
  refine CallS_of_text (rs := [.t 2]) (vs := [.tmp 2]) Try.func139 rfl rfl (.cons rfl FitsL.nil) (by decide) 31 rfl ?_
  unfold r_impl_factors at h
  show V _ _ ⟨I vn1 :: bt 30 [], []⟩ _
  refine V_sreg (mb 31 1) [] (s1 := ⟨I vn1 :: bt 30 [], []⟩) ?_ ?_
  ·refine L1 rfl rfl (Y1_nil (e := 3) 1 (by decide) (.inl rfl)) ?_
   refine XL_nil ?_
   kernel_rfl
  refine V_sreg (mb 31 9) [40] (s1 := ⟨I vn1 :: .bot :: .bot :: .ow 40 :: bt 27 [], [(40, .arr 3 1 ((([] : List Int)).map c3))]⟩) ?_ ?_
  ·refine L1 rfl rfl (Y1_bslice0 Try.underlying28 sz3 (by decide) rfl rfl) ?_
   refine L0 rfl rfl (E_assign (.ow 40) rfl (by kernel_rfl)) ?_
   refine XL_nil ?_
   kernel_rfl
  refine V_seq ?_
  refine V_sreg (mb 31 25) [40] (s1 := ⟨I vn1 :: .bot :: .bot :: .ow 40 :: I 2 :: bt 26 [], [(40, .arr 3 1 ((([] : List Int)).map c3))]⟩) ?_ ?_
  ·refine L0 rfl rfl (E_assign (I 2) rfl (by kernel_rfl)) ?_
   refine XL_nil ?_
   kernel_rfl
  obtain ⟨o6, hLo6, h⟩ := of_bind h
  refine V_toK (mb 31 9) [40] (s1 := ⟨I o6.1 :: .bot :: .bot :: .ow 40 :: bt 27 [], [(40, .arr 3 1 (o6.2.map c3))]⟩) ?_ ?_
  ·clear h
   refine V_block (V_loop (fun n s => ∃ (vn2 : Int) (p3 : Int) (l4 : List Int), s.keep (mb 31 25) [40] = (⟨I vn2 :: .bot :: .bot :: .ow 40 :: I p3 :: bt 26 [], [(40, .arr 3 1 (l4.map c3))]⟩ : St) ∧ r_impl_factors_L5 n vn2 p3 l4 = some o6) FU ⟨_, _, _,  by rfl, hLo6⟩ ?_)
   clear hLo6
   rintro n s ⟨vn2, p3, l4, hs, h⟩
   refine V_keep _ _ hs ?_
   clear hs
   cases n with
   | zero => cases h
   | succ n =>
    rw [r_impl_factors_L5] at h
    refine V_seq ?_
    refine V_sreg (mb 31 1049) [40] (s1 := ⟨I vn2 :: .bot :: .bot :: .ow 40 :: I p3 :: bt 5 (Bo (leI (w64 (p3 * p3)) vn2) :: bt 20 []), [(40, .arr 3 1 (l4.map c3))]⟩) ?_ ?_
    ·refine L0 rfl rfl (E_move (I p3) rfl (by kernel_rfl)) ?_
     refine L0 rfl rfl (E_move (I p3) rfl (by kernel_rfl)) ?_
     refine L0 rfl rfl (Y0_mul64 (a := p3) (b := p3) rfl (by kernel_rfl) (by kernel_rfl)) ?_
     refine L0 rfl rfl (E_move (I vn2) rfl (by kernel_rfl)) ?_
     refine L0 rfl rfl (Y0_lew (k := .i64) (a := w64 (p3 * p3)) (b := vn2) rfl (by kernel_rfl) (by kernel_rfl)) ?_
     refine XL_nil ?_
     kernel_rfl
    refine V_cond rfl (fun hc7 => ?_) (fun hc7 => ?_)
    ·have h := of_true h hc7
     refine V_skip ?_
     show V _ _ _ _
     refine V_seq ?_
     refine V_block ?_
     obtain ⟨o11, hLo11, h⟩ := of_bind h
     refine V_toK (mb 31 25) [40] (s1 := ⟨I o11.1 :: .bot :: .bot :: .ow 40 :: I p3 :: bt 26 [], [(40, .arr 3 1 (o11.2.map c3))]⟩) ?_ ?_
     ·clear h
      refine V_block (V_loop (fun n s => ∃ (vn8 : Int) (l9 : List Int), s.keep (mb 31 25) [40] = (⟨I vn8 :: .bot :: .bot :: .ow 40 :: I p3 :: bt 26 [], [(40, .arr 3 1 (l9.map c3))]⟩ : St) ∧ r_impl_factors_L10 p3 n vn8 l9 = some o11) FU ⟨_, _,  by rfl, hLo11⟩ ?_)
      clear hLo11
      rintro n s ⟨vn8, l9, hs, h⟩
      refine V_keep _ _ hs ?_
      clear hs
      cases n with
      | zero => cases h
      | succ n =>
       rw [r_impl_factors_L10] at h
       refine V_seq ?_
       obtain ⟨z12, hz12, h⟩ := of_bind h
       refine V_sreg (mb 31 65561) [40] (s1 := ⟨I vn8 :: .bot :: .bot :: .ow 40 :: I p3 :: bt 11 (Bo (eqI (Int.tmod vn8 p3) 0) :: bt 14 []), [(40, .arr 3 1 (l9.map c3))]⟩) ?_ ?_
       ·refine L0 rfl rfl (E_move (I vn8) rfl (by kernel_rfl)) ?_
        refine L0 rfl rfl (E_move (I p3) rfl (by kernel_rfl)) ?_
        refine L0 rfl rfl (Y0_rem (k := .i64) (a := vn8) (b := p3) rfl (by kernel_rfl) (by kernel_rfl) (nz_some hz12)) ?_
        refine L0 rfl rfl (Y0_eqw (k := .i64) (a := Int.tmod vn8 p3) (b := 0) rfl (by kernel_rfl) (by kernel_rfl)) ?_
        refine XL_nil ?_
        kernel_rfl
       refine V_cond rfl (fun hc13 => ?_) (fun hc13 => ?_)
       ·have h := of_true h hc13
        refine V_skip ?_
        show V _ _ _ _
        refine V_block ?_
        obtain ⟨u14, hu14, h⟩ := of_bind h
        refine V_sreg (mb 31 25) [40] (s1 := ⟨I vn8 :: .bot :: .bot :: .ow 40 :: I p3 :: bt 26 [], [(40, .arr 3 1 ((l9 ++ ([p3])).map c3))]⟩) ?_ ?_
        ·refine L0 rfl rfl (E_move (.ow 40) rfl (by kernel_rfl)) ?_
         refine L0 rfl rfl (E_move (I p3) rfl (by kernel_rfl)) ?_
         refine L1 rfl rfl (Y1_bslice (z := zv3) (els := [p3].map c3) Try.underlying28 iz3 rfl (by decide) rfl (by kernel_rfl) rfl (by simp [c3]) (by decide) (by decide)) ?_
         refine XL_cons rfl (X_appendM (c := c3) (xs := l9) (ys := [p3]) (id := 40) (z := zv3) rfl rfl Try.underlying28 izb3 rfl (by kernel_rfl) (by kernel_rfl) (by kernel_rfl) (fun _ => rfl) (by simp) (room_some hu14) (by decide)) ?_
         refine L0 rfl rfl (E_assign (.ow 40) rfl (by kernel_rfl)) ?_
         refine XL_nil ?_
         kernel_rfl
        obtain ⟨z15, hz15, h⟩ := of_bind h
        obtain ⟨vn16, hvn16, h⟩ := of_sI h
        refine V_reg (mb 31 25) [40] (s1 := ⟨I vn16 :: .bot :: .bot :: .ow 40 :: I p3 :: bt 26 [], [(40, .arr 3 1 ((l9 ++ ([p3])).map c3))]⟩) ?_ ?_
        ·refine L0 rfl rfl (E_move (I vn8) rfl (by kernel_rfl)) ?_
         refine L0 rfl rfl (E_move (I p3) rfl (by kernel_rfl)) ?_
         refine L0 rfl rfl (Y0_quo64 (a := vn8) (b := p3) rfl (by kernel_rfl) (by kernel_rfl) (nz_some hz15)) ?_
         refine L0 rfl rfl (E_assign (I (w64 (Int.tdiv vn8 p3))) rfl (by kernel_rfl)) ?_
         refine XL_nil ?_
         subst hvn16
         kernel_rfl
        exact ⟨n, Nat.lt_succ_self n, _, _,  by rfl, h⟩
       ·have h := of_false h hc13
        refine V_exit ?_
        obtain rfl := some_inj h
        show St.keep _ _ _ = _
        rfl
     show V _ _ _ _
     obtain ⟨p17, hp17, h⟩ := of_sI h
     refine V_reg (mb 31 25) [40] (s1 := ⟨I o11.1 :: .bot :: .bot :: .ow 40 :: I p17 :: bt 26 [], [(40, .arr 3 1 (o11.2.map c3))]⟩) ?_ ?_
     ·refine L0 rfl rfl (E_move (I p3) rfl (by kernel_rfl)) ?_
      refine L0 rfl rfl (Y0_add64 (a := p3) (b := 1) rfl (by kernel_rfl) (by kernel_rfl)) ?_
      refine L0 rfl rfl (E_assign (I (w64 (p3 + 1))) rfl (by kernel_rfl)) ?_
      refine XL_nil ?_
      subst hp17
      kernel_rfl
     exact ⟨n, Nat.lt_succ_self n, _, _, _,  by rfl, h⟩
    ·have h := of_false h hc7
     refine V_exit ?_
     obtain rfl := some_inj h
     show St.keep _ _ _ = _
     rfl
  show V _ _ _ _
  refine V_seq ?_
  refine V_sreg (mb 31 33554441) [40] (s1 := ⟨I o6.1 :: .bot :: .bot :: .ow 40 :: bt 21 (Bo (ltI 1 o6.1) :: bt 5 []), [(40, .arr 3 1 (o6.2.map c3))]⟩) ?_ ?_
  ·refine L0 rfl rfl (E_move (I o6.1) rfl (by kernel_rfl)) ?_
   refine L0 rfl rfl (Y0_gtw (k := .i64) (a := o6.1) (b := 1) rfl (by kernel_rfl) (by kernel_rfl)) ?_
   refine XL_nil ?_
   kernel_rfl
  refine V_cond rfl (fun hc18 => ?_) (fun hc18 => ?_)
  ·have h := of_true h hc18
   obtain ⟨u19, hu19, h⟩ := of_bind h
   refine V_reg (mb 31 8) [40] (s1 := ⟨bt 3 (.ow 40 :: bt 27 []), [(40, .arr 3 1 ((o6.2 ++ ([o6.1])).map c3))]⟩) ?_ ?_
   ·refine L0 rfl rfl (E_move (.ow 40) rfl (by kernel_rfl)) ?_
    refine L0 rfl rfl (E_move (I o6.1) rfl (by kernel_rfl)) ?_
    refine L1 rfl rfl (Y1_bslice (z := zv3) (els := [o6.1].map c3) Try.underlying28 iz3 rfl (by decide) rfl (by kernel_rfl) rfl (by simp [c3]) (by decide) (by decide)) ?_
    refine XL_cons rfl (X_appendM (c := c3) (xs := o6.2) (ys := [o6.1]) (id := 40) (z := zv3) rfl rfl Try.underlying28 izb3 rfl (by kernel_rfl) (by kernel_rfl) (by kernel_rfl) (fun _ => rfl) (by simp) (room_some hu19) (by decide)) ?_
    refine L0 rfl rfl (E_assign (.ow 40) rfl (by kernel_rfl)) ?_
    refine XL_nil ?_
    kernel_rfl
   show V _ _ _ _
   refine V_sreg (mb 31 4) [40] (s1 := ⟨.bot :: .bot :: .ow 40 :: bt 28 [], [(40, .arr 3 1 ((o6.2 ++ ([o6.1])).map c3))]⟩) ?_ ?_
   ·refine L0 rfl rfl (E_move (.ow 40) rfl (by kernel_rfl)) ?_
    refine L0 rfl rfl (E_assign (.ow 40) rfl (by kernel_rfl)) ?_
    refine XL_nil ?_
    kernel_rfl
   refine V_ret ?_
   obtain rfl := some_inj h
   show Post _ _ _ _ _
   exact ⟨.inr rfl, rfl, rfl, rfl⟩
  ·have h := of_false h hc18
   refine V_skip ?_
   show V _ _ _ _
   refine V_sreg (mb 31 4) [40] (s1 := ⟨.bot :: .bot :: .ow 40 :: bt 28 [], [(40, .arr 3 1 (o6.2.map c3))]⟩) ?_ ?_
   ·refine L0 rfl rfl (E_move (.ow 40) rfl (by kernel_rfl)) ?_
    refine L0 rfl rfl (E_assign (.ow 40) rfl (by kernel_rfl)) ?_
    refine XL_nil ?_
    kernel_rfl
   refine V_ret ?_
   obtain rfl := some_inj h
   show Post _ _ _ _ _
   exact ⟨.inr rfl, rfl, rfl, rfl⟩
theorem cf_impl_primesOf : ∀ args w, (callFunc 130 args).run Try.prog w = .ok (.enter 130 args) w := run_callFunc Try.func130 (by kernel_rfl) (by kernel_rfl)
set_option maxRecDepth 100000 in
set_option maxHeartbeats 400000 in
theorem s_impl_primesOf {vn1 : Int} {r : List Int} (h : r_impl_primesOf vn1 = some r) : CallS Try.prog 130 [I vn1] (.ow 0) [(0, .arr 3 1 (r.map c3))] := by
  refine CallS_of_text (rs := [.t 2]) (vs := [.tmp 2]) Try.func130 rfl rfl (.cons rfl FitsL.nil) (by decide) 33 rfl ?_
  unfold r_impl_primesOf at h
  show V _ _ ⟨I vn1 :: bt 32 [], []⟩ _
  refine V_sreg (mb 33 1) [] (s1 := ⟨I vn1 :: bt 32 [], []⟩) ?_ ?_
  ·refine L1 rfl rfl (Y1_nil (e := 3) 1 (by decide) (.inl rfl)) ?_
   refine XL_nil ?_
   kernel_rfl
  refine V_sreg (mb 33 9) [48] (s1 := ⟨I vn1 :: .bot :: .bot :: .ow 48 :: bt 29 [], [(48, .arr 3 1 ((([] : List Int)).map c3))]⟩) ?_ ?_
  ·refine L1 rfl rfl (Y1_bslice0 Try.underlying28 sz3 (by decide) rfl rfl) ?_
   refine L0 rfl rfl (E_assign (.ow 48) rfl (by kernel_rfl)) ?_
   refine XL_nil ?_
   kernel_rfl
  refine V_seq ?_
  obtain ⟨y2, hy2, h⟩ := of_bind h
  refine V_sreg (mb 33 1800) [64, 48] (s1 := ⟨bt 3 (.ow 48 :: bt 4 (.ow 64 :: I ((y2.length : Int)) :: I 0 :: bt 22 [])), [(64, .arr 3 1 (y2.map c3)), (48, .arr 3 1 ((([] : List Int)).map c3))]⟩) ?_ ?_
  ·refine L0 rfl rfl (E_move (I vn1) rfl (by kernel_rfl)) ?_
   refine L1 rfl rfl (Y1_call (s_impl_factors hy2) cf_impl_factors rfl (by kernel_rfl)) ?_
   refine L0 rfl rfl (Y0_lenM (c := c3) (xs := y2) Try.underlying28 rfl (by kernel_rfl)) ?_
   refine L0 rfl rfl (E_move (I 0) rfl (by kernel_rfl)) ?_
   refine XL_nil ?_
   kernel_rfl
  obtain ⟨o6, hLo6, h⟩ := of_bind h
  refine V_toK (mb 33 8) [48] (s1 := ⟨bt 3 (.ow 48 :: bt 29 []), [(48, .arr 3 1 (o6.map c3))]⟩) ?_ ?_
  ·clear h
   refine V_block (V_loop (fun n s => ∃ (t3 : Int) (l4 : List Int), s.keep (mb 33 1800) [64, 48] = (⟨bt 3 (.ow 48 :: bt 4 (.ow 64 :: I ((y2.length : Int)) :: I t3 :: bt 22 [])), [(64, .arr 3 1 (y2.map c3)), (48, .arr 3 1 (l4.map c3))]⟩ : St) ∧ r_impl_primesOf_L5 y2 n t3 l4 = some o6) FU ⟨_, _,  by rfl, hLo6⟩ ?_)
   clear hLo6
   rintro n s ⟨t3, l4, hs, h⟩
   refine V_keep _ _ hs ?_
   clear hs
   cases n with
   | zero => cases h
   | succ n =>
    rw [r_impl_primesOf_L5] at h
    refine V_sreg (mb 33 3848) [64, 48] (s1 := ⟨bt 3 (.ow 48 :: bt 4 (.ow 64 :: I ((y2.length : Int)) :: I t3 :: Bo (ltI t3 ((y2.length : Int))) :: bt 21 [])), [(64, .arr 3 1 (y2.map c3)), (48, .arr 3 1 (l4.map c3))]⟩) ?_ ?_
    ·refine L0 rfl rfl (Y0_ltw (k := .i64) (a := t3) (b := (y2.length : Int)) rfl (by kernel_rfl) (by kernel_rfl)) ?_
     refine XL_nil ?_
     kernel_rfl
    refine V_seq ?_
    refine V_cond rfl (fun hc7 => ?_) (fun hc7 => ?_)
    ·have h := of_true h hc7
     refine V_skip ?_
     show V _ _ _ _
     refine V_seq ?_
     refine V_block ?_
     obtain ⟨e8, he8, h⟩ := of_bind h
     obtain ⟨e9, he9, h⟩ := of_bind h
     refine V_sreg (mb 33 1832) [64, 48] (s1 := ⟨bt 3 (.ow 48 :: .bot :: I e9 :: .bot :: .bot :: .ow 64 :: I ((y2.length : Int)) :: I t3 :: bt 22 []), [(64, .arr 3 1 (y2.map c3)), (48, .arr 3 1 (l4.map c3))]⟩) ?_ ?_
     ·refine L0 rfl rfl (Y0_idxoM (c := c3) (xs := y2) (v := e8) (id := 64) (T := 3) (sz := 1) (n := t3) Try.underlying28 sz3 rfl (by kernel_rfl) (by kernel_rfl) (by kernel_rfl) he8) ?_
      refine L0 rfl rfl (Y0_loado1 (c := c3) (xs := y2) (v := e9) (id := 64) (sz := 1) (T := 3) (off := 0) (n := t3) (d := Ti e9) (ds := []) sc3 rfl (by kernel_rfl) (by kernel_rfl) he9 (by kernel_rfl)) ?_
      refine L0 rfl rfl (E_assign (I e9) rfl (by kernel_rfl)) ?_
      refine XL_nil ?_
      kernel_rfl
     obtain ⟨b13, hb13, h⟩ := of_bind h
     refine V_sreg (mb 33 67110696) [64, 48] (s1 := ⟨bt 3 (.ow 48 :: .bot :: I e9 :: .bot :: .bot :: .ow 64 :: I ((y2.length : Int)) :: I t3 :: bt 15 (Bo b13 :: bt 6 [])), [(64, .arr 3 1 (y2.map c3)), (48, .arr 3 1 (l4.map c3))]⟩) ?_ ?_
     ·refine L0 rfl rfl (E_move (.ow 48) rfl (by kernel_rfl)) ?_
      refine L0 rfl rfl (Y0_lenM (c := c3) (xs := l4) Try.underlying28 rfl (by kernel_rfl)) ?_
      refine L0 rfl rfl (Y0_eqw (k := .i64) (a := (l4.length : Int)) (b := 0) rfl (by kernel_rfl) (by kernel_rfl)) ?_
      refine L0 rfl rfl (E_move (Bo (eqI ((l4.length : Int)) 0)) rfl (by kernel_rfl)) ?_
      refine XL_split (eqI ((l4.length : Int)) 0) (fun hc10 => ?_) (fun hc10 => ?_)
      ·have hb13 := some_inj (of_true hb13 hc10)
       refine XL_skipF _ rfl rfl (by kernel_rfl) hc10 rfl ?_
       refine XL_skipF _ rfl rfl (by kernel_rfl) hc10 rfl ?_
       refine XL_skipF _ rfl rfl (by kernel_rfl) hc10 rfl ?_
       refine XL_skipF _ rfl rfl (by kernel_rfl) hc10 rfl ?_
       refine XL_skipF _ rfl rfl (by kernel_rfl) hc10 rfl ?_
       refine XL_skipF _ rfl rfl (by kernel_rfl) hc10 rfl ?_
       refine XL_skipF _ rfl rfl (by kernel_rfl) hc10 rfl ?_
       refine XL_skipF _ rfl rfl (by kernel_rfl) hc10 rfl ?_
       refine XL_cons rfl (X_of_Y0 rfl (Y0_pickTe (b := eqI ((l4.length : Int)) 0) (p := true) rfl (by kernel_rfl) hc10 (by kernel_rfl) hb13)) ?_
       refine XL_nil ?_
       kernel_rfl
      ·have hb13 := of_false hb13 hc10
       obtain ⟨e11, he11, hb13⟩ := of_bind hb13
       obtain ⟨e12, he12, hb13⟩ := of_bind hb13
       have hb13 := some_inj hb13
       refine XL_takeC _ rfl rfl (by kernel_rfl) hc10 (X_of_Y0 rfl (E_move (.ow 48) rfl (by kernel_rfl))) ?_
       refine XL_takeC _ rfl rfl (by kernel_rfl) hc10 (X_of_Y0 rfl (E_move (.ow 48) rfl (by kernel_rfl))) ?_
       refine XL_takeC _ rfl rfl (by kernel_rfl) hc10 (X_of_Y0 rfl (Y0_lenM (c := c3) (xs := l4) Try.underlying28 rfl (by kernel_rfl))) ?_
       refine XL_takeC _ rfl rfl (by kernel_rfl) hc10 (X_of_Y0 rfl (Y0_sub64 (a := (l4.length : Int)) (b := 1) rfl (by kernel_rfl) (by kernel_rfl))) ?_
       refine XL_takeC _ rfl rfl (by kernel_rfl) hc10 (X_of_Y0 rfl (Y0_idxoM (c := c3) (xs := l4) (v := e11) (id := 48) (T := 3) (sz := 1) (n := w64 (((l4.length : Int)) - 1)) Try.underlying28 sz3 rfl (by kernel_rfl) (by kernel_rfl) (by kernel_rfl) he11)) ?_
       refine XL_takeC _ rfl rfl (by kernel_rfl) hc10 (X_of_Y0 rfl (Y0_loado1 (c := c3) (xs := l4) (v := e12) (id := 48) (sz := 1) (T := 3) (off := 0) (n := w64 (((l4.length : Int)) - 1)) (d := Ti e12) (ds := []) sc3 rfl (by kernel_rfl) (by kernel_rfl) he12 (by kernel_rfl))) ?_
       refine XL_takeC _ rfl rfl (by kernel_rfl) hc10 (X_of_Y0 rfl (E_move (I e9) rfl (by kernel_rfl))) ?_
       refine XL_takeC _ rfl rfl (by kernel_rfl) hc10 (X_of_Y0 rfl (Y0_new (k := .i64) (a := e12) (b := e9) rfl (by kernel_rfl) (by kernel_rfl))) ?_
       refine XL_cons rfl (X_of_Y0 rfl (Y0_pickFe (b := eqI ((l4.length : Int)) 0) (p := !eqI e12 e9) rfl (by kernel_rfl) hc10 (by kernel_rfl) hb13)) ?_
       refine XL_nil ?_
       kernel_rfl
     refine V_cond rfl (fun hc14 => ?_) (fun hc14 => ?_)
     ·have h := of_true h hc14
      obtain ⟨u15, hu15, h⟩ := of_bind h
      refine V_reg (mb 33 1800) [64, 48] (s1 := ⟨bt 3 (.ow 48 :: bt 4 (.ow 64 :: I ((y2.length : Int)) :: I t3 :: bt 22 [])), [(64, .arr 3 1 (y2.map c3)), (48, .arr 3 1 ((l4 ++ ([e9])).map c3))]⟩) ?_ ?_
      ·refine L0 rfl rfl (E_move (.ow 48) rfl (by kernel_rfl)) ?_
       refine L0 rfl rfl (E_move (I e9) rfl (by kernel_rfl)) ?_
       refine L1 rfl rfl (Y1_bslice (z := zv3) (els := [e9].map c3) Try.underlying28 iz3 rfl (by decide) rfl (by kernel_rfl) rfl (by simp [c3]) (by decide) (by decide)) ?_
       refine XL_cons rfl (X_appendM (c := c3) (xs := l4) (ys := [e9]) (id := 48) (z := zv3) rfl rfl Try.underlying28 izb3 rfl (by kernel_rfl) (by kernel_rfl) (by kernel_rfl) (fun _ => rfl) (by simp) (room_some hu15) (by decide)) ?_
       refine L0 rfl rfl (E_assign (.ow 48) rfl (by kernel_rfl)) ?_
       refine XL_nil ?_
       kernel_rfl
      show V _ _ _ _
      obtain ⟨t16, ht16, h⟩ := of_sI h
      refine V_reg (mb 33 1800) [64, 48] (s1 := ⟨bt 3 (.ow 48 :: bt 4 (.ow 64 :: I ((y2.length : Int)) :: I t16 :: bt 22 [])), [(64, .arr 3 1 (y2.map c3)), (48, .arr 3 1 ((l4 ++ ([e9])).map c3))]⟩) ?_ ?_
      ·refine L0 rfl rfl (Y0_add64 (a := t3) (b := 1) rfl (by kernel_rfl) (by kernel_rfl)) ?_
       refine L0 rfl rfl (E_move (I (w64 (t3 + 1))) rfl (by kernel_rfl)) ?_
       refine XL_nil ?_
       subst ht16
       kernel_rfl
      exact ⟨n, Nat.lt_succ_self n, _, _,  by rfl, h⟩
     ·have h := of_false h hc14
      refine V_skip ?_
      show V _ _ _ _
      obtain ⟨t17, ht17, h⟩ := of_sI h
      refine V_reg (mb 33 1800) [64, 48] (s1 := ⟨bt 3 (.ow 48 :: bt 4 (.ow 64 :: I ((y2.length : Int)) :: I t17 :: bt 22 [])), [(64, .arr 3 1 (y2.map c3)), (48, .arr 3 1 (l4.map c3))]⟩) ?_ ?_
      ·refine L0 rfl rfl (Y0_add64 (a := t3) (b := 1) rfl (by kernel_rfl) (by kernel_rfl)) ?_
       refine L0 rfl rfl (E_move (I (w64 (t3 + 1))) rfl (by kernel_rfl)) ?_
       refine XL_nil ?_
       subst ht17
       kernel_rfl
      exact ⟨n, Nat.lt_succ_self n, _, _,  by rfl, h⟩
    ·have h := of_false h hc7
     refine V_exit ?_
     obtain rfl := some_inj h
     show St.keep _ _ _ = _
     rfl
  show V _ _ _ _
  refine V_sreg (mb 33 4) [48] (s1 := ⟨.bot :: .bot :: .ow 48 :: bt 30 [], [(48, .arr 3 1 (o6.map c3))]⟩) ?_ ?_
  ·refine L0 rfl rfl (E_move (.ow 48) rfl (by kernel_rfl)) ?_
   refine L0 rfl rfl (E_assign (.ow 48) rfl (by kernel_rfl)) ?_
   refine XL_nil ?_
   kernel_rfl
  refine V_ret ?_
  obtain rfl := some_inj h
  show Post _ _ _ _ _
  exact ⟨.inr rfl, rfl, rfl, rfl⟩
theorem cf_impl_assigned : ∀ args w, (callFunc 108 args).run Try.prog w = .ok (.enter 108 args) w := run_callFunc Try.func108 (by kernel_rfl) (by kernel_rfl)
set_option maxRecDepth 100000 in
set_option maxHeartbeats 400000 in
theorem s_impl_assigned {d1 : Int} {r : List ((Int × Int))} (h : r_impl_assigned d1 = some r) : CallS Try.prog 108 [I d1] (.ow 0) [(0, .arr 94 2 (r.map c94))] := by
  refine CallS_of_text (rs := [.t 2]) (vs := [.tmp 2]) Try.func108 rfl rfl (.cons rfl FitsL.nil) (by decide) 67 rfl ?_
  unfold r_impl_assigned at h
  show V _ _ ⟨I d1 :: bt 66 [], []⟩ _
  refine V_sreg (mb 67 1) [] (s1 := ⟨I d1 :: bt 66 [], []⟩) ?_ ?_
  ·refine L1 rfl rfl (Y1_nil (e := 94) 2 (by decide) (.inl rfl)) ?_
   refine XL_nil ?_
   kernel_rfl
  refine V_sreg (mb 67 9) [80] (s1 := ⟨I d1 :: .bot :: .bot :: .ow 80 :: bt 63 [], [(80, .arr 94 2 ((([] : List ((Int × Int)))).map c94))]⟩) ?_ ?_
  ·refine L1 rfl rfl (Y1_bslice0 Try.underlying91 sz94 (by decide) rfl rfl) ?_
   refine L0 rfl rfl (E_assign (.ow 80) rfl (by kernel_rfl)) ?_
   refine XL_nil ?_
   kernel_rfl
  refine V_seq ?_
  obtain ⟨y2, hy2, h⟩ := of_bind h
  refine V_sreg (mb 67 57353) [104, 80] (s1 := ⟨I d1 :: .bot :: .bot :: .ow 80 :: bt 9 (.ow 104 :: I ((y2.length : Int)) :: I 0 :: bt 51 []), [(104, .arr 3 1 (y2.map c3)), (80, .arr 94 2 ((([] : List ((Int × Int)))).map c94))]⟩) ?_ ?_
  ·refine L0 rfl rfl (E_move (I d1) rfl (by kernel_rfl)) ?_
   refine L0 rfl rfl (Y0_neg64 (a := d1) rfl (by kernel_rfl)) ?_
   refine L1 rfl rfl (Y1_call (s_impl_primesOf hy2) cf_impl_primesOf rfl (by kernel_rfl)) ?_
   refine L0 rfl rfl (Y0_lenM (c := c3) (xs := y2) Try.underlying28 rfl (by kernel_rfl)) ?_
   refine L0 rfl rfl (E_move (I 0) rfl (by kernel_rfl)) ?_
   refine XL_nil ?_
   kernel_rfl
  obtain ⟨o6, hLo6, h⟩ := of_bind h
  refine V_toK (mb 67 9) [80] (s1 := ⟨I d1 :: .bot :: .bot :: .ow 80 :: bt 63 [], [(80, .arr 94 2 (o6.map c94))]⟩) ?_ ?_
  ·clear h
   refine V_block (V_loop (fun n s => ∃ (t3 : Int) (l4 : List ((Int × Int))), s.keep (mb 67 57353) [104, 80] = (⟨I d1 :: .bot :: .bot :: .ow 80 :: bt 9 (.ow 104 :: I ((y2.length : Int)) :: I t3 :: bt 51 []), [(104, .arr 3 1 (y2.map c3)), (80, .arr 94 2 (l4.map c94))]⟩ : St) ∧ r_impl_assigned_L5 d1 y2 n t3 l4 = some o6) FU ⟨_, _,  by rfl, hLo6⟩ ?_)
   clear hLo6
   rintro n s ⟨t3, l4, hs, h⟩
   refine V_keep _ _ hs ?_
   clear hs
   cases n with
   | zero => cases h
   | succ n =>
    rw [r_impl_assigned_L5] at h
    refine V_sreg (mb 67 122889) [104, 80] (s1 := ⟨I d1 :: .bot :: .bot :: .ow 80 :: bt 9 (.ow 104 :: I ((y2.length : Int)) :: I t3 :: Bo (ltI t3 ((y2.length : Int))) :: bt 50 []), [(104, .arr 3 1 (y2.map c3)), (80, .arr 94 2 (l4.map c94))]⟩) ?_ ?_
    ·refine L0 rfl rfl (Y0_ltw (k := .i64) (a := t3) (b := (y2.length : Int)) rfl (by kernel_rfl) (by kernel_rfl)) ?_
     refine XL_nil ?_
     kernel_rfl
    refine V_seq ?_
    refine V_cond rfl (fun hc7 => ?_) (fun hc7 => ?_)
    ·have h := of_true h hc7
     refine V_skip ?_
     show V _ _ _ _
     refine V_seq ?_
     refine V_block ?_
     obtain ⟨e8, he8, h⟩ := of_bind h
     obtain ⟨e9, he9, h⟩ := of_bind h
     refine V_sreg (mb 67 57385) [104, 80] (s1 := ⟨I d1 :: .bot :: .bot :: .ow 80 :: .bot :: I e9 :: bt 7 (.ow 104 :: I ((y2.length : Int)) :: I t3 :: bt 51 []), [(104, .arr 3 1 (y2.map c3)), (80, .arr 94 2 (l4.map c94))]⟩) ?_ ?_
     ·refine L0 rfl rfl (Y0_idxoM (c := c3) (xs := y2) (v := e8) (id := 104) (T := 3) (sz := 1) (n := t3) Try.underlying28 sz3 rfl (by kernel_rfl) (by kernel_rfl) (by kernel_rfl) he8) ?_
      refine L0 rfl rfl (Y0_loado1 (c := c3) (xs := y2) (v := e9) (id := 104) (sz := 1) (T := 3) (off := 0) (n := t3) (d := Ti e9) (ds := []) sc3 rfl (by kernel_rfl) (by kernel_rfl) he9 (by kernel_rfl)) ?_
      refine L0 rfl rfl (E_assign (I e9) rfl (by kernel_rfl)) ?_
      refine XL_nil ?_
      kernel_rfl
     refine V_sreg (mb 67 1105961) [104, 80] (s1 := ⟨I d1 :: .bot :: .bot :: .ow 80 :: .bot :: I e9 :: bt 7 (.ow 104 :: I ((y2.length : Int)) :: I t3 :: bt 4 (Bo (ltI 2 e9) :: bt 46 [])), [(104, .arr 3 1 (y2.map c3)), (80, .arr 94 2 (l4.map c94))]⟩) ?_ ?_
     ·refine L0 rfl rfl (E_move (I e9) rfl (by kernel_rfl)) ?_
      refine L0 rfl rfl (Y0_gtw (k := .i64) (a := e9) (b := 2) rfl (by kernel_rfl) (by kernel_rfl)) ?_
      refine XL_nil ?_
      kernel_rfl
     refine V_cond rfl (fun hc10 => ?_) (fun hc10 => ?_)
     ·have h := of_true h hc10
      obtain ⟨u11, hu11, h⟩ := of_bind h
      refine V_reg (mb 67 57353) [104, 80] (s1 := ⟨I d1 :: .bot :: .bot :: .ow 80 :: bt 9 (.ow 104 :: I ((y2.length : Int)) :: I t3 :: bt 51 []), [(104, .arr 3 1 (y2.map c3)), (80, .arr 94 2 ((l4 ++ ([(1, e9)])).map c94))]⟩) ?_ ?_
      ·refine L0 rfl rfl (E_move (.ow 80) rfl (by kernel_rfl)) ?_
       refine L0 rfl rfl (E_move (I e9) rfl (by kernel_rfl)) ?_
       refine L0 rfl rfl (Y0_build (cs := [Ti 1, Ti e9]) pl94 bt94 rfl rfl (by kernel_rfl)) ?_
       refine L1 rfl rfl (Y1_bslice (z := zv94) (els := [(1, e9)].map c94) Try.underlying91 iz94 rfl (by decide) rfl (by kernel_rfl) rfl (by simp [c94]) (by decide) (by decide)) ?_
       refine XL_cons rfl (X_appendM (c := c94) (xs := l4) (ys := [(1, e9)]) (id := 80) (z := zv94) rfl rfl Try.underlying91 izb94 rfl (by kernel_rfl) (by kernel_rfl) (by kernel_rfl) (fun _ => rfl) (by simp) (room_some hu11) (by decide)) ?_
       refine L0 rfl rfl (E_assign (.ow 80) rfl (by kernel_rfl)) ?_
       refine XL_nil ?_
       kernel_rfl
      show V _ _ _ _
      obtain ⟨t12, ht12, h⟩ := of_sI h
      refine V_reg (mb 67 57353) [104, 80] (s1 := ⟨I d1 :: .bot :: .bot :: .ow 80 :: bt 9 (.ow 104 :: I ((y2.length : Int)) :: I t12 :: bt 51 []), [(104, .arr 3 1 (y2.map c3)), (80, .arr 94 2 ((l4 ++ ([(1, e9)])).map c94))]⟩) ?_ ?_
      ·refine L0 rfl rfl (Y0_add64 (a := t3) (b := 1) rfl (by kernel_rfl) (by kernel_rfl)) ?_
       refine L0 rfl rfl (E_move (I (w64 (t3 + 1))) rfl (by kernel_rfl)) ?_
       refine XL_nil ?_
       subst ht12
       kernel_rfl
      exact ⟨n, Nat.lt_succ_self n, _, _,  by rfl, h⟩
     ·have h := of_false h hc10
      refine V_skip ?_
      show V _ _ _ _
      obtain ⟨t13, ht13, h⟩ := of_sI h
      refine V_reg (mb 67 57353) [104, 80] (s1 := ⟨I d1 :: .bot :: .bot :: .ow 80 :: bt 9 (.ow 104 :: I ((y2.length : Int)) :: I t13 :: bt 51 []), [(104, .arr 3 1 (y2.map c3)), (80, .arr 94 2 (l4.map c94))]⟩) ?_ ?_
      ·refine L0 rfl rfl (Y0_add64 (a := t3) (b := 1) rfl (by kernel_rfl) (by kernel_rfl)) ?_
       refine L0 rfl rfl (E_move (I (w64 (t3 + 1))) rfl (by kernel_rfl)) ?_
       refine XL_nil ?_
       subst ht13
       kernel_rfl
      exact ⟨n, Nat.lt_succ_self n, _, _,  by rfl, h⟩
    ·have h := of_false h hc7
     refine V_exit ?_
     obtain rfl := some_inj h
     show St.keep _ _ _ = _
     rfl
  show V _ _ _ _
  refine V_seq ?_
  refine V_sreg (mb 67 536870921) [80] (s1 := ⟨I d1 :: .bot :: .bot :: .ow 80 :: bt 25 (Bo (!eqI (Int.tmod d1 2) 0) :: bt 37 []), [(80, .arr 94 2 (o6.map c94))]⟩) ?_ ?_
  ·refine L0 rfl rfl (E_move (I d1) rfl (by kernel_rfl)) ?_
   refine L0 rfl rfl (Y0_rem (k := .i64) (a := d1) (b := 2) rfl (by kernel_rfl) (by kernel_rfl) (by decide)) ?_
   refine L0 rfl rfl (Y0_new (k := .i64) (a := Int.tmod d1 2) (b := 0) rfl (by kernel_rfl) (by kernel_rfl)) ?_
   refine XL_nil ?_
   kernel_rfl
  refine V_cond rfl (fun hc14 => ?_) (fun hc14 => ?_)
  ·have h := of_true h hc14
   refine V_sreg (mb 67 4) [80] (s1 := ⟨.bot :: .bot :: .ow 80 :: bt 64 [], [(80, .arr 94 2 (o6.map c94))]⟩) ?_ ?_
   ·refine L0 rfl rfl (E_move (.ow 80) rfl (by kernel_rfl)) ?_
    refine L0 rfl rfl (E_assign (.ow 80) rfl (by kernel_rfl)) ?_
    refine XL_nil ?_
    kernel_rfl
   refine V_ret ?_
   obtain rfl := some_inj h
   show Post _ _ _ _ _
   exact ⟨.inr rfl, rfl, rfl, rfl⟩
  ·have h := of_false h hc14
   refine V_skip ?_
   show V _ _ _ _
   refine V_sreg (mb 67 457) [64, 56, 48, 80] (s1 := ⟨I d1 :: .bot :: .bot :: .ow 80 :: .bot :: .bot :: .pt 48 0 :: .pt 56 0 :: .pt 64 0 :: bt 58 [], [(64, .box [Ti 4, Ti 0]), (56, .box [Ti 3, Ti 0]), (48, .box [Ti 2, Ti 0]), (80, .arr 94 2 (o6.map c94))]⟩) ?_ ?_
   ·refine L0 rfl rfl (Y0_build (cs := [Ti 2, Ti 0]) pl94 bt94 rfl rfl (by kernel_rfl)) ?_
    refine L0 rfl rfl (Y0_build (cs := [Ti 3, Ti 0]) pl94 bt94 rfl rfl (by kernel_rfl)) ?_
    refine L0 rfl rfl (Y0_build (cs := [Ti 4, Ti 0]) pl94 bt94 rfl rfl (by kernel_rfl)) ?_
    refine L1 rfl rfl (Y1_alloc (z := zv94) rfl zf94 rfl) ?_
    refine L1 rfl rfl (Y1_alloc (z := zv94) rfl zf94 rfl) ?_
    refine L1 rfl rfl (Y1_alloc (z := zv94) rfl zf94 rfl) ?_
    refine XL_cons rfl (E_store (id := 48) (off := 0) (cs := [Ti 0, Ti 0]) (vc := [Ti 2, Ti 0]) [Ti 2, Ti 0] rfl rfl (by kernel_rfl) (by kernel_rfl) (by kernel_rfl) sz94 (Nat.le_of_ble_eq_true rfl) (by kernel_rfl)) ?_
    refine XL_cons rfl (E_store (id := 56) (off := 0) (cs := [Ti 0, Ti 0]) (vc := [Ti 3, Ti 0]) [Ti 3, Ti 0] rfl rfl (by kernel_rfl) (by kernel_rfl) (by kernel_rfl) sz94 (Nat.le_of_ble_eq_true rfl) (by kernel_rfl)) ?_
    refine XL_cons rfl (E_store (id := 64) (off := 0) (cs := [Ti 0, Ti 0]) (vc := [Ti 4, Ti 0]) [Ti 4, Ti 0] rfl rfl (by kernel_rfl) (by kernel_rfl) (by kernel_rfl) sz94 (Nat.le_of_ble_eq_true rfl) (by kernel_rfl)) ?_
    refine XL_nil ?_
    kernel_rfl
   refine V_seq ?_
   obtain ⟨vn15, hvn15, h⟩ := of_sI h
   refine V_sreg (mb 67 968) [64, 56, 48, 80] (s1 := ⟨bt 3 (.ow 80 :: .bot :: .bot :: .pt 48 0 :: .pt 56 0 :: .pt 64 0 :: I vn15 :: bt 57 []), [(64, .box [Ti 4, Ti 0]), (56, .box [Ti 3, Ti 0]), (48, .box [Ti 2, Ti 0]), (80, .arr 94 2 (o6.map c94))]⟩) ?_ ?_
   ·refine L0 rfl rfl (E_move (I d1) rfl (by kernel_rfl)) ?_
    refine L0 rfl rfl (Y0_neg64 (a := d1) rfl (by kernel_rfl)) ?_
    refine L0 rfl rfl (Y0_quo64 (a := w64 (0 - d1)) (b := 4) rfl (by kernel_rfl) (by kernel_rfl) (by decide)) ?_
    refine L0 rfl rfl (E_assign (I (w64 (Int.tdiv (w64 (0 - d1)) 4))) rfl (by kernel_rfl)) ?_
    refine XL_nil ?_
    subst hvn15
    kernel_rfl
   obtain ⟨t16, ht16, h⟩ := of_sI h
   refine V_sreg (mb 67 274877907400) [64, 56, 48, 80] (s1 := ⟨bt 3 (.ow 80 :: .bot :: .bot :: .pt 48 0 :: .pt 56 0 :: .pt 64 0 :: bt 29 (I t16 :: bt 28 [])), [(64, .box [Ti 4, Ti 0]), (56, .box [Ti 3, Ti 0]), (48, .box [Ti 2, Ti 0]), (80, .arr 94 2 (o6.map c94))]⟩) ?_ ?_
   ·refine L0 rfl rfl (E_move (I vn15) rfl (by kernel_rfl)) ?_
    refine L0 rfl rfl (Y0_rem (k := .i64) (a := vn15) (b := 8) rfl (by kernel_rfl) (by kernel_rfl) (by decide)) ?_
    refine XL_nil ?_
    subst ht16
    kernel_rfl
   refine V_block ?_
   obtain ⟨j17, hj17, h⟩ := of_bind h
   refine V_cutK (mb 67 824633721288) [64, 56, 48, 80] (s1 := ⟨bt 3 (.ow 80 :: .bot :: .bot :: .pt 48 0 :: .pt 56 0 :: .pt 64 0 :: bt 29 (I t16 :: Bo j17 :: bt 27 [])), [(64, .box [Ti 4, Ti 0]), (56, .box [Ti 3, Ti 0]), (48, .box [Ti 2, Ti 0]), (80, .arr 94 2 (o6.map c94))]⟩) ?_ ?_
   ·clear h
    have h := hj17
    clear hj17
    refine V_sreg (mb 67 824633721288) [64, 56, 48, 80] (s1 := ⟨bt 3 (.ow 80 :: .bot :: .bot :: .pt 48 0 :: .pt 56 0 :: .pt 64 0 :: bt 29 (I t16 :: Bo (eqI t16 1) :: bt 27 [])), [(64, .box [Ti 4, Ti 0]), (56, .box [Ti 3, Ti 0]), (48, .box [Ti 2, Ti 0]), (80, .arr 94 2 (o6.map c94))]⟩) ?_ ?_
    ·refine L0 rfl rfl (Y0_eqw (k := .i64) (a := t16) (b := 1) rfl (by kernel_rfl) (by kernel_rfl)) ?_
     refine L0 rfl rfl (E_assign (Bo (eqI t16 1)) rfl (by kernel_rfl)) ?_
     refine XL_nil ?_
     kernel_rfl
    refine V_cond rfl (fun hc18 => ?_) (fun hc18 => ?_)
    ·have h := of_true h hc18
     refine V_skip ?_
     obtain rfl := some_inj h
     show St.keep _ _ _ = _
     rfl
    ·have h := of_false h hc18
     refine V_sreg (mb 67 824633721288) [64, 56, 48, 80] (s1 := ⟨bt 3 (.ow 80 :: .bot :: .bot :: .pt 48 0 :: .pt 56 0 :: .pt 64 0 :: bt 29 (I t16 :: Bo (eqI t16 5) :: bt 27 [])), [(64, .box [Ti 4, Ti 0]), (56, .box [Ti 3, Ti 0]), (48, .box [Ti 2, Ti 0]), (80, .arr 94 2 (o6.map c94))]⟩) ?_ ?_
     ·refine L0 rfl rfl (Y0_eqw (k := .i64) (a := t16) (b := 5) rfl (by kernel_rfl) (by kernel_rfl)) ?_
      refine L0 rfl rfl (E_assign (Bo (eqI t16 5)) rfl (by kernel_rfl)) ?_
      refine XL_nil ?_
      kernel_rfl
     refine V_cond rfl (fun hc19 => ?_) (fun hc19 => ?_)
     ·have h := of_true h hc19
      refine V_skip ?_
      obtain rfl := some_inj h
      show St.keep _ _ _ = _
      rfl
     ·have h := of_false h hc19
      refine V_reg (mb 67 824633721288) [64, 56, 48, 80] (s1 := ⟨bt 3 (.ow 80 :: .bot :: .bot :: .pt 48 0 :: .pt 56 0 :: .pt 64 0 :: bt 29 (I t16 :: Bo (eqI t16 4) :: bt 27 [])), [(64, .box [Ti 4, Ti 0]), (56, .box [Ti 3, Ti 0]), (48, .box [Ti 2, Ti 0]), (80, .arr 94 2 (o6.map c94))]⟩) ?_ ?_
      ·refine L0 rfl rfl (Y0_eqw (k := .i64) (a := t16) (b := 4) rfl (by kernel_rfl) (by kernel_rfl)) ?_
       refine L0 rfl rfl (E_assign (Bo (eqI t16 4)) rfl (by kernel_rfl)) ?_
       refine XL_nil ?_
       kernel_rfl
      obtain rfl := some_inj h
      show St.keep _ _ _ = _
      rfl
   refine V_cond rfl (fun hc20 => ?_) (fun hc20 => ?_)
   ·have h := of_true h hc20
    obtain ⟨u21, hu21, h⟩ := of_bind h
    refine V_sreg (mb 67 4) [80] (s1 := ⟨.bot :: .bot :: .ow 80 :: bt 64 [], [(80, .arr 94 2 ((o6 ++ ([(2, 0)])).map c94))]⟩) ?_ ?_
    ·refine L0 rfl rfl (E_move (.ow 80) rfl (by kernel_rfl)) ?_
     refine L0 rfl rfl (E_loadn (cs := [Ti 2, Ti 0]) [Ti 2, Ti 0] wd94 rfl (by kernel_rfl) (Nat.le_of_ble_eq_true rfl) (by kernel_rfl)) ?_
     refine L1 rfl rfl (Y1_bslice (z := zv94) (els := [(2, 0)].map c94) Try.underlying91 iz94 rfl (by decide) rfl (by kernel_rfl) rfl (by simp [c94]) (by decide) (by decide)) ?_
     refine XL_cons rfl (X_appendM (c := c94) (xs := o6) (ys := [(2, 0)]) (id := 80) (z := zv94) rfl rfl Try.underlying91 izb94 rfl (by kernel_rfl) (by kernel_rfl) (by kernel_rfl) (fun _ => rfl) (by simp) (room_some hu21) (by decide)) ?_
     refine L0 rfl rfl (E_assign (.ow 80) rfl (by kernel_rfl)) ?_
     refine XL_nil ?_
     kernel_rfl
    refine V_ret ?_
    obtain rfl := some_inj h
    show Post _ _ _ _ _
    exact ⟨.inr rfl, rfl, rfl, rfl⟩
   ·have h := of_false h hc20
    refine V_sreg (mb 67 141012366262728) [64, 56, 48, 80] (s1 := ⟨bt 3 (.ow 80 :: .bot :: .bot :: .pt 48 0 :: .pt 56 0 :: .pt 64 0 :: bt 29 (I t16 :: bt 8 (Bo (eqI t16 2) :: bt 19 []))), [(64, .box [Ti 4, Ti 0]), (56, .box [Ti 3, Ti 0]), (48, .box [Ti 2, Ti 0]), (80, .arr 94 2 (o6.map c94))]⟩) ?_ ?_
    ·refine L0 rfl rfl (Y0_eqw (k := .i64) (a := t16) (b := 2) rfl (by kernel_rfl) (by kernel_rfl)) ?_
     refine L0 rfl rfl (E_assign (Bo (eqI t16 2)) rfl (by kernel_rfl)) ?_
     refine XL_nil ?_
     kernel_rfl
    refine V_cond rfl (fun hc22 => ?_) (fun hc22 => ?_)
    ·have h := of_true h hc22
     obtain ⟨u23, hu23, h⟩ := of_bind h
     refine V_sreg (mb 67 4) [80] (s1 := ⟨.bot :: .bot :: .ow 80 :: bt 64 [], [(80, .arr 94 2 ((o6 ++ ([(4, 0)])).map c94))]⟩) ?_ ?_
     ·refine L0 rfl rfl (E_move (.ow 80) rfl (by kernel_rfl)) ?_
      refine L0 rfl rfl (E_loadn (cs := [Ti 4, Ti 0]) [Ti 4, Ti 0] wd94 rfl (by kernel_rfl) (Nat.le_of_ble_eq_true rfl) (by kernel_rfl)) ?_
      refine L1 rfl rfl (Y1_bslice (z := zv94) (els := [(4, 0)].map c94) Try.underlying91 iz94 rfl (by decide) rfl (by kernel_rfl) rfl (by simp [c94]) (by decide) (by decide)) ?_
      refine XL_cons rfl (X_appendM (c := c94) (xs := o6) (ys := [(4, 0)]) (id := 80) (z := zv94) rfl rfl Try.underlying91 izb94 rfl (by kernel_rfl) (by kernel_rfl) (by kernel_rfl) (fun _ => rfl) (by simp) (room_some hu23) (by decide)) ?_
      refine L0 rfl rfl (E_assign (.ow 80) rfl (by kernel_rfl)) ?_
      refine XL_nil ?_
      kernel_rfl
     refine V_ret ?_
     obtain rfl := some_inj h
     show Post _ _ _ _ _
     exact ⟨.inr rfl, rfl, rfl, rfl⟩
    ·have h := of_false h hc22
     refine V_sreg (mb 67 9007474132648136) [56, 48, 80] (s1 := ⟨bt 3 (.ow 80 :: .bot :: .bot :: .pt 48 0 :: .pt 56 0 :: bt 30 (I t16 :: bt 14 (Bo (eqI t16 6) :: bt 13 []))), [(56, .box [Ti 3, Ti 0]), (48, .box [Ti 2, Ti 0]), (80, .arr 94 2 (o6.map c94))]⟩) ?_ ?_
     ·refine L0 rfl rfl (Y0_eqw (k := .i64) (a := t16) (b := 6) rfl (by kernel_rfl) (by kernel_rfl)) ?_
      refine L0 rfl rfl (E_assign (Bo (eqI t16 6)) rfl (by kernel_rfl)) ?_
      refine XL_nil ?_
      kernel_rfl
     refine V_cond rfl (fun hc24 => ?_) (fun hc24 => ?_)
     ·have h := of_true h hc24
      obtain ⟨u25, hu25, h⟩ := of_bind h
      refine V_sreg (mb 67 4) [80] (s1 := ⟨.bot :: .bot :: .ow 80 :: bt 64 [], [(80, .arr 94 2 ((o6 ++ ([(3, 0)])).map c94))]⟩) ?_ ?_
      ·refine L0 rfl rfl (E_move (.ow 80) rfl (by kernel_rfl)) ?_
       refine L0 rfl rfl (E_loadn (cs := [Ti 3, Ti 0]) [Ti 3, Ti 0] wd94 rfl (by kernel_rfl) (Nat.le_of_ble_eq_true rfl) (by kernel_rfl)) ?_
       refine L1 rfl rfl (Y1_bslice (z := zv94) (els := [(3, 0)].map c94) Try.underlying91 iz94 rfl (by decide) rfl (by kernel_rfl) rfl (by simp [c94]) (by decide) (by decide)) ?_
       refine XL_cons rfl (X_appendM (c := c94) (xs := o6) (ys := [(3, 0)]) (id := 80) (z := zv94) rfl rfl Try.underlying91 izb94 rfl (by kernel_rfl) (by kernel_rfl) (by kernel_rfl) (fun _ => rfl) (by simp) (room_some hu25) (by decide)) ?_
       refine L0 rfl rfl (E_assign (.ow 80) rfl (by kernel_rfl)) ?_
       refine XL_nil ?_
       kernel_rfl
      refine V_ret ?_
      obtain rfl := some_inj h
      show Post _ _ _ _ _
      exact ⟨.inr rfl, rfl, rfl, rfl⟩
     ·have h := of_false h hc24
      refine V_sreg (mb 67 576460752303423688) [56, 48, 80] (s1 := ⟨bt 3 (.ow 80 :: .bot :: .bot :: .pt 48 0 :: .pt 56 0 :: bt 51 (Bo (eqI t16 0) :: bt 7 [])), [(56, .box [Ti 3, Ti 0]), (48, .box [Ti 2, Ti 0]), (80, .arr 94 2 (o6.map c94))]⟩) ?_ ?_
      ·refine L0 rfl rfl (Y0_eqw (k := .i64) (a := t16) (b := 0) rfl (by kernel_rfl) (by kernel_rfl)) ?_
       refine L0 rfl rfl (E_assign (Bo (eqI t16 0)) rfl (by kernel_rfl)) ?_
       refine XL_nil ?_
       kernel_rfl
      refine V_cond rfl (fun hc26 => ?_) (fun hc26 => ?_)
      ·have h := of_true h hc26
       obtain ⟨u27, hu27, h⟩ := of_bind h
       refine V_sreg (mb 67 4) [80] (s1 := ⟨.bot :: .bot :: .ow 80 :: bt 64 [], [(80, .arr 94 2 ((o6 ++ ([(2, 0), (3, 0)])).map c94))]⟩) ?_ ?_
       ·refine L0 rfl rfl (E_move (.ow 80) rfl (by kernel_rfl)) ?_
        refine L0 rfl rfl (E_loadn (cs := [Ti 2, Ti 0]) [Ti 2, Ti 0] wd94 rfl (by kernel_rfl) (Nat.le_of_ble_eq_true rfl) (by kernel_rfl)) ?_
        refine L0 rfl rfl (E_loadn (cs := [Ti 3, Ti 0]) [Ti 3, Ti 0] wd94 rfl (by kernel_rfl) (Nat.le_of_ble_eq_true rfl) (by kernel_rfl)) ?_
        refine L1 rfl rfl (Y1_bslice (z := zv94) (els := [(2, 0), (3, 0)].map c94) Try.underlying91 iz94 rfl (by decide) rfl (by kernel_rfl) rfl (by simp [c94]) (by decide) (by decide)) ?_
        refine XL_cons rfl (X_appendM (c := c94) (xs := o6) (ys := [(2, 0), (3, 0)]) (id := 80) (z := zv94) rfl rfl Try.underlying91 izb94 rfl (by kernel_rfl) (by kernel_rfl) (by kernel_rfl) (fun _ => rfl) (by simp) (room_some hu27) (by decide)) ?_
        refine L0 rfl rfl (E_assign (.ow 80) rfl (by kernel_rfl)) ?_
        refine XL_nil ?_
        kernel_rfl
       refine V_ret ?_
       obtain rfl := some_inj h
       show Post _ _ _ _ _
       exact ⟨.inr rfl, rfl, rfl, rfl⟩
      ·have h := of_false h hc26
       refine V_skip ?_
       show V _ _ _ _
       refine V_sreg (mb 67 4) [80] (s1 := ⟨.bot :: .bot :: .ow 80 :: bt 64 [], [(80, .arr 94 2 (o6.map c94))]⟩) ?_ ?_
       ·refine L0 rfl rfl (E_move (.ow 80) rfl (by kernel_rfl)) ?_
        refine L0 rfl rfl (E_assign (.ow 80) rfl (by kernel_rfl)) ?_
        refine XL_nil ?_
        kernel_rfl
       refine V_ret ?_
       obtain rfl := some_inj h
       show Post _ _ _ _ _
       exact ⟨.inr rfl, rfl, rfl, rfl⟩
theorem cf_impl_symbolOfTwo : ∀ args w, (callFunc 86 args).run Try.prog w = .ok (.enter 86 args) w := run_callFunc Try.func86 (by kernel_rfl) (by kernel_rfl)
set_option maxRecDepth 100000 in
set_option maxHeartbeats 400000 in
theorem s_impl_symbolOfTwo {vn1 : Int} {r : Int} (h : r_impl_symbolOfTwo vn1 = some r) : CallS Try.prog 86 [I vn1] (I r) [] := by
  refine CallS_of_text (rs := [.t 2]) (vs := [.tmp 2]) Try.func86 rfl rfl (.cons rfl FitsL.nil) (by decide) 12 rfl ?_
  unfold r_impl_symbolOfTwo at h
  show V _ _ ⟨I vn1 :: bt 11 [], []⟩ _
  refine V_sreg (mb 12 1) [] (s1 := ⟨I vn1 :: bt 11 [], []⟩) ?_ ?_
  ·refine L0 rfl rfl (E_assign (I 0) rfl (by kernel_rfl)) ?_
   refine XL_nil ?_
   kernel_rfl
  refine V_seq ?_
  obtain ⟨y2, hy2, h⟩ := of_bind h
  refine V_sreg (mb 12 8) [] (s1 := ⟨bt 3 (I y2 :: bt 8 []), []⟩) ?_ ?_
  ·refine L0 rfl rfl (E_move (I vn1) rfl (by kernel_rfl)) ?_
   refine L1 rfl rfl (Y1_call (s_impl_mod hy2) cf_impl_mod rfl (by kernel_rfl)) ?_
   refine L0 rfl rfl (E_assign (I y2) rfl (by kernel_rfl)) ?_
   refine XL_nil ?_
   kernel_rfl
  refine V_sreg (mb 12 2048) [] (s1 := ⟨bt 11 (Bo (bif (eqI y2 1) then true else (eqI y2 7)) :: []), []⟩) ?_ ?_
  ·refine L0 rfl rfl (E_move (I y2) rfl (by kernel_rfl)) ?_
   refine L0 rfl rfl (Y0_eqw (k := .i64) (a := y2) (b := 1) rfl (by kernel_rfl) (by kernel_rfl)) ?_
   refine L0 rfl rfl (E_move (Bo (eqI y2 1)) rfl (by kernel_rfl)) ?_
   refine XL_split (eqI y2 1) (fun hc3 => ?_) (fun hc3 => ?_)
   ·refine XL_skipF _ rfl rfl (by kernel_rfl) hc3 rfl ?_
    refine XL_skipF _ rfl rfl (by kernel_rfl) hc3 rfl ?_
    refine XL_cons rfl (X_of_Y0 rfl (Y0_pick1 (b := eqI y2 1) (p := true) (q := eqI y2 7) rfl (by kernel_rfl) hc3 (by kernel_rfl))) ?_
    refine XL_nil ?_
    kernel_rfl
   ·refine XL_takeC _ rfl rfl (by kernel_rfl) hc3 (X_of_Y0 rfl (E_move (I y2) rfl (by kernel_rfl))) ?_
    refine XL_takeC _ rfl rfl (by kernel_rfl) hc3 (X_of_Y0 rfl (Y0_eqw (k := .i64) (a := y2) (b := 7) rfl (by kernel_rfl) (by kernel_rfl))) ?_
    refine XL_cons rfl (X_of_Y0 rfl (Y0_pick0 (b := eqI y2 1) (p := true) (q := eqI y2 7) rfl (by kernel_rfl) hc3 (by kernel_rfl))) ?_
    refine XL_nil ?_
    kernel_rfl
  refine V_cond rfl (fun hc4 => ?_) (fun hc4 => ?_)
  ·have h := of_true h hc4
   refine V_sreg (mb 12 4) [] (s1 := ⟨.bot :: .bot :: I 1 :: bt 9 [], []⟩) ?_ ?_
   ·refine L0 rfl rfl (E_assign (I 1) rfl (by kernel_rfl)) ?_
    refine XL_nil ?_
    kernel_rfl
   refine V_ret ?_
   obtain rfl := some_inj h
   show Post _ _ _ _ _
   exact ⟨.inr rfl, rfl, rfl, rfl⟩
  ·have h := of_false h hc4
   refine V_skip ?_
   show V _ _ _ _
   refine V_sreg (mb 12 4) [] (s1 := ⟨.bot :: .bot :: I (-1) :: bt 9 [], []⟩) ?_ ?_
   ·refine L0 rfl rfl (E_assign (I (-1)) rfl (by kernel_rfl)) ?_
    refine XL_nil ?_
    kernel_rfl
   refine V_ret ?_
   obtain rfl := some_inj h
   show Post _ _ _ _ _
   exact ⟨.inr rfl, rfl, rfl, rfl⟩
theorem cf_impl_jacobi : ∀ args w, (callFunc 42 args).run Try.prog w = .ok (.enter 42 args) w := run_callFunc Try.func42 (by kernel_rfl) (by kernel_rfl)
set_option maxRecDepth 100000 in
set_option maxHeartbeats 400000 in
theorem s_impl_jacobi {a1 : Int} {vn2 : Int} {r : Int} (h : r_impl_jacobi a1 vn2 = some r) : CallS Try.prog 42 [I a1, I vn2] (I r) [] := by
  refine CallS_of_text (rs := [.t 4]) (vs := [.tmp 4]) Try.func42 rfl rfl (.cons rfl FitsL.nil) (by decide) 38 rfl ?_
  unfold r_impl_jacobi at h
  show V _ _ ⟨I a1 :: I vn2 :: bt 36 [], []⟩ _
  refine V_sreg (mb 38 3) [] (s1 := ⟨I a1 :: I vn2 :: bt 36 [], []⟩) ?_ ?_
  ·refine L0 rfl rfl (E_assign (I 0) rfl (by kernel_rfl)) ?_
   refine XL_nil ?_
   kernel_rfl
  refine V_sreg (mb 38 35) [] (s1 := ⟨I a1 :: I vn2 :: bt 3 (I 1 :: bt 32 []), []⟩) ?_ ?_
  ·refine L0 rfl rfl (E_assign (I 1) rfl (by kernel_rfl)) ?_
   refine XL_nil ?_
   kernel_rfl
  refine V_seq ?_
  obtain ⟨y3, hy3, h⟩ := of_bind h
  refine V_sreg (mb 38 35) [] (s1 := ⟨I y3 :: I vn2 :: bt 3 (I 1 :: bt 32 []), []⟩) ?_ ?_
  ·refine L0 rfl rfl (E_move (I a1) rfl (by kernel_rfl)) ?_
   refine L0 rfl rfl (E_move (I vn2) rfl (by kernel_rfl)) ?_
   refine L1 rfl rfl (Y1_call (s_impl_mod hy3) cf_impl_mod rfl (by kernel_rfl)) ?_
   refine L0 rfl rfl (E_assign (I y3) rfl (by kernel_rfl)) ?_
   refine XL_nil ?_
   kernel_rfl
  obtain ⟨o8, hLo8, h⟩ := of_bind h
  refine V_toK (mb 38 34) [] (s1 := ⟨.bot :: I o8.1 :: bt 3 (I o8.2 :: bt 32 []), []⟩) ?_ ?_
  ·clear h
   refine V_block (V_loop (fun n s => ∃ (a4 : Int) (vn5 : Int) (vs6 : Int), s.keep (mb 38 35) [] = (⟨I a4 :: I vn5 :: bt 3 (I vs6 :: bt 32 []), []⟩ : St) ∧ r_impl_jacobi_L7 n a4 vn5 vs6 = some o8) FU ⟨_, _, _,  by rfl, hLo8⟩ ?_)
   clear hLo8
   rintro n s ⟨a4, vn5, vs6, hs, h⟩
   refine V_keep _ _ hs ?_
   clear hs
   cases n with
   | zero => cases h
   | succ n =>
    rw [r_impl_jacobi_L7] at h
    refine V_seq ?_
    refine V_sreg (mb 38 1059) [] (s1 := ⟨I a4 :: I vn5 :: bt 3 (I vs6 :: bt 4 (Bo (!eqI a4 0) :: bt 27 [])), []⟩) ?_ ?_
    ·refine L0 rfl rfl (E_move (I a4) rfl (by kernel_rfl)) ?_
     refine L0 rfl rfl (Y0_new (k := .i64) (a := a4) (b := 0) rfl (by kernel_rfl) (by kernel_rfl)) ?_
     refine XL_nil ?_
     kernel_rfl
    refine V_cond rfl (fun hc9 => ?_) (fun hc9 => ?_)
    ·have h := of_true h hc9
     refine V_skip ?_
     show V _ _ _ _
     refine V_seq ?_
     refine V_block ?_
     refine V_seq ?_
     obtain ⟨o13, hLo13, h⟩ := of_bind h
     refine V_toK (mb 38 35) [] (s1 := ⟨I o13.1 :: I vn5 :: bt 3 (I o13.2 :: bt 32 []), []⟩) ?_ ?_
     ·clear h
      refine V_block (V_loop (fun n s => ∃ (a10 : Int) (vs11 : Int), s.keep (mb 38 35) [] = (⟨I a10 :: I vn5 :: bt 3 (I vs11 :: bt 32 []), []⟩ : St) ∧ r_impl_jacobi_L12 vn5 n a10 vs11 = some o13) FU ⟨_, _,  by rfl, hLo13⟩ ?_)
      clear hLo13
      rintro n s ⟨a10, vs11, hs, h⟩
      refine V_keep _ _ hs ?_
      clear hs
      cases n with
      | zero => cases h
      | succ n =>
       rw [r_impl_jacobi_L12] at h
       refine V_seq ?_
       refine V_sreg (mb 38 65571) [] (s1 := ⟨I a10 :: I vn5 :: bt 3 (I vs11 :: bt 10 (Bo (eqI (Int.tmod a10 2) 0) :: bt 21 [])), []⟩) ?_ ?_
       ·refine L0 rfl rfl (E_move (I a10) rfl (by kernel_rfl)) ?_
        refine L0 rfl rfl (Y0_rem (k := .i64) (a := a10) (b := 2) rfl (by kernel_rfl) (by kernel_rfl) (by decide)) ?_
        refine L0 rfl rfl (Y0_eqw (k := .i64) (a := Int.tmod a10 2) (b := 0) rfl (by kernel_rfl) (by kernel_rfl)) ?_
        refine XL_nil ?_
        kernel_rfl
       refine V_cond rfl (fun hc14 => ?_) (fun hc14 => ?_)
       ·have h := of_true h hc14
        refine V_skip ?_
        show V _ _ _ _
        refine V_block ?_
        obtain ⟨a15, ha15, h⟩ := of_sI h
        refine V_sreg (mb 38 35) [] (s1 := ⟨I a15 :: I vn5 :: bt 3 (I vs11 :: bt 32 []), []⟩) ?_ ?_
        ·refine L0 rfl rfl (E_move (I a10) rfl (by kernel_rfl)) ?_
         refine L0 rfl rfl (Y0_quo64 (a := a10) (b := 2) rfl (by kernel_rfl) (by kernel_rfl) (by decide)) ?_
         refine L0 rfl rfl (E_assign (I (w64 (Int.tdiv a10 2))) rfl (by kernel_rfl)) ?_
         refine XL_nil ?_
         subst ha15
         kernel_rfl
        obtain ⟨y16, hy16, h⟩ := of_bind h
        obtain ⟨vs17, hvs17, h⟩ := of_sI h
        refine V_reg (mb 38 35) [] (s1 := ⟨I a15 :: I vn5 :: bt 3 (I vs17 :: bt 32 []), []⟩) ?_ ?_
        ·refine L0 rfl rfl (E_move (I vs11) rfl (by kernel_rfl)) ?_
         refine L0 rfl rfl (E_move (I vn5) rfl (by kernel_rfl)) ?_
         refine L1 rfl rfl (Y1_call (s_impl_symbolOfTwo hy16) cf_impl_symbolOfTwo rfl (by kernel_rfl)) ?_
         refine L0 rfl rfl (Y0_mul64 (a := vs11) (b := y16) rfl (by kernel_rfl) (by kernel_rfl)) ?_
         refine L0 rfl rfl (E_assign (I (w64 (vs11 * y16))) rfl (by kernel_rfl)) ?_
         refine XL_nil ?_
         subst hvs17
         kernel_rfl
        exact ⟨n, Nat.lt_succ_self n, _, _,  by rfl, h⟩
       ·have h := of_false h hc14
        refine V_exit ?_
        obtain rfl := some_inj h
        show St.keep _ _ _ = _
        rfl
     show V _ _ _ _
     refine V_seq ?_
     obtain ⟨t19, ht19, h⟩ := of_bind h
     have ht19 := some_inj ht19
     refine V_sreg (mb 38 1073741859) [] (s1 := ⟨I o13.1 :: I vn5 :: bt 3 (I o13.2 :: bt 24 (Bo t19 :: bt 7 [])), []⟩) ?_ ?_
     ·refine L0 rfl rfl (E_move (I o13.1) rfl (by kernel_rfl)) ?_
      refine L0 rfl rfl (Y0_rem (k := .i64) (a := o13.1) (b := 4) rfl (by kernel_rfl) (by kernel_rfl) (by decide)) ?_
      refine L0 rfl rfl (Y0_eqw (k := .i64) (a := Int.tmod o13.1 4) (b := 3) rfl (by kernel_rfl) (by kernel_rfl)) ?_
      refine L0 rfl rfl (E_move (Bo (eqI (Int.tmod o13.1 4) 3)) rfl (by kernel_rfl)) ?_
      refine XL_split (eqI (Int.tmod o13.1 4) 3) (fun hc18 => ?_) (fun hc18 => ?_)
      ·refine XL_takeC _ rfl rfl (by kernel_rfl) hc18 (X_of_Y0 rfl (E_move (I vn5) rfl (by kernel_rfl))) ?_
       refine XL_takeC _ rfl rfl (by kernel_rfl) hc18 (X_of_Y0 rfl (Y0_rem (k := .i64) (a := vn5) (b := 4) rfl (by kernel_rfl) (by kernel_rfl) (by decide))) ?_
       refine XL_takeC _ rfl rfl (by kernel_rfl) hc18 (X_of_Y0 rfl (Y0_eqw (k := .i64) (a := Int.tmod vn5 4) (b := 3) rfl (by kernel_rfl) (by kernel_rfl))) ?_
       refine XL_cons rfl (X_of_Y0 rfl (Y0_pick1 (b := eqI (Int.tmod o13.1 4) 3) (p := eqI (Int.tmod vn5 4) 3) (q := false) rfl (by kernel_rfl) hc18 (by kernel_rfl))) ?_
       refine XL_nil ?_
       subst ht19
       kernel_rfl
      ·refine XL_skipT _ rfl rfl (by kernel_rfl) hc18 rfl ?_
       refine XL_skipT _ rfl rfl (by kernel_rfl) hc18 rfl ?_
       refine XL_skipT _ rfl rfl (by kernel_rfl) hc18 rfl ?_
       refine XL_cons rfl (X_of_Y0 rfl (Y0_pick0 (b := eqI (Int.tmod o13.1 4) 3) (p := eqI (Int.tmod vn5 4) 3) (q := false) rfl (by kernel_rfl) hc18 (by kernel_rfl))) ?_
       refine XL_nil ?_
       subst ht19
       kernel_rfl
     refine V_cond rfl (fun hc20 => ?_) (fun hc20 => ?_)
     ·have h := of_true h hc20
      obtain ⟨vs21, hvs21, h⟩ := of_sI h
      refine V_reg (mb 38 35) [] (s1 := ⟨I o13.1 :: I vn5 :: bt 3 (I vs21 :: bt 32 []), []⟩) ?_ ?_
      ·refine L0 rfl rfl (E_move (I o13.2) rfl (by kernel_rfl)) ?_
       refine L0 rfl rfl (Y0_neg64 (a := o13.2) rfl (by kernel_rfl)) ?_
       refine L0 rfl rfl (E_assign (I (w64 (0 - o13.2))) rfl (by kernel_rfl)) ?_
       refine XL_nil ?_
       subst hvs21
       kernel_rfl
      show V _ _ _ _
      refine V_reg (mb 38 35) [] (s1 := ⟨I vn5 :: I o13.1 :: bt 3 (I vs21 :: bt 32 []), []⟩) ?_ ?_
      ·refine L0 rfl rfl (E_move (I vn5) rfl (by kernel_rfl)) ?_
       refine L0 rfl rfl (E_move (I o13.1) rfl (by kernel_rfl)) ?_
       refine L0 rfl rfl (E_assign (I vn5) rfl (by kernel_rfl)) ?_
       refine L0 rfl rfl (E_assign (I o13.1) rfl (by kernel_rfl)) ?_
       refine XL_nil ?_
       kernel_rfl
      show V _ _ _ _
      obtain ⟨z22, hz22, h⟩ := of_bind h
      obtain ⟨a23, ha23, h⟩ := of_sI h
      refine V_reg (mb 38 35) [] (s1 := ⟨I a23 :: I o13.1 :: bt 3 (I vs21 :: bt 32 []), []⟩) ?_ ?_
      ·refine L0 rfl rfl (E_move (I vn5) rfl (by kernel_rfl)) ?_
       refine L0 rfl rfl (E_move (I o13.1) rfl (by kernel_rfl)) ?_
       refine L0 rfl rfl (Y0_rem (k := .i64) (a := vn5) (b := o13.1) rfl (by kernel_rfl) (by kernel_rfl) (nz_some hz22)) ?_
       refine L0 rfl rfl (E_assign (I (Int.tmod vn5 o13.1)) rfl (by kernel_rfl)) ?_
       refine XL_nil ?_
       subst ha23
       kernel_rfl
      exact ⟨n, Nat.lt_succ_self n, _, _, _,  by rfl, h⟩
     ·have h := of_false h hc20
      refine V_skip ?_
      show V _ _ _ _
      refine V_reg (mb 38 35) [] (s1 := ⟨I vn5 :: I o13.1 :: bt 3 (I o13.2 :: bt 32 []), []⟩) ?_ ?_
      ·refine L0 rfl rfl (E_move (I vn5) rfl (by kernel_rfl)) ?_
       refine L0 rfl rfl (E_move (I o13.1) rfl (by kernel_rfl)) ?_
       refine L0 rfl rfl (E_assign (I vn5) rfl (by kernel_rfl)) ?_
       refine L0 rfl rfl (E_assign (I o13.1) rfl (by kernel_rfl)) ?_
       refine XL_nil ?_
       kernel_rfl
      show V _ _ _ _
      obtain ⟨z24, hz24, h⟩ := of_bind h
      obtain ⟨a25, ha25, h⟩ := of_sI h
      refine V_reg (mb 38 35) [] (s1 := ⟨I a25 :: I o13.1 :: bt 3 (I o13.2 :: bt 32 []), []⟩) ?_ ?_
      ·refine L0 rfl rfl (E_move (I vn5) rfl (by kernel_rfl)) ?_
       refine L0 rfl rfl (E_move (I o13.1) rfl (by kernel_rfl)) ?_
       refine L0 rfl rfl (Y0_rem (k := .i64) (a := vn5) (b := o13.1) rfl (by kernel_rfl) (by kernel_rfl) (nz_some hz24)) ?_
       refine L0 rfl rfl (E_assign (I (Int.tmod vn5 o13.1)) rfl (by kernel_rfl)) ?_
       refine XL_nil ?_
       subst ha25
       kernel_rfl
      exact ⟨n, Nat.lt_succ_self n, _, _, _,  by rfl, h⟩
    ·have h := of_false h hc9
     refine V_exit ?_
     obtain rfl := some_inj h
     show St.keep _ _ _ = _
     rfl
  show V _ _ _ _
  refine V_seq ?_
  refine V_sreg (mb 38 68719476768) [] (s1 := ⟨bt 5 (I o8.2 :: bt 30 (Bo (!eqI o8.1 1) :: .bot :: [])), []⟩) ?_ ?_
  ·refine L0 rfl rfl (E_move (I o8.1) rfl (by kernel_rfl)) ?_
   refine L0 rfl rfl (Y0_new (k := .i64) (a := o8.1) (b := 1) rfl (by kernel_rfl) (by kernel_rfl)) ?_
   refine XL_nil ?_
   kernel_rfl
  refine V_cond rfl (fun hc26 => ?_) (fun hc26 => ?_)
  ·have h := of_true h hc26
   refine V_sreg (mb 38 16) [] (s1 := ⟨bt 4 (I 0 :: bt 33 []), []⟩) ?_ ?_
   ·refine L0 rfl rfl (E_assign (I 0) rfl (by kernel_rfl)) ?_
    refine XL_nil ?_
    kernel_rfl
   refine V_ret ?_
   obtain rfl := some_inj h
   show Post _ _ _ _ _
   exact ⟨.inr rfl, rfl, rfl, rfl⟩
  ·have h := of_false h hc26
   refine V_skip ?_
   show V _ _ _ _
   refine V_sreg (mb 38 16) [] (s1 := ⟨bt 4 (I o8.2 :: bt 33 []), []⟩) ?_ ?_
   ·refine L0 rfl rfl (E_move (I o8.2) rfl (by kernel_rfl)) ?_
    refine L0 rfl rfl (E_assign (I o8.2) rfl (by kernel_rfl)) ?_
    refine XL_nil ?_
    kernel_rfl
   refine V_ret ?_
   obtain rfl := some_inj h
   show Post _ _ _ _ _
   exact ⟨.inr rfl, rfl, rfl, rfl⟩
theorem cf_impl_Character_value : ∀ args w, (callFunc 109 args).run Try.prog w = .ok (.enter 109 args) w := run_callFunc Try.func109 (by kernel_rfl) (by kernel_rfl)
set_option maxRecDepth 100000 in
set_option maxHeartbeats 400000 in
theorem s_impl_Character_value {x1 : (Int × Int)} {vn2 : Int} {r : Int} (h : r_impl_Character_value x1 vn2 = some r) : CallS Try.prog 109 [.ag [Ti x1.1, Ti x1.2], I vn2] (I r) [] := by
  refine CallS_of_text (rs := [.t 4]) (vs := [.tmp 4]) Try.func109 rfl rfl (.cons rfl FitsL.nil) (by decide) 32 rfl ?_
  unfold r_impl_Character_value at h
  show V _ _ ⟨.ag [Ti x1.1, Ti x1.2] :: I vn2 :: bt 30 [], []⟩ _
  refine V_sreg (mb 32 6) [16] (s1 := ⟨.bot :: I vn2 :: .pt 16 0 :: bt 29 [], [(16, .box [Ti x1.1, Ti x1.2])]⟩) ?_ ?_
  ·refine L1 rfl rfl (Y1_box (cs := [Ti x1.1, Ti x1.2]) rfl (by kernel_rfl)) ?_
   refine L0 rfl rfl (E_assign (I 0) rfl (by kernel_rfl)) ?_
   refine XL_nil ?_
   kernel_rfl
  refine V_seq ?_
  refine V_sreg (mb 32 262) [16] (s1 := ⟨.bot :: I vn2 :: .pt 16 0 :: bt 5 (Bo (eqI x1.1 1) :: bt 23 []), [(16, .box [Ti x1.1, Ti x1.2])]⟩) ?_ ?_
  ·refine L0 rfl rfl (E_field (.pt 16 0) Try.underlying94 rfl sz3 rfl (by kernel_rfl) (by intro hh; cases hh)) ?_
   refine L0 rfl rfl (Y0_load1 (c := Ti x1.1) (cs := [Ti x1.2]) sc3 rfl (by kernel_rfl)) ?_
   refine L0 rfl rfl (Y0_eqw (k := .i64) (a := x1.1) (b := 1) rfl (by kernel_rfl) (by kernel_rfl)) ?_
   refine XL_nil ?_
   kernel_rfl
  refine V_cond rfl (fun hc3 => ?_) (fun hc3 => ?_)
  ·have h := of_true h hc3
   obtain ⟨y4, hy4, h⟩ := of_bind h
   refine V_sreg (mb 32 16) [] (s1 := ⟨bt 4 (I y4 :: bt 27 []), []⟩) ?_ ?_
   ·refine L0 rfl rfl (E_move (I vn2) rfl (by kernel_rfl)) ?_
    refine L0 rfl rfl (E_field (.pt 16 1) Try.underlying94 rfl sz3 rfl (by kernel_rfl) (by intro hh; cases hh)) ?_
    refine L0 rfl rfl (Y0_load1 (c := Ti x1.2) (cs := []) sc3 rfl (by kernel_rfl)) ?_
    refine L1 rfl rfl (Y1_call (s_impl_jacobi hy4) cf_impl_jacobi rfl (by kernel_rfl)) ?_
    refine L0 rfl rfl (E_assign (I y4) rfl (by kernel_rfl)) ?_
    refine XL_nil ?_
    kernel_rfl
   refine V_ret ?_
   obtain rfl := some_inj h
   show Post _ _ _ _ _
   exact ⟨.inr rfl, rfl, rfl, rfl⟩
  ·have h := of_false h hc3
   refine V_skip ?_
   show V _ _ _ _
   refine V_seq ?_
   refine V_sreg (mb 32 32774) [16] (s1 := ⟨.bot :: I vn2 :: .pt 16 0 :: bt 12 (Bo (eqI (Int.tmod vn2 2) 0) :: bt 16 []), [(16, .box [Ti x1.1, Ti x1.2])]⟩) ?_ ?_
   ·refine L0 rfl rfl (E_move (I vn2) rfl (by kernel_rfl)) ?_
    refine L0 rfl rfl (Y0_rem (k := .i64) (a := vn2) (b := 2) rfl (by kernel_rfl) (by kernel_rfl) (by decide)) ?_
    refine L0 rfl rfl (Y0_eqw (k := .i64) (a := Int.tmod vn2 2) (b := 0) rfl (by kernel_rfl) (by kernel_rfl)) ?_
    refine XL_nil ?_
    kernel_rfl
   refine V_cond rfl (fun hc5 => ?_) (fun hc5 => ?_)
   ·have h := of_true h hc5
    refine V_sreg (mb 32 16) [] (s1 := ⟨bt 4 (I 0 :: bt 27 []), []⟩) ?_ ?_
    ·refine L0 rfl rfl (E_assign (I 0) rfl (by kernel_rfl)) ?_
     refine XL_nil ?_
     kernel_rfl
    refine V_ret ?_
    obtain rfl := some_inj h
    show Post _ _ _ _ _
    exact ⟨.inr rfl, rfl, rfl, rfl⟩
   ·have h := of_false h hc5
    refine V_skip ?_
    show V _ _ _ _
    obtain ⟨y6, hy6, h⟩ := of_bind h
    obtain ⟨delta7, hdelta7, h⟩ := of_sI h
    refine V_sreg (mb 32 38) [16] (s1 := ⟨.bot :: I vn2 :: .pt 16 0 :: .bot :: .bot :: I delta7 :: bt 26 [], [(16, .box [Ti x1.1, Ti x1.2])]⟩) ?_ ?_
    ·refine L0 rfl rfl (E_move (I vn2) rfl (by kernel_rfl)) ?_
     refine L1 rfl rfl (Y1_call (s_impl_mod hy6) cf_impl_mod rfl (by kernel_rfl)) ?_
     refine L0 rfl rfl (Y0_sub64 (a := 2) (b := y6) rfl (by kernel_rfl) (by kernel_rfl)) ?_
     refine L0 rfl rfl (E_assign (I (w64 (2 - y6))) rfl (by kernel_rfl)) ?_
     refine XL_nil ?_
     subst hdelta7
     kernel_rfl
    refine V_seq ?_
    refine V_sreg (mb 32 1048610) [] (s1 := ⟨.bot :: I vn2 :: bt 3 (I delta7 :: bt 14 (I x1.1 :: bt 11 [])), []⟩) ?_ ?_
    ·refine L0 rfl rfl (E_field (.pt 16 0) Try.underlying94 rfl sz3 rfl (by kernel_rfl) (by intro hh; cases hh)) ?_
     refine L0 rfl rfl (Y0_load1 (c := Ti x1.1) (cs := [Ti x1.2]) sc3 rfl (by kernel_rfl)) ?_
     refine XL_nil ?_
     kernel_rfl
    refine V_block ?_
    refine V_sreg (mb 32 3145762) [] (s1 := ⟨.bot :: I vn2 :: bt 3 (I delta7 :: bt 14 (I x1.1 :: Bo (eqI x1.1 2) :: bt 10 [])), []⟩) ?_ ?_
    ·refine L0 rfl rfl (Y0_eqw (k := .i64) (a := x1.1) (b := 2) rfl (by kernel_rfl) (by kernel_rfl)) ?_
     refine L0 rfl rfl (E_assign (Bo (eqI x1.1 2)) rfl (by kernel_rfl)) ?_
     refine XL_nil ?_
     kernel_rfl
    refine V_cond rfl (fun hc8 => ?_) (fun hc8 => ?_)
    ·have h := of_true h hc8
     refine V_sreg (mb 32 16) [] (s1 := ⟨bt 4 (I delta7 :: bt 27 []), []⟩) ?_ ?_
     ·refine L0 rfl rfl (E_move (I delta7) rfl (by kernel_rfl)) ?_
      refine L0 rfl rfl (E_assign (I delta7) rfl (by kernel_rfl)) ?_
      refine XL_nil ?_
      kernel_rfl
     refine V_ret ?_
     obtain rfl := some_inj h
     show Post _ _ _ _ _
     exact ⟨.inr rfl, rfl, rfl, rfl⟩
    ·have h := of_false h hc8
     refine V_sreg (mb 32 16777250) [] (s1 := ⟨.bot :: I vn2 :: bt 3 (I delta7 :: bt 18 (Bo (eqI x1.1 3) :: bt 7 [])), []⟩) ?_ ?_
     ·refine L0 rfl rfl (Y0_eqw (k := .i64) (a := x1.1) (b := 3) rfl (by kernel_rfl) (by kernel_rfl)) ?_
      refine L0 rfl rfl (E_assign (Bo (eqI x1.1 3)) rfl (by kernel_rfl)) ?_
      refine XL_nil ?_
      kernel_rfl
     refine V_cond rfl (fun hc9 => ?_) (fun hc9 => ?_)
     ·have h := of_true h hc9
      obtain ⟨y10, hy10, h⟩ := of_bind h
      refine V_sreg (mb 32 16) [] (s1 := ⟨bt 4 (I y10 :: bt 27 []), []⟩) ?_ ?_
      ·refine L0 rfl rfl (E_move (I vn2) rfl (by kernel_rfl)) ?_
       refine L1 rfl rfl (Y1_call (s_impl_symbolOfTwo hy10) cf_impl_symbolOfTwo rfl (by kernel_rfl)) ?_
       refine L0 rfl rfl (E_assign (I y10) rfl (by kernel_rfl)) ?_
       refine XL_nil ?_
       kernel_rfl
      refine V_ret ?_
      obtain rfl := some_inj h
      show Post _ _ _ _ _
      exact ⟨.inr rfl, rfl, rfl, rfl⟩
     ·have h := of_false h hc9
      refine V_skip ?_
      show V _ _ _ _
      obtain ⟨y11, hy11, h⟩ := of_bind h
      obtain ⟨t12, ht12, h⟩ := of_sI h
      refine V_sreg (mb 32 16) [] (s1 := ⟨bt 4 (I t12 :: bt 27 []), []⟩) ?_ ?_
      ·refine L0 rfl rfl (E_move (I delta7) rfl (by kernel_rfl)) ?_
       refine L0 rfl rfl (E_move (I vn2) rfl (by kernel_rfl)) ?_
       refine L1 rfl rfl (Y1_call (s_impl_symbolOfTwo hy11) cf_impl_symbolOfTwo rfl (by kernel_rfl)) ?_
       refine L0 rfl rfl (Y0_mul64 (a := delta7) (b := y11) rfl (by kernel_rfl) (by kernel_rfl)) ?_
       refine L0 rfl rfl (E_assign (I (w64 (delta7 * y11))) rfl (by kernel_rfl)) ?_
       refine XL_nil ?_
       subst ht12
       kernel_rfl
      refine V_ret ?_
      obtain rfl := some_inj h
      show Post _ _ _ _ _
      exact ⟨.inr rfl, rfl, rfl, rfl⟩
theorem cf_impl_valuesAt : ∀ args w, (callFunc 73 args).run Try.prog w = .ok (.enter 73 args) w := run_callFunc Try.func73 (by kernel_rfl) (by kernel_rfl)
set_option maxRecDepth 100000 in
set_option maxHeartbeats 400000 in
theorem s_impl_valuesAt {d1 : Int} {vn2 : Int} {r : List Int} (h : r_impl_valuesAt d1 vn2 = some r) : CallS Try.prog 73 [I d1, I vn2] (.ow 0) [(0, .arr 3 1 (r.map c3))] := by
  refine CallS_of_text (rs := [.t 4]) (vs := [.tmp 4]) Try.func73 rfl rfl (.cons rfl FitsL.nil) (by decide) 24 rfl ?_
  unfold r_impl_valuesAt at h
  show V _ _ ⟨I d1 :: I vn2 :: bt 22 [], []⟩ _
  refine V_sreg (mb 24 3) [] (s1 := ⟨I d1 :: I vn2 :: bt 22 [], []⟩) ?_ ?_
  ·refine L1 rfl rfl (Y1_nil (e := 3) 1 (by decide) (.inl rfl)) ?_
   refine XL_nil ?_
   kernel_rfl
  refine V_sreg (mb 24 35) [64] (s1 := ⟨I d1 :: I vn2 :: bt 3 (.ow 64 :: bt 18 []), [(64, .arr 3 1 ((([] : List Int)).map c3))]⟩) ?_ ?_
  ·refine L1 rfl rfl (Y1_bslice0 Try.underlying28 sz3 (by decide) rfl rfl) ?_
   refine L0 rfl rfl (E_assign (.ow 64) rfl (by kernel_rfl)) ?_
   refine XL_nil ?_
   kernel_rfl
  refine V_seq ?_
  obtain ⟨y3, hy3, h⟩ := of_bind h
  refine V_sreg (mb 24 7202) [80, 64] (s1 := ⟨.bot :: I vn2 :: bt 3 (.ow 64 :: bt 4 (.ow 80 :: I ((y3.length : Int)) :: I 0 :: bt 11 [])), [(80, .arr 94 2 (y3.map c94)), (64, .arr 3 1 ((([] : List Int)).map c3))]⟩) ?_ ?_
  ·refine L0 rfl rfl (E_move (I d1) rfl (by kernel_rfl)) ?_
   refine L1 rfl rfl (Y1_call (s_impl_assigned hy3) cf_impl_assigned rfl (by kernel_rfl)) ?_
   refine L0 rfl rfl (Y0_lenM (c := c94) (xs := y3) Try.underlying91 rfl (by kernel_rfl)) ?_
   refine L0 rfl rfl (E_move (I 0) rfl (by kernel_rfl)) ?_
   refine XL_nil ?_
   kernel_rfl
  obtain ⟨o7, hLo7, h⟩ := of_bind h
  refine V_toK (mb 24 32) [64] (s1 := ⟨bt 5 (.ow 64 :: bt 18 []), [(64, .arr 3 1 (o7.map c3))]⟩) ?_ ?_
  ·clear h
   refine V_block (V_loop (fun n s => ∃ (t4 : Int) (l5 : List Int), s.keep (mb 24 7202) [80, 64] = (⟨.bot :: I vn2 :: bt 3 (.ow 64 :: bt 4 (.ow 80 :: I ((y3.length : Int)) :: I t4 :: bt 11 [])), [(80, .arr 94 2 (y3.map c94)), (64, .arr 3 1 (l5.map c3))]⟩ : St) ∧ r_impl_valuesAt_L6 vn2 y3 n t4 l5 = some o7) FU ⟨_, _,  by rfl, hLo7⟩ ?_)
   clear hLo7
   rintro n s ⟨t4, l5, hs, h⟩
   refine V_keep _ _ hs ?_
   clear hs
   cases n with
   | zero => cases h
   | succ n =>
    rw [r_impl_valuesAt_L6] at h
    refine V_sreg (mb 24 15394) [80, 64] (s1 := ⟨.bot :: I vn2 :: bt 3 (.ow 64 :: bt 4 (.ow 80 :: I ((y3.length : Int)) :: I t4 :: Bo (ltI t4 ((y3.length : Int))) :: bt 10 [])), [(80, .arr 94 2 (y3.map c94)), (64, .arr 3 1 (l5.map c3))]⟩) ?_ ?_
    ·refine L0 rfl rfl (Y0_ltw (k := .i64) (a := t4) (b := (y3.length : Int)) rfl (by kernel_rfl) (by kernel_rfl)) ?_
     refine XL_nil ?_
     kernel_rfl
    refine V_seq ?_
    refine V_cond rfl (fun hc8 => ?_) (fun hc8 => ?_)
    ·have h := of_true h hc8
     refine V_skip ?_
     show V _ _ _ _
     refine V_seq ?_
     refine V_block ?_
     obtain ⟨e9, he9, h⟩ := of_bind h
     obtain ⟨e10, he10, h⟩ := of_bind h
     refine V_sreg (mb 24 7330) [56, 80, 64] (s1 := ⟨.bot :: I vn2 :: bt 3 (.ow 64 :: .bot :: .pt 56 0 :: .bot :: .bot :: .ow 80 :: I ((y3.length : Int)) :: I t4 :: bt 11 []), [(56, .box [Ti e10.1, Ti e10.2]), (80, .arr 94 2 (y3.map c94)), (64, .arr 3 1 (l5.map c3))]⟩) ?_ ?_
     ·refine L0 rfl rfl (Y0_idxoM (c := c94) (xs := y3) (v := e9) (id := 80) (T := 94) (sz := 2) (n := t4) Try.underlying91 sz94 rfl (by kernel_rfl) (by kernel_rfl) (by kernel_rfl) he9) ?_
      refine L0 rfl rfl (E_loadon (c := c94) (xs := y3) (v := e10) (id := 80) (sz := 2) (T := 94) (off := 0) (n := t4) [Ti e10.1, Ti e10.2] wd94 rfl (by kernel_rfl) (by kernel_rfl) he10 (Nat.le_of_ble_eq_true rfl) (by kernel_rfl)) ?_
      refine L1 rfl rfl (Y1_alloc (z := zv94) rfl zf94 rfl) ?_
      refine XL_cons rfl (E_store (id := 56) (off := 0) (cs := [Ti 0, Ti 0]) (vc := [Ti e10.1, Ti e10.2]) [Ti e10.1, Ti e10.2] rfl rfl (by kernel_rfl) (by kernel_rfl) (by kernel_rfl) sz94 (Nat.le_of_ble_eq_true rfl) (by kernel_rfl)) ?_
      refine XL_nil ?_
      kernel_rfl
     obtain ⟨y11, hy11, h⟩ := of_bind h
     obtain ⟨u12, hu12, h⟩ := of_bind h
     refine V_reg (mb 24 7202) [80, 64] (s1 := ⟨.bot :: I vn2 :: bt 3 (.ow 64 :: bt 4 (.ow 80 :: I ((y3.length : Int)) :: I t4 :: bt 11 [])), [(80, .arr 94 2 (y3.map c94)), (64, .arr 3 1 ((l5 ++ ([y11])).map c3))]⟩) ?_ ?_
     ·refine L0 rfl rfl (E_move (.ow 64) rfl (by kernel_rfl)) ?_
      refine L0 rfl rfl (E_loadn (cs := [Ti e10.1, Ti e10.2]) [Ti e10.1, Ti e10.2] wd94 rfl (by kernel_rfl) (Nat.le_of_ble_eq_true rfl) (by kernel_rfl)) ?_
      refine L0 rfl rfl (E_move (I vn2) rfl (by kernel_rfl)) ?_
      refine L1 rfl rfl (Y1_call (s_impl_Character_value hy11) cf_impl_Character_value rfl (by kernel_rfl)) ?_
      refine L1 rfl rfl (Y1_bslice (z := zv3) (els := [y11].map c3) Try.underlying28 iz3 rfl (by decide) rfl (by kernel_rfl) rfl (by simp [c3]) (by decide) (by decide)) ?_
      refine XL_cons rfl (X_appendM (c := c3) (xs := l5) (ys := [y11]) (id := 64) (z := zv3) rfl rfl Try.underlying28 izb3 rfl (by kernel_rfl) (by kernel_rfl) (by kernel_rfl) (fun _ => rfl) (by simp) (room_some hu12) (by decide)) ?_
      refine L0 rfl rfl (E_assign (.ow 64) rfl (by kernel_rfl)) ?_
      refine XL_nil ?_
      kernel_rfl
     show V _ _ _ _
     obtain ⟨t13, ht13, h⟩ := of_sI h
     refine V_reg (mb 24 7202) [80, 64] (s1 := ⟨.bot :: I vn2 :: bt 3 (.ow 64 :: bt 4 (.ow 80 :: I ((y3.length : Int)) :: I t13 :: bt 11 [])), [(80, .arr 94 2 (y3.map c94)), (64, .arr 3 1 ((l5 ++ ([y11])).map c3))]⟩) ?_ ?_
     ·refine L0 rfl rfl (Y0_add64 (a := t4) (b := 1) rfl (by kernel_rfl) (by kernel_rfl)) ?_
      refine L0 rfl rfl (E_move (I (w64 (t4 + 1))) rfl (by kernel_rfl)) ?_
      refine XL_nil ?_
      subst ht13
      kernel_rfl
     exact ⟨n, Nat.lt_succ_self n, _, _,  by rfl, h⟩
    ·have h := of_false h hc8
     refine V_exit ?_
     obtain rfl := some_inj h
     show St.keep _ _ _ = _
     rfl
  show V _ _ _ _
  refine V_sreg (mb 24 16) [64] (s1 := ⟨bt 4 (.ow 64 :: bt 19 []), [(64, .arr 3 1 (o7.map c3))]⟩) ?_ ?_
  ·refine L0 rfl rfl (E_move (.ow 64) rfl (by kernel_rfl)) ?_
   refine L0 rfl rfl (E_assign (.ow 64) rfl (by kernel_rfl)) ?_
   refine XL_nil ?_
   kernel_rfl
  refine V_ret ?_
  obtain rfl := some_inj h
  show Post _ _ _ _ _
  exact ⟨.inr rfl, rfl, rfl, rfl⟩
theorem cf_impl_ValuesAt : ∀ args w, (callFunc 31 args).run Try.prog w = .ok (.enter 31 args) w := run_callFunc Try.func31 (by kernel_rfl) (by kernel_rfl)
set_option maxRecDepth 100000 in
set_option maxHeartbeats 400000 in
theorem s_impl_ValuesAt {d1 : Int} {vn2 : Int} {r : ((List Int) × Bool)} (h : r_impl_ValuesAt d1 vn2 = some r) : CallS Try.prog 31 [I d1, I vn2] (.tc (.ow 0) (.tc (Bo r.2) .tn)) [(0, .arr 3 1 (r.1.map c3))] := by
  refine CallS_of_text (rs := [.t 4, .t 5]) (vs := [.tmp 4, .tmp 5]) Try.func31 rfl rfl (.cons rfl (.cons rfl FitsL.nil)) (by decide) 26 rfl ?_
  unfold r_impl_ValuesAt at h
  show V _ _ ⟨I d1 :: I vn2 :: bt 24 [], []⟩ _
  refine V_sreg (mb 26 3) [] (s1 := ⟨I d1 :: I vn2 :: bt 24 [], []⟩) ?_ ?_
  ·refine L1 rfl rfl (Y1_nil (e := 3) 1 (by decide) (.inl rfl)) ?_
   refine L0 rfl rfl (E_assign (Bo false) rfl (by kernel_rfl)) ?_
   refine XL_nil ?_
   kernel_rfl
  refine V_seq ?_
  obtain ⟨y3, hy3, h⟩ := of_bind h
  obtain ⟨b6, hb6, h⟩ := of_bind h
  obtain ⟨b9, hb9, h⟩ := of_bind h
  refine V_sreg (mb 26 2097155) [] (s1 := ⟨I d1 :: I vn2 :: bt 19 (Bo b9 :: bt 4 []), []⟩) ?_ ?_
  ·refine L0 rfl rfl (E_move (I d1) rfl (by kernel_rfl)) ?_
   refine L1 rfl rfl (Y1_call (s_impl_isNegativeDisc hy3) cf_impl_isNegativeDisc rfl (by kernel_rfl)) ?_
   refine L0 rfl rfl (Y0_not (b := y3) rfl (by kernel_rfl)) ?_
   refine L0 rfl rfl (E_move (Bo (!y3)) rfl (by kernel_rfl)) ?_
   refine XL_split (!y3) (fun hc4 => ?_) (fun hc4 => ?_)
   ·have hb6 := some_inj (of_true hb6 hc4)
    refine XL_skipF _ rfl rfl (by kernel_rfl) hc4 rfl ?_
    refine XL_skipF _ rfl rfl (by kernel_rfl) hc4 rfl ?_
    refine XL_skipF _ rfl rfl (by kernel_rfl) hc4 rfl ?_
    refine XL_skipF _ rfl rfl (by kernel_rfl) hc4 rfl ?_
    refine XL_cons rfl (X_of_Y0 rfl (Y0_pickTe (b := !y3) (p := true) rfl (by kernel_rfl) hc4 (by kernel_rfl) hb6)) ?_
    refine L0 rfl rfl (E_move (Bo b6) rfl (by kernel_rfl)) ?_
    refine XL_split b6 (fun hc7 => ?_) (fun hc7 => ?_)
    ·have hb9 := some_inj (of_true hb9 hc7)
     refine XL_skipF _ rfl rfl (by kernel_rfl) hc7 rfl ?_
     refine XL_skipF _ rfl rfl (by kernel_rfl) hc7 rfl ?_
     refine XL_skipF _ rfl rfl (by kernel_rfl) hc7 rfl ?_
     refine XL_skipF _ rfl rfl (by kernel_rfl) hc7 rfl ?_
     refine XL_skipF _ rfl rfl (by kernel_rfl) hc7 rfl ?_
     refine XL_cons rfl (X_of_Y0 rfl (Y0_pickTe (b := b6) (p := true) rfl (by kernel_rfl) hc7 (by kernel_rfl) hb9)) ?_
     refine XL_nil ?_
     kernel_rfl
    ·have hb9 := of_false hb9 hc7
     obtain ⟨y8, hy8, hb9⟩ := of_bind hb9
     have hb9 := some_inj hb9
     refine XL_takeC _ rfl rfl (by kernel_rfl) hc7 (X_of_Y0 rfl (E_move (I vn2) rfl (by kernel_rfl))) ?_
     refine XL_takeC _ rfl rfl (by kernel_rfl) hc7 (X_of_Y0 rfl (E_move (I d1) rfl (by kernel_rfl))) ?_
     refine XL_takeC _ rfl rfl (by kernel_rfl) hc7 (X_of_Y0 rfl (Y0_mul64 (a := 2) (b := d1) rfl (by kernel_rfl) (by kernel_rfl))) ?_
     refine XL_takeC _ rfl rfl (by kernel_rfl) hc7 (X_of_Y1 rfl (Y1_call (s_impl_gcd hy8) cf_impl_gcd rfl (by kernel_rfl))) ?_
     refine XL_takeC _ rfl rfl (by kernel_rfl) hc7 (X_of_Y0 rfl (Y0_new (k := .i64) (a := y8) (b := 1) rfl (by kernel_rfl) (by kernel_rfl))) ?_
     refine XL_cons rfl (X_of_Y0 rfl (Y0_pickFe (b := b6) (p := !eqI y8 1) rfl (by kernel_rfl) hc7 (by kernel_rfl) hb9)) ?_
     refine XL_nil ?_
     kernel_rfl
   ·have hb6 := of_false hb6 hc4
    obtain ⟨y5, hy5, hb6⟩ := of_bind hb6
    have hb6 := some_inj hb6
    refine XL_takeC _ rfl rfl (by kernel_rfl) hc4 (X_of_Y0 rfl (E_move (I vn2) rfl (by kernel_rfl))) ?_
    refine XL_takeC _ rfl rfl (by kernel_rfl) hc4 (X_of_Y1 rfl (Y1_bslice (z := zv3) (els := [vn2].map c3) Try.underlying28 iz3 rfl (by decide) rfl (by kernel_rfl) rfl (by simp [c3]) (by decide) (by decide))) ?_
    refine XL_takeC _ rfl rfl (by kernel_rfl) hc4 (X_of_Y1 rfl (Y1_callS (s_impl_areNumbers hy5) cf_impl_areNumbers rfl (by kernel_rfl) rfl rfl)) ?_
    refine XL_takeC _ rfl rfl (by kernel_rfl) hc4 (X_of_Y0 rfl (Y0_not (b := y5) rfl (by kernel_rfl))) ?_
    refine XL_cons rfl (X_of_Y0 rfl (Y0_pickFe (b := !y3) (p := !y5) rfl (by kernel_rfl) hc4 (by kernel_rfl) hb6)) ?_
    refine L0 rfl rfl (E_move (Bo b6) rfl (by kernel_rfl)) ?_
    refine XL_split b6 (fun hc7 => ?_) (fun hc7 => ?_)
    ·have hb9 := some_inj (of_true hb9 hc7)
     refine XL_skipF _ rfl rfl (by kernel_rfl) hc7 rfl ?_
     refine XL_skipF _ rfl rfl (by kernel_rfl) hc7 rfl ?_
     refine XL_skipF _ rfl rfl (by kernel_rfl) hc7 rfl ?_
     refine XL_skipF _ rfl rfl (by kernel_rfl) hc7 rfl ?_
     refine XL_skipF _ rfl rfl (by kernel_rfl) hc7 rfl ?_
     refine XL_cons rfl (X_of_Y0 rfl (Y0_pickTe (b := b6) (p := true) rfl (by kernel_rfl) hc7 (by kernel_rfl) hb9)) ?_
     refine XL_nil ?_
     kernel_rfl
    ·have hb9 := of_false hb9 hc7
     obtain ⟨y8, hy8, hb9⟩ := of_bind hb9
     have hb9 := some_inj hb9
     refine XL_takeC _ rfl rfl (by kernel_rfl) hc7 (X_of_Y0 rfl (E_move (I vn2) rfl (by kernel_rfl))) ?_
     refine XL_takeC _ rfl rfl (by kernel_rfl) hc7 (X_of_Y0 rfl (E_move (I d1) rfl (by kernel_rfl))) ?_
     refine XL_takeC _ rfl rfl (by kernel_rfl) hc7 (X_of_Y0 rfl (Y0_mul64 (a := 2) (b := d1) rfl (by kernel_rfl) (by kernel_rfl))) ?_
     refine XL_takeC _ rfl rfl (by kernel_rfl) hc7 (X_of_Y1 rfl (Y1_call (s_impl_gcd hy8) cf_impl_gcd rfl (by kernel_rfl))) ?_
     refine XL_takeC _ rfl rfl (by kernel_rfl) hc7 (X_of_Y0 rfl (Y0_new (k := .i64) (a := y8) (b := 1) rfl (by kernel_rfl) (by kernel_rfl))) ?_
     refine XL_cons rfl (X_of_Y0 rfl (Y0_pickFe (b := b6) (p := !eqI y8 1) rfl (by kernel_rfl) hc7 (by kernel_rfl) hb9)) ?_
     refine XL_nil ?_
     kernel_rfl
  refine V_cond rfl (fun hc10 => ?_) (fun hc10 => ?_)
  ·have h := of_true h hc10
   refine V_sreg (mb 26 48) [176] (s1 := ⟨bt 4 (.ow 176 :: Bo false :: bt 20 []), [(176, .arr 3 1 ((([] : List Int)).map c3))]⟩) ?_ ?_
   ·refine L1 rfl rfl (Y1_bslice0 Try.underlying28 sz3 (by decide) rfl rfl) ?_
    refine L0 rfl rfl (E_assign (.ow 176) rfl (by kernel_rfl)) ?_
    refine L0 rfl rfl (E_assign (Bo false) rfl (by kernel_rfl)) ?_
    refine XL_nil ?_
    kernel_rfl
   refine V_ret ?_
   obtain rfl := some_inj h
   show Post _ _ _ _ _
   exact ⟨.inr rfl, rfl, rfl, rfl⟩
  ·have h := of_false h hc10
   refine V_skip ?_
   show V _ _ _ _
   obtain ⟨y11, hy11, h⟩ := of_bind h
   refine V_sreg (mb 26 48) [200] (s1 := ⟨bt 4 (.ow 200 :: Bo true :: bt 20 []), [(200, .arr 3 1 (y11.map c3))]⟩) ?_ ?_
   ·refine L0 rfl rfl (E_move (I d1) rfl (by kernel_rfl)) ?_
    refine L0 rfl rfl (E_move (I vn2) rfl (by kernel_rfl)) ?_
    refine L1 rfl rfl (Y1_call (s_impl_valuesAt hy11) cf_impl_valuesAt rfl (by kernel_rfl)) ?_
    refine L0 rfl rfl (E_assign (.ow 200) rfl (by kernel_rfl)) ?_
    refine L0 rfl rfl (E_assign (Bo true) rfl (by kernel_rfl)) ?_
    refine XL_nil ?_
    kernel_rfl
   refine V_ret ?_
   obtain rfl := some_inj h
   show Post _ _ _ _ _
   exact ⟨.inr rfl, rfl, rfl, rfl⟩
theorem cf_spec_chPrime : ∀ args w, (callFunc 74 args).run Try.prog w = .ok (.enter 74 args) w := run_callFunc Try.func74 (by kernel_rfl) (by kernel_rfl)
set_option maxRecDepth 100000 in
set_option maxHeartbeats 400000 in
theorem s_spec_chPrime {d1 : Int} {vn2 : Int} {r : Bool} (h : r_spec_chPrime d1 vn2 = some r) : CallS Try.prog 74 [I d1, I vn2] (Bo r) [] := by
  refine CallS_of_text (rs := [.t 4]) (vs := [.tmp 4]) Try.func74 rfl rfl (.cons rfl FitsL.nil) (by decide) 18 rfl ?_
  unfold r_spec_chPrime at h
  show V _ _ ⟨I d1 :: I vn2 :: bt 16 [], []⟩ _
  refine V_sreg (mb 18 3) [] (s1 := ⟨I d1 :: I vn2 :: bt 16 [], []⟩) ?_ ?_
  ·refine L0 rfl rfl (E_assign (Bo false) rfl (by kernel_rfl)) ?_
   refine XL_nil ?_
   kernel_rfl
  obtain ⟨y3, hy3, h⟩ := of_bind h
  obtain ⟨b6, hb6, h⟩ := of_bind h
  obtain ⟨b9, hb9, h⟩ := of_bind h
  refine V_sreg (mb 18 16) [] (s1 := ⟨bt 4 (Bo b9 :: bt 13 []), []⟩) ?_ ?_
  ·refine L0 rfl rfl (E_move (I d1) rfl (by kernel_rfl)) ?_
   refine L1 rfl rfl (Y1_call (s_spec_reDisc hy3) cf_spec_reDisc rfl (by kernel_rfl)) ?_
   refine L0 rfl rfl (E_move (Bo y3) rfl (by kernel_rfl)) ?_
   refine XL_split y3 (fun hc4 => ?_) (fun hc4 => ?_)
   ·have hb6 := of_true hb6 hc4
    obtain ⟨y5, hy5, hb6⟩ := of_bind hb6
    have hb6 := some_inj hb6
    refine XL_takeC _ rfl rfl (by kernel_rfl) hc4 (X_of_Y0 rfl (E_move (I vn2) rfl (by kernel_rfl))) ?_
    refine XL_takeC _ rfl rfl (by kernel_rfl) hc4 (X_of_Y1 rfl (Y1_call (s_spec_nuGood hy5) cf_spec_nuGood rfl (by kernel_rfl))) ?_
    refine XL_cons rfl (X_of_Y0 rfl (Y0_pickTe (b := y3) (p := y5) rfl (by kernel_rfl) hc4 (by kernel_rfl) hb6)) ?_
    refine L0 rfl rfl (E_move (Bo b6) rfl (by kernel_rfl)) ?_
    refine XL_split b6 (fun hc7 => ?_) (fun hc7 => ?_)
    ·have hb9 := of_true hb9 hc7
     obtain ⟨y8, hy8, hb9⟩ := of_bind hb9
     have hb9 := some_inj hb9
     refine XL_takeC _ rfl rfl (by kernel_rfl) hc7 (X_of_Y0 rfl (E_move (I vn2) rfl (by kernel_rfl))) ?_
     refine XL_takeC _ rfl rfl (by kernel_rfl) hc7 (X_of_Y0 rfl (E_move (I d1) rfl (by kernel_rfl))) ?_
     refine XL_takeC _ rfl rfl (by kernel_rfl) hc7 (X_of_Y0 rfl (Y0_mul64 (a := 2) (b := d1) rfl (by kernel_rfl) (by kernel_rfl))) ?_
     refine XL_takeC _ rfl rfl (by kernel_rfl) hc7 (X_of_Y1 rfl (Y1_call (s_spec_nuGcd hy8) cf_spec_nuGcd rfl (by kernel_rfl))) ?_
     refine XL_takeC _ rfl rfl (by kernel_rfl) hc7 (X_of_Y0 rfl (Y0_eqw (k := .i64) (a := y8) (b := 1) rfl (by kernel_rfl) (by kernel_rfl))) ?_
     refine XL_cons rfl (X_of_Y0 rfl (Y0_pickTe (b := b6) (p := eqI y8 1) rfl (by kernel_rfl) hc7 (by kernel_rfl) hb9)) ?_
     refine L0 rfl rfl (E_assign (Bo b9) rfl (by kernel_rfl)) ?_
     refine XL_nil ?_
     kernel_rfl
    ·have hb9 := some_inj (of_false hb9 hc7)
     refine XL_skipT _ rfl rfl (by kernel_rfl) hc7 rfl ?_
     refine XL_skipT _ rfl rfl (by kernel_rfl) hc7 rfl ?_
     refine XL_skipT _ rfl rfl (by kernel_rfl) hc7 rfl ?_
     refine XL_skipT _ rfl rfl (by kernel_rfl) hc7 rfl ?_
     refine XL_skipT _ rfl rfl (by kernel_rfl) hc7 rfl ?_
     refine XL_cons rfl (X_of_Y0 rfl (Y0_pickFe (b := b6) (p := false) rfl (by kernel_rfl) hc7 (by kernel_rfl) hb9)) ?_
     refine L0 rfl rfl (E_assign (Bo b9) rfl (by kernel_rfl)) ?_
     refine XL_nil ?_
     kernel_rfl
   ·have hb6 := some_inj (of_false hb6 hc4)
    refine XL_skipT _ rfl rfl (by kernel_rfl) hc4 rfl ?_
    refine XL_skipT _ rfl rfl (by kernel_rfl) hc4 rfl ?_
    refine XL_cons rfl (X_of_Y0 rfl (Y0_pickFe (b := y3) (p := false) rfl (by kernel_rfl) hc4 (by kernel_rfl) hb6)) ?_
    refine L0 rfl rfl (E_move (Bo b6) rfl (by kernel_rfl)) ?_
    refine XL_split b6 (fun hc7 => ?_) (fun hc7 => ?_)
    ·have hb9 := of_true hb9 hc7
     obtain ⟨y8, hy8, hb9⟩ := of_bind hb9
     have hb9 := some_inj hb9
     refine XL_takeC _ rfl rfl (by kernel_rfl) hc7 (X_of_Y0 rfl (E_move (I vn2) rfl (by kernel_rfl))) ?_
     refine XL_takeC _ rfl rfl (by kernel_rfl) hc7 (X_of_Y0 rfl (E_move (I d1) rfl (by kernel_rfl))) ?_
     refine XL_takeC _ rfl rfl (by kernel_rfl) hc7 (X_of_Y0 rfl (Y0_mul64 (a := 2) (b := d1) rfl (by kernel_rfl) (by kernel_rfl))) ?_
     refine XL_takeC _ rfl rfl (by kernel_rfl) hc7 (X_of_Y1 rfl (Y1_call (s_spec_nuGcd hy8) cf_spec_nuGcd rfl (by kernel_rfl))) ?_
     refine XL_takeC _ rfl rfl (by kernel_rfl) hc7 (X_of_Y0 rfl (Y0_eqw (k := .i64) (a := y8) (b := 1) rfl (by kernel_rfl) (by kernel_rfl))) ?_
     refine XL_cons rfl (X_of_Y0 rfl (Y0_pickTe (b := b6) (p := eqI y8 1) rfl (by kernel_rfl) hc7 (by kernel_rfl) hb9)) ?_
     refine L0 rfl rfl (E_assign (Bo b9) rfl (by kernel_rfl)) ?_
     refine XL_nil ?_
     kernel_rfl
    ·have hb9 := some_inj (of_false hb9 hc7)
     refine XL_skipT _ rfl rfl (by kernel_rfl) hc7 rfl ?_
     refine XL_skipT _ rfl rfl (by kernel_rfl) hc7 rfl ?_
     refine XL_skipT _ rfl rfl (by kernel_rfl) hc7 rfl ?_
     refine XL_skipT _ rfl rfl (by kernel_rfl) hc7 rfl ?_
     refine XL_skipT _ rfl rfl (by kernel_rfl) hc7 rfl ?_
     refine XL_cons rfl (X_of_Y0 rfl (Y0_pickFe (b := b6) (p := false) rfl (by kernel_rfl) hc7 (by kernel_rfl) hb9)) ?_
     refine L0 rfl rfl (E_assign (Bo b9) rfl (by kernel_rfl)) ?_
     refine XL_nil ?_
     kernel_rfl
  refine V_ret ?_
  obtain rfl := some_inj h
  show Post _ _ _ _ _
  exact ⟨.inr rfl, rfl, rfl, rfl⟩
theorem cf_spec_nuFactors : ∀ args w, (callFunc 140 args).run Try.prog w = .ok (.enter 140 args) w := run_callFunc Try.func140 (by kernel_rfl) (by kernel_rfl)
set_option maxRecDepth 100000 in
set_option maxHeartbeats 400000 in
theorem s_spec_nuFactors {vn1 : Int} {r : List Int} (h : r_spec_nuFactors vn1 = some r) : CallS Try.prog 140 [I vn1] (.ow 0) [(0, .arr 3 1 (r.map c3))] := by
  refine CallS_of_text (rs := [.t 2]) (vs := [.tmp 2]) Try.func140 rfl rfl (.cons rfl FitsL.nil) (by decide) 30 rfl ?_
  unfold r_spec_nuFactors at h
  show V _ _ ⟨I vn1 :: bt 29 [], []⟩ _
  refine V_sreg (mb 30 1) [] (s1 := ⟨I vn1 :: bt 29 [], []⟩) ?_ ?_
  ·refine L1 rfl rfl (Y1_nil (e := 3) 1 (by decide) (.inl rfl)) ?_
   refine XL_nil ?_
   kernel_rfl
  refine V_sreg (mb 30 9) [24] (s1 := ⟨I vn1 :: .bot :: .bot :: .ow 24 :: bt 26 [], [(24, .arr 3 1 ((([] : List Int)).map c3))]⟩) ?_ ?_
  ·refine L1 rfl rfl (Y1_nil (e := 3) 1 (by decide) (.inl rfl)) ?_
   refine XL_nil ?_
   kernel_rfl
  refine V_seq ?_
  refine V_sreg (mb 30 25) [24] (s1 := ⟨I vn1 :: .bot :: .bot :: .ow 24 :: I 2 :: bt 25 [], [(24, .arr 3 1 ((([] : List Int)).map c3))]⟩) ?_ ?_
  ·refine L0 rfl rfl (E_assign (I 2) rfl (by kernel_rfl)) ?_
   refine XL_nil ?_
   kernel_rfl
  obtain ⟨o6, hLo6, h⟩ := of_bind h
  refine V_toK (mb 30 9) [24] (s1 := ⟨I o6.1 :: .bot :: .bot :: .ow 24 :: bt 26 [], [(24, .arr 3 1 (o6.2.map c3))]⟩) ?_ ?_
  ·clear h
   refine V_block (V_loop (fun n s => ∃ (vn2 : Int) (d3 : Int) (l4 : List Int), s.keep (mb 30 25) [24] = (⟨I vn2 :: .bot :: .bot :: .ow 24 :: I d3 :: bt 25 [], [(24, .arr 3 1 (l4.map c3))]⟩ : St) ∧ r_spec_nuFactors_L5 n vn2 d3 l4 = some o6) FU ⟨_, _, _,  by rfl, hLo6⟩ ?_)
   clear hLo6
   rintro n s ⟨vn2, d3, l4, hs, h⟩
   refine V_keep _ _ hs ?_
   clear hs
   cases n with
   | zero => cases h
   | succ n =>
    rw [r_spec_nuFactors_L5] at h
    refine V_seq ?_
    refine V_sreg (mb 30 537) [24] (s1 := ⟨I vn2 :: .bot :: .bot :: .ow 24 :: I d3 :: bt 4 (Bo (leI (w64 (d3 * d3)) vn2) :: bt 20 []), [(24, .arr 3 1 (l4.map c3))]⟩) ?_ ?_
    ·refine L0 rfl rfl (E_move (I d3) rfl (by kernel_rfl)) ?_
     refine L0 rfl rfl (E_move (I d3) rfl (by kernel_rfl)) ?_
     refine L0 rfl rfl (Y0_mul64 (a := d3) (b := d3) rfl (by kernel_rfl) (by kernel_rfl)) ?_
     refine L0 rfl rfl (E_move (I vn2) rfl (by kernel_rfl)) ?_
     refine L0 rfl rfl (Y0_lew (k := .i64) (a := w64 (d3 * d3)) (b := vn2) rfl (by kernel_rfl) (by kernel_rfl)) ?_
     refine XL_nil ?_
     kernel_rfl
    refine V_cond rfl (fun hc7 => ?_) (fun hc7 => ?_)
    ·have h := of_true h hc7
     refine V_skip ?_
     show V _ _ _ _
     refine V_seq ?_
     refine V_block ?_
     obtain ⟨o11, hLo11, h⟩ := of_bind h
     refine V_toK (mb 30 25) [24] (s1 := ⟨I o11.1 :: .bot :: .bot :: .ow 24 :: I d3 :: bt 25 [], [(24, .arr 3 1 (o11.2.map c3))]⟩) ?_ ?_
     ·clear h
      refine V_block (V_loop (fun n s => ∃ (vn8 : Int) (l9 : List Int), s.keep (mb 30 25) [24] = (⟨I vn8 :: .bot :: .bot :: .ow 24 :: I d3 :: bt 25 [], [(24, .arr 3 1 (l9.map c3))]⟩ : St) ∧ r_spec_nuFactors_L10 d3 n vn8 l9 = some o11) FU ⟨_, _,  by rfl, hLo11⟩ ?_)
      clear hLo11
      rintro n s ⟨vn8, l9, hs, h⟩
      refine V_keep _ _ hs ?_
      clear hs
      cases n with
      | zero => cases h
      | succ n =>
       rw [r_spec_nuFactors_L10] at h
       refine V_seq ?_
       obtain ⟨z12, hz12, h⟩ := of_bind h
       refine V_sreg (mb 30 32793) [24] (s1 := ⟨I vn8 :: .bot :: .bot :: .ow 24 :: I d3 :: bt 10 (Bo (eqI (Int.tmod vn8 d3) 0) :: bt 14 []), [(24, .arr 3 1 (l9.map c3))]⟩) ?_ ?_
       ·refine L0 rfl rfl (E_move (I vn8) rfl (by kernel_rfl)) ?_
        refine L0 rfl rfl (E_move (I d3) rfl (by kernel_rfl)) ?_
        refine L0 rfl rfl (Y0_rem (k := .i64) (a := vn8) (b := d3) rfl (by kernel_rfl) (by kernel_rfl) (nz_some hz12)) ?_
        refine L0 rfl rfl (Y0_eqw (k := .i64) (a := Int.tmod vn8 d3) (b := 0) rfl (by kernel_rfl) (by kernel_rfl)) ?_
        refine XL_nil ?_
        kernel_rfl
       refine V_cond rfl (fun hc13 => ?_) (fun hc13 => ?_)
       ·have h := of_true h hc13
        refine V_skip ?_
        show V _ _ _ _
        refine V_block ?_
        obtain ⟨u14, hu14, h⟩ := of_bind h
        refine V_sreg (mb 30 25) [24] (s1 := ⟨I vn8 :: .bot :: .bot :: .ow 24 :: I d3 :: bt 25 [], [(24, .arr 3 1 ((l9 ++ ([d3])).map c3))]⟩) ?_ ?_
        ·refine L0 rfl rfl (E_move (.ow 24) rfl (by kernel_rfl)) ?_
         refine L0 rfl rfl (E_move (I d3) rfl (by kernel_rfl)) ?_
         refine L1 rfl rfl (Y1_bslice (z := zv3) (els := [d3].map c3) Try.underlying28 iz3 rfl (by decide) rfl (by kernel_rfl) rfl (by simp [c3]) (by decide) (by decide)) ?_
         refine XL_cons rfl (X_appendM (c := c3) (xs := l9) (ys := [d3]) (id := 24) (z := zv3) rfl rfl Try.underlying28 izb3 rfl (by kernel_rfl) (by kernel_rfl) (by kernel_rfl) (fun _ => rfl) (by simp) (room_some hu14) (by decide)) ?_
         refine L0 rfl rfl (E_assign (.ow 24) rfl (by kernel_rfl)) ?_
         refine XL_nil ?_
         kernel_rfl
        obtain ⟨z15, hz15, h⟩ := of_bind h
        obtain ⟨vn16, hvn16, h⟩ := of_sI h
        refine V_reg (mb 30 25) [24] (s1 := ⟨I vn16 :: .bot :: .bot :: .ow 24 :: I d3 :: bt 25 [], [(24, .arr 3 1 ((l9 ++ ([d3])).map c3))]⟩) ?_ ?_
        ·refine L0 rfl rfl (E_move (I vn8) rfl (by kernel_rfl)) ?_
         refine L0 rfl rfl (E_move (I d3) rfl (by kernel_rfl)) ?_
         refine L0 rfl rfl (Y0_quo64 (a := vn8) (b := d3) rfl (by kernel_rfl) (by kernel_rfl) (nz_some hz15)) ?_
         refine L0 rfl rfl (E_assign (I (w64 (Int.tdiv vn8 d3))) rfl (by kernel_rfl)) ?_
         refine XL_nil ?_
         subst hvn16
         kernel_rfl
        exact ⟨n, Nat.lt_succ_self n, _, _,  by rfl, h⟩
       ·have h := of_false h hc13
        refine V_exit ?_
        obtain rfl := some_inj h
        show St.keep _ _ _ = _
        rfl
     show V _ _ _ _
     obtain ⟨d17, hd17, h⟩ := of_sI h
     refine V_reg (mb 30 25) [24] (s1 := ⟨I o11.1 :: .bot :: .bot :: .ow 24 :: I d17 :: bt 25 [], [(24, .arr 3 1 (o11.2.map c3))]⟩) ?_ ?_
     ·refine L0 rfl rfl (E_move (I d3) rfl (by kernel_rfl)) ?_
      refine L0 rfl rfl (Y0_add64 (a := d3) (b := 1) rfl (by kernel_rfl) (by kernel_rfl)) ?_
      refine L0 rfl rfl (E_assign (I (w64 (d3 + 1))) rfl (by kernel_rfl)) ?_
      refine XL_nil ?_
      subst hd17
      kernel_rfl
     exact ⟨n, Nat.lt_succ_self n, _, _, _,  by rfl, h⟩
    ·have h := of_false h hc7
     refine V_exit ?_
     obtain rfl := some_inj h
     show St.keep _ _ _ = _
     rfl
  show V _ _ _ _
  refine V_seq ?_
  refine V_sreg (mb 30 16777225) [24] (s1 := ⟨I o6.1 :: .bot :: .bot :: .ow 24 :: bt 20 (Bo (ltI 1 o6.1) :: bt 5 []), [(24, .arr 3 1 (o6.2.map c3))]⟩) ?_ ?_
  ·refine L0 rfl rfl (E_move (I o6.1) rfl (by kernel_rfl)) ?_
   refine L0 rfl rfl (Y0_gtw (k := .i64) (a := o6.1) (b := 1) rfl (by kernel_rfl) (by kernel_rfl)) ?_
   refine XL_nil ?_
   kernel_rfl
  refine V_cond rfl (fun hc18 => ?_) (fun hc18 => ?_)
  ·have h := of_true h hc18
   obtain ⟨u19, hu19, h⟩ := of_bind h
   refine V_reg (mb 30 8) [24] (s1 := ⟨bt 3 (.ow 24 :: bt 26 []), [(24, .arr 3 1 ((o6.2 ++ ([o6.1])).map c3))]⟩) ?_ ?_
   ·refine L0 rfl rfl (E_move (.ow 24) rfl (by kernel_rfl)) ?_
    refine L0 rfl rfl (E_move (I o6.1) rfl (by kernel_rfl)) ?_
    refine L1 rfl rfl (Y1_bslice (z := zv3) (els := [o6.1].map c3) Try.underlying28 iz3 rfl (by decide) rfl (by kernel_rfl) rfl (by simp [c3]) (by decide) (by decide)) ?_
    refine XL_cons rfl (X_appendM (c := c3) (xs := o6.2) (ys := [o6.1]) (id := 24) (z := zv3) rfl rfl Try.underlying28 izb3 rfl (by kernel_rfl) (by kernel_rfl) (by kernel_rfl) (fun _ => rfl) (by simp) (room_some hu19) (by decide)) ?_
    refine L0 rfl rfl (E_assign (.ow 24) rfl (by kernel_rfl)) ?_
    refine XL_nil ?_
    kernel_rfl
   show V _ _ _ _
   refine V_sreg (mb 30 4) [24] (s1 := ⟨.bot :: .bot :: .ow 24 :: bt 27 [], [(24, .arr 3 1 ((o6.2 ++ ([o6.1])).map c3))]⟩) ?_ ?_
   ·refine L0 rfl rfl (E_move (.ow 24) rfl (by kernel_rfl)) ?_
    refine L0 rfl rfl (E_assign (.ow 24) rfl (by kernel_rfl)) ?_
    refine XL_nil ?_
    kernel_rfl
   refine V_ret ?_
   obtain rfl := some_inj h
   show Post _ _ _ _ _
   exact ⟨.inr rfl, rfl, rfl, rfl⟩
  ·have h := of_false h hc18
   refine V_skip ?_
   show V _ _ _ _
   refine V_sreg (mb 30 4) [24] (s1 := ⟨.bot :: .bot :: .ow 24 :: bt 27 [], [(24, .arr 3 1 (o6.2.map c3))]⟩) ?_ ?_
   ·refine L0 rfl rfl (E_move (.ow 24) rfl (by kernel_rfl)) ?_
    refine L0 rfl rfl (E_assign (.ow 24) rfl (by kernel_rfl)) ?_
    refine XL_nil ?_
    kernel_rfl
   refine V_ret ?_
   obtain rfl := some_inj h
   show Post _ _ _ _ _
   exact ⟨.inr rfl, rfl, rfl, rfl⟩
theorem cf_spec_l1Put : ∀ args w, (callFunc 141 args).run Try.prog w = .ok (.enter 141 args) w := run_callFunc Try.func141 (by kernel_rfl) (by kernel_rfl)
set_option maxRecDepth 100000 in
set_option maxHeartbeats 400000 in
theorem s_spec_l1Put {l1 : List Int} {vn2 : Int} {r : List Int} (h : r_spec_l1Put l1 vn2 = some r) : CallS Try.prog 141 [.c (.sl (l1.map c3)), I vn2] (.c (.sl (r.map c3))) [] := by
  refine CallS_of_text (rs := [.t 4]) (vs := [.tmp 4]) Try.func141 rfl rfl (.cons rfl FitsL.nil) (by decide) 48 rfl ?_
  unfold r_spec_l1Put at h
  show V _ _ ⟨.c (.sl (l1.map c3)) :: I vn2 :: bt 46 [], []⟩ _
  refine V_sreg (mb 48 3) [] (s1 := ⟨.c (.sl (l1.map c3)) :: I vn2 :: bt 46 [], []⟩) ?_ ?_
  ·refine L1 rfl rfl (Y1_nil (e := 3) 1 (by decide) (.inl rfl)) ?_
   refine XL_nil ?_
   kernel_rfl
  refine V_sreg (mb 48 35) [] (s1 := ⟨.c (.sl (l1.map c3)) :: I vn2 :: bt 3 (I 0 :: bt 42 []), []⟩) ?_ ?_
  ·refine L0 rfl rfl (E_assign (I 0) rfl (by kernel_rfl)) ?_
   refine XL_nil ?_
   kernel_rfl
  refine V_seq ?_
  obtain ⟨o5, hLo5, h⟩ := of_bind h
  refine V_toK (mb 48 35) [] (s1 := ⟨.c (.sl (l1.map c3)) :: I vn2 :: bt 3 (I o5 :: bt 42 []), []⟩) ?_ ?_
  ·clear h
   refine V_block (V_loop (fun n s => ∃ (k3 : Int), s.keep (mb 48 35) [] = (⟨.c (.sl (l1.map c3)) :: I vn2 :: bt 3 (I k3 :: bt 42 []), []⟩ : St) ∧ r_spec_l1Put_L4 l1 vn2 n k3 = some o5) FU ⟨_,  by rfl, hLo5⟩ ?_)
   clear hLo5
   rintro n s ⟨k3, hs, h⟩
   refine V_keep _ _ hs ?_
   clear hs
   cases n with
   | zero => cases h
   | succ n =>
    rw [r_spec_l1Put_L4] at h
    refine V_seq ?_
    obtain ⟨b8, hb8, h⟩ := of_bind h
    refine V_sreg (mb 48 262179) [] (s1 := ⟨.c (.sl (l1.map c3)) :: I vn2 :: bt 3 (I k3 :: bt 12 (Bo b8 :: bt 29 [])), []⟩) ?_ ?_
    ·refine L0 rfl rfl (E_move (I k3) rfl (by kernel_rfl)) ?_
     refine L0 rfl rfl (E_move (.c (.sl (l1.map c3))) rfl (by kernel_rfl)) ?_
     refine L0 rfl rfl (Y0_lenM (c := c3) (xs := l1) Try.underlying28 rfl (by kernel_rfl)) ?_
     refine L0 rfl rfl (Y0_ltw (k := .i64) (a := k3) (b := (l1.length : Int)) rfl (by kernel_rfl) (by kernel_rfl)) ?_
     refine L0 rfl rfl (E_move (Bo (ltI k3 ((l1.length : Int)))) rfl (by kernel_rfl)) ?_
     refine XL_split (ltI k3 ((l1.length : Int))) (fun hc6 => ?_) (fun hc6 => ?_)
     ·have hb8 := of_true hb8 hc6
      obtain ⟨e7, he7, hb8⟩ := of_bind hb8
      have hb8 := some_inj hb8
      refine XL_takeC _ rfl rfl (by kernel_rfl) hc6 (X_of_Y0 rfl (E_move (.c (.sl (l1.map c3))) rfl (by kernel_rfl))) ?_
      refine XL_takeC _ rfl rfl (by kernel_rfl) hc6 (X_of_Y0 rfl (E_move (I k3) rfl (by kernel_rfl))) ?_
      refine XL_takeC _ rfl rfl (by kernel_rfl) hc6 (X_of_Y0 rfl (Y0_idxM (c := c3) (xs := l1) (v := e7) (n := k3) Try.underlying28 sz3 rfl (by kernel_rfl) (by kernel_rfl) he7)) ?_
      refine XL_takeC _ rfl rfl (by kernel_rfl) hc6 (X_of_Y0 rfl (Y0_load1 (c := Ti e7) (cs := []) sc3 rfl (by kernel_rfl))) ?_
      refine XL_takeC _ rfl rfl (by kernel_rfl) hc6 (X_of_Y0 rfl (E_move (I vn2) rfl (by kernel_rfl))) ?_
      refine XL_takeC _ rfl rfl (by kernel_rfl) hc6 (X_of_Y0 rfl (Y0_ltw (k := .i64) (a := e7) (b := vn2) rfl (by kernel_rfl) (by kernel_rfl))) ?_
      refine XL_cons rfl (X_of_Y0 rfl (Y0_pickTe (b := ltI k3 ((l1.length : Int))) (p := ltI e7 vn2) rfl (by kernel_rfl) hc6 (by kernel_rfl) hb8)) ?_
      refine XL_nil ?_
      kernel_rfl
     ·have hb8 := some_inj (of_false hb8 hc6)
      refine XL_skipT _ rfl rfl (by kernel_rfl) hc6 rfl ?_
      refine XL_skipT _ rfl rfl (by kernel_rfl) hc6 rfl ?_
      refine XL_skipT _ rfl rfl (by kernel_rfl) hc6 rfl ?_
      refine XL_skipT _ rfl rfl (by kernel_rfl) hc6 rfl ?_
      refine XL_skipT _ rfl rfl (by kernel_rfl) hc6 rfl ?_
      refine XL_skipT _ rfl rfl (by kernel_rfl) hc6 rfl ?_
      refine XL_cons rfl (X_of_Y0 rfl (Y0_pickFe (b := ltI k3 ((l1.length : Int))) (p := false) rfl (by kernel_rfl) hc6 (by kernel_rfl) hb8)) ?_
      refine XL_nil ?_
      kernel_rfl
    refine V_cond rfl (fun hc9 => ?_) (fun hc9 => ?_)
    ·have h := of_true h hc9
     refine V_skip ?_
     show V _ _ _ _
     refine V_block ?_
     obtain ⟨k10, hk10, h⟩ := of_sI h
     refine V_reg (mb 48 35) [] (s1 := ⟨.c (.sl (l1.map c3)) :: I vn2 :: bt 3 (I k10 :: bt 42 []), []⟩) ?_ ?_
     ·refine L0 rfl rfl (E_move (I k3) rfl (by kernel_rfl)) ?_
      refine L0 rfl rfl (Y0_add64 (a := k3) (b := 1) rfl (by kernel_rfl) (by kernel_rfl)) ?_
      refine L0 rfl rfl (E_assign (I (w64 (k3 + 1))) rfl (by kernel_rfl)) ?_
      refine XL_nil ?_
      subst hk10
      kernel_rfl
     exact ⟨n, Nat.lt_succ_self n, _,  by rfl, h⟩
    ·have h := of_false h hc9
     refine V_exit ?_
     obtain rfl := some_inj h
     show St.keep _ _ _ = _
     rfl
  show V _ _ _ _
  refine V_seq ?_
  obtain ⟨b13, hb13, h⟩ := of_bind h
  refine V_sreg (mb 48 4294967331) [] (s1 := ⟨.c (.sl (l1.map c3)) :: I vn2 :: bt 3 (I o5 :: bt 26 (Bo b13 :: bt 15 [])), []⟩) ?_ ?_
  ·refine L0 rfl rfl (E_move (I o5) rfl (by kernel_rfl)) ?_
   refine L0 rfl rfl (E_move (.c (.sl (l1.map c3))) rfl (by kernel_rfl)) ?_
   refine L0 rfl rfl (Y0_lenM (c := c3) (xs := l1) Try.underlying28 rfl (by kernel_rfl)) ?_
   refine L0 rfl rfl (Y0_ltw (k := .i64) (a := o5) (b := (l1.length : Int)) rfl (by kernel_rfl) (by kernel_rfl)) ?_
   refine L0 rfl rfl (E_move (Bo (ltI o5 ((l1.length : Int)))) rfl (by kernel_rfl)) ?_
   refine XL_split (ltI o5 ((l1.length : Int))) (fun hc11 => ?_) (fun hc11 => ?_)
   ·have hb13 := of_true hb13 hc11
    obtain ⟨e12, he12, hb13⟩ := of_bind hb13
    have hb13 := some_inj hb13
    refine XL_takeC _ rfl rfl (by kernel_rfl) hc11 (X_of_Y0 rfl (E_move (.c (.sl (l1.map c3))) rfl (by kernel_rfl))) ?_
    refine XL_takeC _ rfl rfl (by kernel_rfl) hc11 (X_of_Y0 rfl (E_move (I o5) rfl (by kernel_rfl))) ?_
    refine XL_takeC _ rfl rfl (by kernel_rfl) hc11 (X_of_Y0 rfl (Y0_idxM (c := c3) (xs := l1) (v := e12) (n := o5) Try.underlying28 sz3 rfl (by kernel_rfl) (by kernel_rfl) he12)) ?_
    refine XL_takeC _ rfl rfl (by kernel_rfl) hc11 (X_of_Y0 rfl (Y0_load1 (c := Ti e12) (cs := []) sc3 rfl (by kernel_rfl))) ?_
    refine XL_takeC _ rfl rfl (by kernel_rfl) hc11 (X_of_Y0 rfl (E_move (I vn2) rfl (by kernel_rfl))) ?_
    refine XL_takeC _ rfl rfl (by kernel_rfl) hc11 (X_of_Y0 rfl (Y0_eqw (k := .i64) (a := e12) (b := vn2) rfl (by kernel_rfl) (by kernel_rfl))) ?_
    refine XL_cons rfl (X_of_Y0 rfl (Y0_pickTe (b := ltI o5 ((l1.length : Int))) (p := eqI e12 vn2) rfl (by kernel_rfl) hc11 (by kernel_rfl) hb13)) ?_
    refine XL_nil ?_
    kernel_rfl
   ·have hb13 := some_inj (of_false hb13 hc11)
    refine XL_skipT _ rfl rfl (by kernel_rfl) hc11 rfl ?_
    refine XL_skipT _ rfl rfl (by kernel_rfl) hc11 rfl ?_
    refine XL_skipT _ rfl rfl (by kernel_rfl) hc11 rfl ?_
    refine XL_skipT _ rfl rfl (by kernel_rfl) hc11 rfl ?_
    refine XL_skipT _ rfl rfl (by kernel_rfl) hc11 rfl ?_
    refine XL_skipT _ rfl rfl (by kernel_rfl) hc11 rfl ?_
    refine XL_cons rfl (X_of_Y0 rfl (Y0_pickFe (b := ltI o5 ((l1.length : Int))) (p := false) rfl (by kernel_rfl) hc11 (by kernel_rfl) hb13)) ?_
    refine XL_nil ?_
    kernel_rfl
  refine V_cond rfl (fun hc14 => ?_) (fun hc14 => ?_)
  ·have h := of_true h hc14
   refine V_sreg (mb 48 16) [] (s1 := ⟨bt 4 (.c (.sl (l1.map c3)) :: bt 43 []), []⟩) ?_ ?_
   ·refine L0 rfl rfl (E_move (.c (.sl (l1.map c3))) rfl (by kernel_rfl)) ?_
    refine L0 rfl rfl (E_assign (.c (.sl (l1.map c3))) rfl (by kernel_rfl)) ?_
    refine XL_nil ?_
    kernel_rfl
   refine V_ret ?_
   obtain rfl := some_inj h
   show Post _ _ _ _ _
   exact ⟨.inr rfl, rfl, rfl, rfl⟩
  ·have h := of_false h hc14
   refine V_skip ?_
   show V _ _ _ _
   obtain ⟨u15, hu15, h⟩ := of_bind h
   obtain ⟨u16, hu16, h⟩ := of_bind h
   refine V_sreg (mb 48 99) [272] (s1 := ⟨.c (.sl (l1.map c3)) :: I vn2 :: bt 3 (I o5 :: .ow 272 :: bt 41 []), [(272, .arr 3 1 (((([] : List Int)) ++ (subl l1 0 o5)).map c3))]⟩) ?_ ?_
   ·refine L1 rfl rfl (Y1_bslice0 Try.underlying28 sz3 (by decide) rfl rfl) ?_
    refine L0 rfl rfl (E_move (.c (.sl (l1.map c3))) rfl (by kernel_rfl)) ?_
    refine L0 rfl rfl (E_move (I o5) rfl (by kernel_rfl)) ?_
    refine L0 rfl rfl (Y0_slice (c := c3) (xs := l1) (l := 0) (h := o5) Try.underlying28 sz3 (fun _ => rfl) rfl (by kernel_rfl) (fun y hy => by cases hy) (fun _ => rfl) (fun y hy => by cases hy; exact ⟨.i64, (by kernel_rfl)⟩) (fun hh => by cases hh) (slc_some hu15)) ?_
    refine XL_cons rfl (X_appendA (c := c3) (xs := ([] : List Int)) (ys := subl l1 0 o5) (id := 272) (z := zv3) rfl rfl Try.underlying28 izb3 rfl (by kernel_rfl) (by kernel_rfl) (by kernel_rfl) (fun _ => rfl) (room_some hu16) (by decide)) ?_
    refine L0 rfl rfl (E_assign (.ow 272) rfl (by kernel_rfl)) ?_
    refine XL_nil ?_
    kernel_rfl
   obtain ⟨u17, hu17, h⟩ := of_bind h
   refine V_sreg (mb 48 97) [272] (s1 := ⟨.c (.sl (l1.map c3)) :: bt 4 (I o5 :: .ow 272 :: bt 41 []), [(272, .arr 3 1 ((((([] : List Int)) ++ (subl l1 0 o5)) ++ ([vn2])).map c3))]⟩) ?_ ?_
   ·refine L0 rfl rfl (E_move (.ow 272) rfl (by kernel_rfl)) ?_
    refine L0 rfl rfl (E_move (I vn2) rfl (by kernel_rfl)) ?_
    refine L1 rfl rfl (Y1_bslice (z := zv3) (els := [vn2].map c3) Try.underlying28 iz3 rfl (by decide) rfl (by kernel_rfl) rfl (by simp [c3]) (by decide) (by decide)) ?_
    refine XL_cons rfl (X_appendM (c := c3) (xs := (([] : List Int)) ++ (subl l1 0 o5)) (ys := [vn2]) (id := 272) (z := zv3) rfl rfl Try.underlying28 izb3 rfl (by kernel_rfl) (by kernel_rfl) (by kernel_rfl) (fun _ => rfl) (by simp) (room_some hu17) (by decide)) ?_
    refine L0 rfl rfl (E_assign (.ow 272) rfl (by kernel_rfl)) ?_
    refine XL_nil ?_
    kernel_rfl
   obtain ⟨u18, hu18, h⟩ := of_bind h
   obtain ⟨u19, hu19, h⟩ := of_bind h
   obtain ⟨l20, hl20, h⟩ := of_bind h
   have hl20 := some_inj hl20
   refine V_sreg (mb 48 16) [272] (s1 := ⟨bt 4 (.ow 272 :: bt 43 []), [(272, .arr 3 1 (l20.map c3))]⟩) ?_ ?_
   ·refine L0 rfl rfl (E_move (.ow 272) rfl (by kernel_rfl)) ?_
    refine L0 rfl rfl (E_move (.c (.sl (l1.map c3))) rfl (by kernel_rfl)) ?_
    refine L0 rfl rfl (E_move (I o5) rfl (by kernel_rfl)) ?_
    refine L0 rfl rfl (Y0_slice (c := c3) (xs := l1) (l := o5) (h := (l1.length : Int)) Try.underlying28 sz3 (fun _ => rfl) rfl (by kernel_rfl) (fun y hy => by cases hy; exact ⟨.i64, (by kernel_rfl)⟩) (fun hh => by cases hh) (fun y hy => by cases hy) (fun _ => rfl) (slc_some hu18)) ?_
    refine XL_cons rfl (X_appendA (c := c3) (xs := ((([] : List Int)) ++ (subl l1 0 o5)) ++ ([vn2])) (ys := subl l1 o5 ((l1.length : Int))) (id := 272) (z := zv3) rfl rfl Try.underlying28 izb3 rfl (by kernel_rfl) (by kernel_rfl) (by kernel_rfl) (fun _ => rfl) (room_some hu19) (by decide)) ?_
    refine L0 rfl rfl (E_assign (.ow 272) rfl (by kernel_rfl)) ?_
    refine XL_nil ?_
    subst hl20
    kernel_rfl
   refine V_freeze 272 (T := 3) (sz := 1) (els := l20.map c3) (s1 := ⟨bt 4 (.c (.sl (l20.map c3)) :: bt 43 []), []⟩) (by kernel_rfl) (by kernel_rfl) ?_
   refine V_ret ?_
   obtain rfl := some_inj h
   show Post _ _ _ _ _
   exact ⟨.inr rfl, rfl, rfl, rfl⟩
theorem cf_spec_nuPrimes : ∀ args w, (callFunc 131 args).run Try.prog w = .ok (.enter 131 args) w := run_callFunc Try.func131 (by kernel_rfl) (by kernel_rfl)
set_option maxRecDepth 100000 in
set_option maxHeartbeats 400000 in
theorem s_spec_nuPrimes {vn1 : Int} {r : List Int} (h : r_spec_nuPrimes vn1 = some r) : CallS Try.prog 131 [I vn1] (.c (.sl (r.map c3))) [] := by
  refine CallS_of_text (rs := [.t 2]) (vs := [.tmp 2]) Try.func131 rfl rfl (.cons rfl FitsL.nil) (by decide) 18 rfl ?_
  unfold r_spec_nuPrimes at h
  show V _ _ ⟨I vn1 :: bt 17 [], []⟩ _
  refine V_sreg (mb 18 1) [] (s1 := ⟨I vn1 :: bt 17 [], []⟩) ?_ ?_
  ·refine L1 rfl rfl (Y1_nil (e := 3) 1 (by decide) (.inl rfl)) ?_
   refine XL_nil ?_
   kernel_rfl
  refine V_sreg (mb 18 9) [24] (s1 := ⟨I vn1 :: .bot :: .bot :: .ow 24 :: bt 14 [], [(24, .arr 3 1 ((([] : List Int)).map c3))]⟩) ?_ ?_
  ·refine L1 rfl rfl (Y1_nil (e := 3) 1 (by decide) (.inl rfl)) ?_
   refine XL_nil ?_
   kernel_rfl
  refine V_seq ?_
  obtain ⟨y2, hy2, h⟩ := of_bind h
  refine V_sreg (mb 18 904) [56, 24] (s1 := ⟨bt 3 (.ow 24 :: bt 3 (.ow 56 :: I ((y2.length : Int)) :: I 0 :: bt 8 [])), [(56, .arr 3 1 (y2.map c3)), (24, .arr 3 1 ((([] : List Int)).map c3))]⟩) ?_ ?_
  ·refine L0 rfl rfl (E_move (I vn1) rfl (by kernel_rfl)) ?_
   refine L1 rfl rfl (Y1_call (s_spec_nuFactors hy2) cf_spec_nuFactors rfl (by kernel_rfl)) ?_
   refine L0 rfl rfl (Y0_lenM (c := c3) (xs := y2) Try.underlying28 rfl (by kernel_rfl)) ?_
   refine L0 rfl rfl (E_move (I 0) rfl (by kernel_rfl)) ?_
   refine XL_nil ?_
   kernel_rfl
  refine V_freeze 24 (T := 3) (sz := 1) (els := (([] : List Int)).map c3) (s1 := ⟨bt 3 (.c (.sl ((([] : List Int)).map c3)) :: bt 3 (.ow 56 :: I ((y2.length : Int)) :: I 0 :: bt 8 [])), [(56, .arr 3 1 (y2.map c3))]⟩) (by kernel_rfl) (by kernel_rfl) ?_
  obtain ⟨o6, hLo6, h⟩ := of_bind h
  refine V_toK (mb 18 8) [] (s1 := ⟨bt 3 (.c (.sl (o6.map c3)) :: bt 14 []), []⟩) ?_ ?_
  ·clear h
   refine V_block (V_loop (fun n s => ∃ (out3 : List Int) (t4 : Int), s.keep (mb 18 904) [56] = (⟨bt 3 (.c (.sl (out3.map c3)) :: bt 3 (.ow 56 :: I ((y2.length : Int)) :: I t4 :: bt 8 [])), [(56, .arr 3 1 (y2.map c3))]⟩ : St) ∧ r_spec_nuPrimes_L5 y2 n out3 t4 = some o6) FU ⟨_, _,  by rfl, hLo6⟩ ?_)
   clear hLo6
   rintro n s ⟨out3, t4, hs, h⟩
   refine V_keep _ _ hs ?_
   clear hs
   cases n with
   | zero => cases h
   | succ n =>
    rw [r_spec_nuPrimes_L5] at h
    refine V_sreg (mb 18 1928) [56] (s1 := ⟨bt 3 (.c (.sl (out3.map c3)) :: bt 3 (.ow 56 :: I ((y2.length : Int)) :: I t4 :: Bo (ltI t4 ((y2.length : Int))) :: bt 7 [])), [(56, .arr 3 1 (y2.map c3))]⟩) ?_ ?_
    ·refine L0 rfl rfl (Y0_ltw (k := .i64) (a := t4) (b := (y2.length : Int)) rfl (by kernel_rfl) (by kernel_rfl)) ?_
     refine XL_nil ?_
     kernel_rfl
    refine V_seq ?_
    refine V_cond rfl (fun hc7 => ?_) (fun hc7 => ?_)
    ·have h := of_true h hc7
     refine V_skip ?_
     show V _ _ _ _
     refine V_seq ?_
     refine V_block ?_
     obtain ⟨e8, he8, h⟩ := of_bind h
     obtain ⟨e9, he9, h⟩ := of_bind h
     refine V_sreg (mb 18 936) [56] (s1 := ⟨bt 3 (.c (.sl (out3.map c3)) :: .bot :: I e9 :: .bot :: .ow 56 :: I ((y2.length : Int)) :: I t4 :: bt 8 []), [(56, .arr 3 1 (y2.map c3))]⟩) ?_ ?_
     ·refine L0 rfl rfl (Y0_idxoM (c := c3) (xs := y2) (v := e8) (id := 56) (T := 3) (sz := 1) (n := t4) Try.underlying28 sz3 rfl (by kernel_rfl) (by kernel_rfl) (by kernel_rfl) he8) ?_
      refine L0 rfl rfl (Y0_loado1 (c := c3) (xs := y2) (v := e9) (id := 56) (sz := 1) (T := 3) (off := 0) (n := t4) (d := Ti e9) (ds := []) sc3 rfl (by kernel_rfl) (by kernel_rfl) he9 (by kernel_rfl)) ?_
      refine L0 rfl rfl (E_assign (I e9) rfl (by kernel_rfl)) ?_
      refine XL_nil ?_
      kernel_rfl
     obtain ⟨y10, hy10, h⟩ := of_bind h
     refine V_reg (mb 18 904) [56] (s1 := ⟨bt 3 (.c (.sl (y10.map c3)) :: bt 3 (.ow 56 :: I ((y2.length : Int)) :: I t4 :: bt 8 [])), [(56, .arr 3 1 (y2.map c3))]⟩) ?_ ?_
     ·refine L0 rfl rfl (E_move (.c (.sl (out3.map c3))) rfl (by kernel_rfl)) ?_
      refine L0 rfl rfl (E_move (I e9) rfl (by kernel_rfl)) ?_
      refine L1 rfl rfl (Y1_call (s_spec_l1Put hy10) cf_spec_l1Put rfl (by kernel_rfl)) ?_
      refine L0 rfl rfl (E_assign (.c (.sl (y10.map c3))) rfl (by kernel_rfl)) ?_
      refine XL_nil ?_
      kernel_rfl
     show V _ _ _ _
     obtain ⟨t11, ht11, h⟩ := of_sI h
     refine V_reg (mb 18 904) [56] (s1 := ⟨bt 3 (.c (.sl (y10.map c3)) :: bt 3 (.ow 56 :: I ((y2.length : Int)) :: I t11 :: bt 8 [])), [(56, .arr 3 1 (y2.map c3))]⟩) ?_ ?_
     ·refine L0 rfl rfl (Y0_add64 (a := t4) (b := 1) rfl (by kernel_rfl) (by kernel_rfl)) ?_
      refine L0 rfl rfl (E_move (I (w64 (t4 + 1))) rfl (by kernel_rfl)) ?_
      refine XL_nil ?_
      subst ht11
      kernel_rfl
     exact ⟨n, Nat.lt_succ_self n, _, _,  by rfl, h⟩
    ·have h := of_false h hc7
     refine V_exit ?_
     obtain rfl := some_inj h
     show St.keep _ _ _ = _
     rfl
  show V _ _ _ _
  refine V_sreg (mb 18 4) [] (s1 := ⟨.bot :: .bot :: .c (.sl (o6.map c3)) :: bt 15 [], []⟩) ?_ ?_
  ·refine L0 rfl rfl (E_move (.c (.sl (o6.map c3))) rfl (by kernel_rfl)) ?_
   refine L0 rfl rfl (E_assign (.c (.sl (o6.map c3))) rfl (by kernel_rfl)) ?_
   refine XL_nil ?_
   kernel_rfl
  refine V_ret ?_
  obtain rfl := some_inj h
  show Post _ _ _ _ _
  exact ⟨.inr rfl, rfl, rfl, rfl⟩
theorem cf_spec_chAll : ∀ args w, (callFunc 110 args).run Try.prog w = .ok (.enter 110 args) w := run_callFunc Try.func110 (by kernel_rfl) (by kernel_rfl)
set_option maxRecDepth 100000 in
set_option maxHeartbeats 400000 in
theorem s_spec_chAll {d1 : Int} {r : List ((Int × Int))} (h : r_spec_chAll d1 = some r) : CallS Try.prog 110 [I d1] (.ow 0) [(0, .arr 94 2 (r.map c94))] := by
  refine CallS_of_text (rs := [.t 2]) (vs := [.tmp 2]) Try.func110 rfl rfl (.cons rfl FitsL.nil) (by decide) 69 rfl ?_
  unfold r_spec_chAll at h
  show V _ _ ⟨I d1 :: bt 68 [], []⟩ _
  refine V_sreg (mb 69 1) [] (s1 := ⟨I d1 :: bt 68 [], []⟩) ?_ ?_
  ·refine L1 rfl rfl (Y1_nil (e := 94) 2 (by decide) (.inl rfl)) ?_
   refine XL_nil ?_
   kernel_rfl
  refine V_sreg (mb 69 9) [24] (s1 := ⟨I d1 :: .bot :: .bot :: .ow 24 :: bt 65 [], [(24, .arr 94 2 ((([] : List ((Int × Int)))).map c94))]⟩) ?_ ?_
  ·refine L1 rfl rfl (Y1_nil (e := 94) 2 (by decide) (.inl rfl)) ?_
   refine XL_nil ?_
   kernel_rfl
  refine V_seq ?_
  obtain ⟨y2, hy2, h⟩ := of_bind h
  refine V_sreg (mb 69 3593) [24] (s1 := ⟨I d1 :: .bot :: .bot :: .ow 24 :: bt 5 (.c (.sl (y2.map c3)) :: I ((y2.length : Int)) :: I 0 :: bt 57 []), [(24, .arr 94 2 ((([] : List ((Int × Int)))).map c94))]⟩) ?_ ?_
  ·refine L0 rfl rfl (E_move (I d1) rfl (by kernel_rfl)) ?_
   refine L0 rfl rfl (Y0_neg64 (a := d1) rfl (by kernel_rfl)) ?_
   refine L1 rfl rfl (Y1_call (s_spec_nuPrimes hy2) cf_spec_nuPrimes rfl (by kernel_rfl)) ?_
   refine L0 rfl rfl (Y0_lenM (c := c3) (xs := y2) Try.underlying28 rfl (by kernel_rfl)) ?_
   refine L0 rfl rfl (E_move (I 0) rfl (by kernel_rfl)) ?_
   refine XL_nil ?_
   kernel_rfl
  obtain ⟨o6, hLo6, h⟩ := of_bind h
  refine V_toK (mb 69 9) [24] (s1 := ⟨I d1 :: .bot :: .bot :: .ow 24 :: bt 65 [], [(24, .arr 94 2 (o6.map c94))]⟩) ?_ ?_
  ·clear h
   refine V_block (V_loop (fun n s => ∃ (t3 : Int) (l4 : List ((Int × Int))), s.keep (mb 69 3593) [24] = (⟨I d1 :: .bot :: .bot :: .ow 24 :: bt 5 (.c (.sl (y2.map c3)) :: I ((y2.length : Int)) :: I t3 :: bt 57 []), [(24, .arr 94 2 (l4.map c94))]⟩ : St) ∧ r_spec_chAll_L5 d1 y2 n t3 l4 = some o6) FU ⟨_, _,  by rfl, hLo6⟩ ?_)
   clear hLo6
   rintro n s ⟨t3, l4, hs, h⟩
   refine V_keep _ _ hs ?_
   clear hs
   cases n with
   | zero => cases h
   | succ n =>
    rw [r_spec_chAll_L5] at h
    refine V_sreg (mb 69 7689) [24] (s1 := ⟨I d1 :: .bot :: .bot :: .ow 24 :: bt 5 (.c (.sl (y2.map c3)) :: I ((y2.length : Int)) :: I t3 :: Bo (ltI t3 ((y2.length : Int))) :: bt 56 []), [(24, .arr 94 2 (l4.map c94))]⟩) ?_ ?_
    ·refine L0 rfl rfl (Y0_ltw (k := .i64) (a := t3) (b := (y2.length : Int)) rfl (by kernel_rfl) (by kernel_rfl)) ?_
     refine XL_nil ?_
     kernel_rfl
    refine V_seq ?_
    refine V_cond rfl (fun hc7 => ?_) (fun hc7 => ?_)
    ·have h := of_true h hc7
     refine V_skip ?_
     show V _ _ _ _
     refine V_seq ?_
     refine V_block ?_
     obtain ⟨e8, he8, h⟩ := of_bind h
     refine V_sreg (mb 69 3625) [24] (s1 := ⟨I d1 :: .bot :: .bot :: .ow 24 :: .bot :: I e8 :: bt 3 (.c (.sl (y2.map c3)) :: I ((y2.length : Int)) :: I t3 :: bt 57 []), [(24, .arr 94 2 (l4.map c94))]⟩) ?_ ?_
     ·refine L0 rfl rfl (Y0_idxM (c := c3) (xs := y2) (v := e8) (n := t3) Try.underlying28 sz3 rfl (by kernel_rfl) (by kernel_rfl) he8) ?_
      refine L0 rfl rfl (Y0_load1 (c := Ti e8) (cs := []) sc3 rfl (by kernel_rfl)) ?_
      refine L0 rfl rfl (E_assign (I e8) rfl (by kernel_rfl)) ?_
      refine XL_nil ?_
      kernel_rfl
     refine V_sreg (mb 69 69161) [24] (s1 := ⟨I d1 :: .bot :: .bot :: .ow 24 :: .bot :: I e8 :: bt 3 (.c (.sl (y2.map c3)) :: I ((y2.length : Int)) :: I t3 :: bt 4 (Bo (ltI 2 e8) :: bt 52 [])), [(24, .arr 94 2 (l4.map c94))]⟩) ?_ ?_
     ·refine L0 rfl rfl (E_move (I e8) rfl (by kernel_rfl)) ?_
      refine L0 rfl rfl (Y0_gtw (k := .i64) (a := e8) (b := 2) rfl (by kernel_rfl) (by kernel_rfl)) ?_
      refine XL_nil ?_
      kernel_rfl
     refine V_cond rfl (fun hc9 => ?_) (fun hc9 => ?_)
     ·have h := of_true h hc9
      obtain ⟨u10, hu10, h⟩ := of_bind h
      refine V_reg (mb 69 3593) [24] (s1 := ⟨I d1 :: .bot :: .bot :: .ow 24 :: bt 5 (.c (.sl (y2.map c3)) :: I ((y2.length : Int)) :: I t3 :: bt 57 []), [(24, .arr 94 2 ((l4 ++ ([(1, e8)])).map c94))]⟩) ?_ ?_
      ·refine L0 rfl rfl (E_move (.ow 24) rfl (by kernel_rfl)) ?_
       refine L0 rfl rfl (E_move (I e8) rfl (by kernel_rfl)) ?_
       refine L0 rfl rfl (Y0_build (cs := [Ti 1, Ti e8]) pl94 bt94 rfl rfl (by kernel_rfl)) ?_
       refine L1 rfl rfl (Y1_bslice (z := zv94) (els := [(1, e8)].map c94) Try.underlying91 iz94 rfl (by decide) rfl (by kernel_rfl) rfl (by simp [c94]) (by decide) (by decide)) ?_
       refine XL_cons rfl (X_appendM (c := c94) (xs := l4) (ys := [(1, e8)]) (id := 24) (z := zv94) rfl rfl Try.underlying91 izb94 rfl (by kernel_rfl) (by kernel_rfl) (by kernel_rfl) (fun _ => rfl) (by simp) (room_some hu10) (by decide)) ?_
       refine L0 rfl rfl (E_assign (.ow 24) rfl (by kernel_rfl)) ?_
       refine XL_nil ?_
       kernel_rfl
      show V _ _ _ _
      obtain ⟨t11, ht11, h⟩ := of_sI h
      refine V_reg (mb 69 3593) [24] (s1 := ⟨I d1 :: .bot :: .bot :: .ow 24 :: bt 5 (.c (.sl (y2.map c3)) :: I ((y2.length : Int)) :: I t11 :: bt 57 []), [(24, .arr 94 2 ((l4 ++ ([(1, e8)])).map c94))]⟩) ?_ ?_
      ·refine L0 rfl rfl (Y0_add64 (a := t3) (b := 1) rfl (by kernel_rfl) (by kernel_rfl)) ?_
       refine L0 rfl rfl (E_move (I (w64 (t3 + 1))) rfl (by kernel_rfl)) ?_
       refine XL_nil ?_
       subst ht11
       kernel_rfl
      exact ⟨n, Nat.lt_succ_self n, _, _,  by rfl, h⟩
     ·have h := of_false h hc9
      refine V_skip ?_
      show V _ _ _ _
      obtain ⟨t12, ht12, h⟩ := of_sI h
      refine V_reg (mb 69 3593) [24] (s1 := ⟨I d1 :: .bot :: .bot :: .ow 24 :: bt 5 (.c (.sl (y2.map c3)) :: I ((y2.length : Int)) :: I t12 :: bt 57 []), [(24, .arr 94 2 (l4.map c94))]⟩) ?_ ?_
      ·refine L0 rfl rfl (Y0_add64 (a := t3) (b := 1) rfl (by kernel_rfl) (by kernel_rfl)) ?_
       refine L0 rfl rfl (E_move (I (w64 (t3 + 1))) rfl (by kernel_rfl)) ?_
       refine XL_nil ?_
       subst ht12
       kernel_rfl
      exact ⟨n, Nat.lt_succ_self n, _, _,  by rfl, h⟩
    ·have h := of_false h hc7
     refine V_exit ?_
     obtain rfl := some_inj h
     show St.keep _ _ _ = _
     rfl
  show V _ _ _ _
  refine V_seq ?_
  refine V_sreg (mb 69 33554441) [24] (s1 := ⟨I d1 :: .bot :: .bot :: .ow 24 :: bt 21 (Bo (!eqI (Int.tmod d1 2) 0) :: bt 43 []), [(24, .arr 94 2 (o6.map c94))]⟩) ?_ ?_
  ·refine L0 rfl rfl (E_move (I d1) rfl (by kernel_rfl)) ?_
   refine L0 rfl rfl (Y0_rem (k := .i64) (a := d1) (b := 2) rfl (by kernel_rfl) (by kernel_rfl) (by decide)) ?_
   refine L0 rfl rfl (Y0_new (k := .i64) (a := Int.tmod d1 2) (b := 0) rfl (by kernel_rfl) (by kernel_rfl)) ?_
   refine XL_nil ?_
   kernel_rfl
  refine V_cond rfl (fun hc13 => ?_) (fun hc13 => ?_)
  ·have h := of_true h hc13
   refine V_sreg (mb 69 4) [24] (s1 := ⟨.bot :: .bot :: .ow 24 :: bt 66 [], [(24, .arr 94 2 (o6.map c94))]⟩) ?_ ?_
   ·refine L0 rfl rfl (E_move (.ow 24) rfl (by kernel_rfl)) ?_
    refine L0 rfl rfl (E_assign (.ow 24) rfl (by kernel_rfl)) ?_
    refine XL_nil ?_
    kernel_rfl
   refine V_ret ?_
   obtain rfl := some_inj h
   show Post _ _ _ _ _
   exact ⟨.inr rfl, rfl, rfl, rfl⟩
  ·have h := of_false h hc13
   refine V_skip ?_
   show V _ _ _ _
   obtain ⟨vn14, hvn14, h⟩ := of_sI h
   refine V_sreg (mb 69 72) [24] (s1 := ⟨bt 3 (.ow 24 :: .bot :: .bot :: I vn14 :: bt 62 []), [(24, .arr 94 2 (o6.map c94))]⟩) ?_ ?_
   ·refine L0 rfl rfl (E_move (I d1) rfl (by kernel_rfl)) ?_
    refine L0 rfl rfl (Y0_neg64 (a := d1) rfl (by kernel_rfl)) ?_
    refine L0 rfl rfl (Y0_quo64 (a := w64 (0 - d1)) (b := 4) rfl (by kernel_rfl) (by kernel_rfl) (by decide)) ?_
    refine L0 rfl rfl (E_assign (I (w64 (Int.tdiv (w64 (0 - d1)) 4))) rfl (by kernel_rfl)) ?_
    refine XL_nil ?_
    subst hvn14
    kernel_rfl
   refine V_seq ?_
   refine V_block ?_
   refine V_sreg (mb 69 1073741896) [24] (s1 := ⟨bt 3 (.ow 24 :: .bot :: .bot :: I vn14 :: bt 23 (Bo (eqI (Int.tmod vn14 4) 3) :: bt 38 [])), [(24, .arr 94 2 (o6.map c94))]⟩) ?_ ?_
   ·refine L0 rfl rfl (E_move (I vn14) rfl (by kernel_rfl)) ?_
    refine L0 rfl rfl (Y0_rem (k := .i64) (a := vn14) (b := 4) rfl (by kernel_rfl) (by kernel_rfl) (by decide)) ?_
    refine L0 rfl rfl (Y0_eqw (k := .i64) (a := Int.tmod vn14 4) (b := 3) rfl (by kernel_rfl) (by kernel_rfl)) ?_
    refine L0 rfl rfl (E_assign (Bo (eqI (Int.tmod vn14 4) 3)) rfl (by kernel_rfl)) ?_
    refine XL_nil ?_
    kernel_rfl
   refine V_cond rfl (fun hc15 => ?_) (fun hc15 => ?_)
   ·have h := of_true h hc15
    refine V_sreg (mb 69 4) [24] (s1 := ⟨.bot :: .bot :: .ow 24 :: bt 66 [], [(24, .arr 94 2 (o6.map c94))]⟩) ?_ ?_
    ·refine L0 rfl rfl (E_move (.ow 24) rfl (by kernel_rfl)) ?_
     refine L0 rfl rfl (E_assign (.ow 24) rfl (by kernel_rfl)) ?_
     refine XL_nil ?_
     kernel_rfl
    refine V_ret ?_
    obtain rfl := some_inj h
    show Post _ _ _ _ _
    exact ⟨.inr rfl, rfl, rfl, rfl⟩
   ·have h := of_false h hc15
    obtain ⟨t17, ht17, h⟩ := of_bind h
    have ht17 := some_inj ht17
    refine V_sreg (mb 69 34359738440) [24] (s1 := ⟨bt 3 (.ow 24 :: .bot :: .bot :: I vn14 :: bt 28 (Bo t17 :: bt 33 [])), [(24, .arr 94 2 (o6.map c94))]⟩) ?_ ?_
    ·refine L0 rfl rfl (E_move (I vn14) rfl (by kernel_rfl)) ?_
     refine L0 rfl rfl (Y0_rem (k := .i64) (a := vn14) (b := 4) rfl (by kernel_rfl) (by kernel_rfl) (by decide)) ?_
     refine L0 rfl rfl (Y0_eqw (k := .i64) (a := Int.tmod vn14 4) (b := 1) rfl (by kernel_rfl) (by kernel_rfl)) ?_
     refine L0 rfl rfl (E_move (Bo (eqI (Int.tmod vn14 4) 1)) rfl (by kernel_rfl)) ?_
     refine XL_split (eqI (Int.tmod vn14 4) 1) (fun hc16 => ?_) (fun hc16 => ?_)
     ·refine XL_skipF _ rfl rfl (by kernel_rfl) hc16 rfl ?_
      refine XL_skipF _ rfl rfl (by kernel_rfl) hc16 rfl ?_
      refine XL_skipF _ rfl rfl (by kernel_rfl) hc16 rfl ?_
      refine XL_cons rfl (X_of_Y0 rfl (Y0_pick1 (b := eqI (Int.tmod vn14 4) 1) (p := true) (q := eqI (Int.tmod vn14 8) 4) rfl (by kernel_rfl) hc16 (by kernel_rfl))) ?_
      refine L0 rfl rfl (E_assign (Bo (bif (eqI (Int.tmod vn14 4) 1) then true else (eqI (Int.tmod vn14 8) 4))) rfl (by kernel_rfl)) ?_
      refine XL_nil ?_
      subst ht17
      kernel_rfl
     ·refine XL_takeC _ rfl rfl (by kernel_rfl) hc16 (X_of_Y0 rfl (E_move (I vn14) rfl (by kernel_rfl))) ?_
      refine XL_takeC _ rfl rfl (by kernel_rfl) hc16 (X_of_Y0 rfl (Y0_rem (k := .i64) (a := vn14) (b := 8) rfl (by kernel_rfl) (by kernel_rfl) (by decide))) ?_
      refine XL_takeC _ rfl rfl (by kernel_rfl) hc16 (X_of_Y0 rfl (Y0_eqw (k := .i64) (a := Int.tmod vn14 8) (b := 4) rfl (by kernel_rfl) (by kernel_rfl))) ?_
      refine XL_cons rfl (X_of_Y0 rfl (Y0_pick0 (b := eqI (Int.tmod vn14 4) 1) (p := true) (q := eqI (Int.tmod vn14 8) 4) rfl (by kernel_rfl) hc16 (by kernel_rfl))) ?_
      refine L0 rfl rfl (E_assign (Bo (bif (eqI (Int.tmod vn14 4) 1) then true else (eqI (Int.tmod vn14 8) 4))) rfl (by kernel_rfl)) ?_
      refine XL_nil ?_
      subst ht17
      kernel_rfl
    refine V_cond rfl (fun hc18 => ?_) (fun hc18 => ?_)
    ·have h := of_true h hc18
     obtain ⟨u19, hu19, h⟩ := of_bind h
     refine V_sreg (mb 69 4) [24] (s1 := ⟨.bot :: .bot :: .ow 24 :: bt 66 [], [(24, .arr 94 2 ((o6 ++ ([(2, 0)])).map c94))]⟩) ?_ ?_
     ·refine L0 rfl rfl (E_move (.ow 24) rfl (by kernel_rfl)) ?_
      refine L0 rfl rfl (Y0_build (cs := [Ti 2, Ti 0]) pl94 bt94 rfl rfl (by kernel_rfl)) ?_
      refine L1 rfl rfl (Y1_bslice (z := zv94) (els := [(2, 0)].map c94) Try.underlying91 iz94 rfl (by decide) rfl (by kernel_rfl) rfl (by simp [c94]) (by decide) (by decide)) ?_
      refine XL_cons rfl (X_appendM (c := c94) (xs := o6) (ys := [(2, 0)]) (id := 24) (z := zv94) rfl rfl Try.underlying91 izb94 rfl (by kernel_rfl) (by kernel_rfl) (by kernel_rfl) (fun _ => rfl) (by simp) (room_some hu19) (by decide)) ?_
      refine L0 rfl rfl (E_assign (.ow 24) rfl (by kernel_rfl)) ?_
      refine XL_nil ?_
      kernel_rfl
     refine V_ret ?_
     obtain rfl := some_inj h
     show Post _ _ _ _ _
     exact ⟨.inr rfl, rfl, rfl, rfl⟩
    ·have h := of_false h hc18
     refine V_sreg (mb 69 281474976710728) [24] (s1 := ⟨bt 3 (.ow 24 :: .bot :: .bot :: I vn14 :: bt 41 (Bo (eqI (Int.tmod vn14 8) 2) :: bt 20 [])), [(24, .arr 94 2 (o6.map c94))]⟩) ?_ ?_
     ·refine L0 rfl rfl (E_move (I vn14) rfl (by kernel_rfl)) ?_
      refine L0 rfl rfl (Y0_rem (k := .i64) (a := vn14) (b := 8) rfl (by kernel_rfl) (by kernel_rfl) (by decide)) ?_
      refine L0 rfl rfl (Y0_eqw (k := .i64) (a := Int.tmod vn14 8) (b := 2) rfl (by kernel_rfl) (by kernel_rfl)) ?_
      refine L0 rfl rfl (E_assign (Bo (eqI (Int.tmod vn14 8) 2)) rfl (by kernel_rfl)) ?_
      refine XL_nil ?_
      kernel_rfl
     refine V_cond rfl (fun hc20 => ?_) (fun hc20 => ?_)
     ·have h := of_true h hc20
      obtain ⟨u21, hu21, h⟩ := of_bind h
      refine V_sreg (mb 69 4) [24] (s1 := ⟨.bot :: .bot :: .ow 24 :: bt 66 [], [(24, .arr 94 2 ((o6 ++ ([(4, 0)])).map c94))]⟩) ?_ ?_
      ·refine L0 rfl rfl (E_move (.ow 24) rfl (by kernel_rfl)) ?_
       refine L0 rfl rfl (Y0_build (cs := [Ti 4, Ti 0]) pl94 bt94 rfl rfl (by kernel_rfl)) ?_
       refine L1 rfl rfl (Y1_bslice (z := zv94) (els := [(4, 0)].map c94) Try.underlying91 iz94 rfl (by decide) rfl (by kernel_rfl) rfl (by simp [c94]) (by decide) (by decide)) ?_
       refine XL_cons rfl (X_appendM (c := c94) (xs := o6) (ys := [(4, 0)]) (id := 24) (z := zv94) rfl rfl Try.underlying91 izb94 rfl (by kernel_rfl) (by kernel_rfl) (by kernel_rfl) (fun _ => rfl) (by simp) (room_some hu21) (by decide)) ?_
       refine L0 rfl rfl (E_assign (.ow 24) rfl (by kernel_rfl)) ?_
       refine XL_nil ?_
       kernel_rfl
      refine V_ret ?_
      obtain rfl := some_inj h
      show Post _ _ _ _ _
      exact ⟨.inr rfl, rfl, rfl, rfl⟩
     ·have h := of_false h hc20
      refine V_sreg (mb 69 72057594037927944) [24] (s1 := ⟨bt 3 (.ow 24 :: bt 52 (Bo (eqI (Int.tmod vn14 8) 6) :: bt 12 [])), [(24, .arr 94 2 (o6.map c94))]⟩) ?_ ?_
      ·refine L0 rfl rfl (E_move (I vn14) rfl (by kernel_rfl)) ?_
       refine L0 rfl rfl (Y0_rem (k := .i64) (a := vn14) (b := 8) rfl (by kernel_rfl) (by kernel_rfl) (by decide)) ?_
       refine L0 rfl rfl (Y0_eqw (k := .i64) (a := Int.tmod vn14 8) (b := 6) rfl (by kernel_rfl) (by kernel_rfl)) ?_
       refine L0 rfl rfl (E_assign (Bo (eqI (Int.tmod vn14 8) 6)) rfl (by kernel_rfl)) ?_
       refine XL_nil ?_
       kernel_rfl
      refine V_cond rfl (fun hc22 => ?_) (fun hc22 => ?_)
      ·have h := of_true h hc22
       obtain ⟨u23, hu23, h⟩ := of_bind h
       refine V_sreg (mb 69 4) [24] (s1 := ⟨.bot :: .bot :: .ow 24 :: bt 66 [], [(24, .arr 94 2 ((o6 ++ ([(3, 0)])).map c94))]⟩) ?_ ?_
       ·refine L0 rfl rfl (E_move (.ow 24) rfl (by kernel_rfl)) ?_
        refine L0 rfl rfl (Y0_build (cs := [Ti 3, Ti 0]) pl94 bt94 rfl rfl (by kernel_rfl)) ?_
        refine L1 rfl rfl (Y1_bslice (z := zv94) (els := [(3, 0)].map c94) Try.underlying91 iz94 rfl (by decide) rfl (by kernel_rfl) rfl (by simp [c94]) (by decide) (by decide)) ?_
        refine XL_cons rfl (X_appendM (c := c94) (xs := o6) (ys := [(3, 0)]) (id := 24) (z := zv94) rfl rfl Try.underlying91 izb94 rfl (by kernel_rfl) (by kernel_rfl) (by kernel_rfl) (fun _ => rfl) (by simp) (room_some hu23) (by decide)) ?_
        refine L0 rfl rfl (E_assign (.ow 24) rfl (by kernel_rfl)) ?_
        refine XL_nil ?_
        kernel_rfl
       refine V_ret ?_
       obtain rfl := some_inj h
       show Post _ _ _ _ _
       exact ⟨.inr rfl, rfl, rfl, rfl⟩
      ·have h := of_false h hc22
       refine V_skip ?_
       show V _ _ _ _
       obtain ⟨u24, hu24, h⟩ := of_bind h
       refine V_sreg (mb 69 4) [24] (s1 := ⟨.bot :: .bot :: .ow 24 :: bt 66 [], [(24, .arr 94 2 ((o6 ++ ([(2, 0), (3, 0)])).map c94))]⟩) ?_ ?_
       ·refine L0 rfl rfl (E_move (.ow 24) rfl (by kernel_rfl)) ?_
        refine L0 rfl rfl (Y0_build (cs := [Ti 2, Ti 0]) pl94 bt94 rfl rfl (by kernel_rfl)) ?_
        refine L0 rfl rfl (Y0_build (cs := [Ti 3, Ti 0]) pl94 bt94 rfl rfl (by kernel_rfl)) ?_
        refine L1 rfl rfl (Y1_bslice (z := zv94) (els := [(2, 0), (3, 0)].map c94) Try.underlying91 iz94 rfl (by decide) rfl (by kernel_rfl) rfl (by simp [c94]) (by decide) (by decide)) ?_
        refine XL_cons rfl (X_appendM (c := c94) (xs := o6) (ys := [(2, 0), (3, 0)]) (id := 24) (z := zv94) rfl rfl Try.underlying91 izb94 rfl (by kernel_rfl) (by kernel_rfl) (by kernel_rfl) (fun _ => rfl) (by simp) (room_some hu24) (by decide)) ?_
        refine L0 rfl rfl (E_assign (.ow 24) rfl (by kernel_rfl)) ?_
        refine XL_nil ?_
        kernel_rfl
       refine V_ret ?_
       obtain rfl := some_inj h
       show Post _ _ _ _ _
       exact ⟨.inr rfl, rfl, rfl, rfl⟩
theorem cf_spec_syEnd : ∀ args w, (callFunc 88 args).run Try.prog w = .ok (.enter 88 args) w := run_callFunc Try.func88 (by kernel_rfl) (by kernel_rfl)
set_option maxRecDepth 100000 in
set_option maxHeartbeats 400000 in
theorem s_spec_syEnd {vs1 : (Int × Int × Int)} {r : Bool} (h : r_spec_syEnd vs1 = some r) : CallS Try.prog 88 [.ag [Ti vs1.1, Ti vs1.2.1, Ti vs1.2.2]] (Bo r) [] := by
  refine CallS_of_text (rs := [.t 2]) (vs := [.tmp 2]) Try.func88 rfl rfl (.cons rfl FitsL.nil) (by decide) 11 rfl ?_
  unfold r_spec_syEnd at h
  show V _ _ ⟨.ag [Ti vs1.1, Ti vs1.2.1, Ti vs1.2.2] :: bt 10 [], []⟩ _
  refine V_sreg (mb 11 2) [8] (s1 := ⟨.bot :: .pt 8 0 :: bt 9 [], [(8, .box [Ti vs1.1, Ti vs1.2.1, Ti vs1.2.2])]⟩) ?_ ?_
  ·refine L1 rfl rfl (Y1_box (cs := [Ti vs1.1, Ti vs1.2.1, Ti vs1.2.2]) rfl (by kernel_rfl)) ?_
   refine L0 rfl rfl (E_assign (Bo false) rfl (by kernel_rfl)) ?_
   refine XL_nil ?_
   kernel_rfl
  refine V_sreg (mb 11 4) [] (s1 := ⟨.bot :: .bot :: Bo (bif (eqI vs1.1 0) then true else (eqI vs1.1 1)) :: bt 8 [], []⟩) ?_ ?_
  ·refine L0 rfl rfl (E_field (.pt 8 0) Try.underlying82 rfl sz3 rfl (by kernel_rfl) (by intro hh; cases hh)) ?_
   refine L0 rfl rfl (Y0_load1 (c := Ti vs1.1) (cs := [Ti vs1.2.1, Ti vs1.2.2]) sc3 rfl (by kernel_rfl)) ?_
   refine L0 rfl rfl (Y0_eqw (k := .i64) (a := vs1.1) (b := 0) rfl (by kernel_rfl) (by kernel_rfl)) ?_
   refine L0 rfl rfl (E_move (Bo (eqI vs1.1 0)) rfl (by kernel_rfl)) ?_
   refine XL_split (eqI vs1.1 0) (fun hc2 => ?_) (fun hc2 => ?_)
   ·refine XL_skipF _ rfl rfl (by kernel_rfl) hc2 rfl ?_
    refine XL_skipF _ rfl rfl (by kernel_rfl) hc2 rfl ?_
    refine XL_skipF _ rfl rfl (by kernel_rfl) hc2 rfl ?_
    refine XL_cons rfl (X_of_Y0 rfl (Y0_pick1 (b := eqI vs1.1 0) (p := true) (q := eqI vs1.1 1) rfl (by kernel_rfl) hc2 (by kernel_rfl))) ?_
    refine L0 rfl rfl (E_assign (Bo (bif (eqI vs1.1 0) then true else (eqI vs1.1 1))) rfl (by kernel_rfl)) ?_
    refine XL_nil ?_
    kernel_rfl
   ·refine XL_takeC _ rfl rfl (by kernel_rfl) hc2 (X_of_Y0 rfl (E_field (.pt 8 0) Try.underlying82 rfl sz3 rfl (by kernel_rfl) (by intro hh; cases hh))) ?_
    refine XL_takeC _ rfl rfl (by kernel_rfl) hc2 (X_of_Y0 rfl (Y0_load1 (c := Ti vs1.1) (cs := [Ti vs1.2.1, Ti vs1.2.2]) sc3 rfl (by kernel_rfl))) ?_
    refine XL_takeC _ rfl rfl (by kernel_rfl) hc2 (X_of_Y0 rfl (Y0_eqw (k := .i64) (a := vs1.1) (b := 1) rfl (by kernel_rfl) (by kernel_rfl))) ?_
    refine XL_cons rfl (X_of_Y0 rfl (Y0_pick0 (b := eqI vs1.1 0) (p := true) (q := eqI vs1.1 1) rfl (by kernel_rfl) hc2 (by kernel_rfl))) ?_
    refine L0 rfl rfl (E_assign (Bo (bif (eqI vs1.1 0) then true else (eqI vs1.1 1))) rfl (by kernel_rfl)) ?_
    refine XL_nil ?_
    kernel_rfl
  refine V_ret ?_
  obtain rfl := some_inj h
  show Post _ _ _ _ _
  exact ⟨.inr rfl, rfl, rfl, rfl⟩
theorem cf_spec_syTwo : ∀ args w, (callFunc 95 args).run Try.prog w = .ok (.enter 95 args) w := run_callFunc Try.func95 (by kernel_rfl) (by kernel_rfl)
set_option maxRecDepth 100000 in
set_option maxHeartbeats 400000 in
theorem s_spec_syTwo {a1 : Int} {r : Int} (h : r_spec_syTwo a1 = some r) : CallS Try.prog 95 [I a1] (I r) [] := by
  refine CallS_of_text (rs := [.t 2]) (vs := [.tmp 2]) Try.func95 rfl rfl (.cons rfl FitsL.nil) (by decide) 11 rfl ?_
  unfold r_spec_syTwo at h
  show V _ _ ⟨I a1 :: bt 10 [], []⟩ _
  refine V_sreg (mb 11 1) [] (s1 := ⟨I a1 :: bt 10 [], []⟩) ?_ ?_
  ·refine L0 rfl rfl (E_assign (I 0) rfl (by kernel_rfl)) ?_
   refine XL_nil ?_
   kernel_rfl
  refine V_seq ?_
  obtain ⟨y2, hy2, h⟩ := of_bind h
  refine V_sreg (mb 11 16) [] (s1 := ⟨bt 4 (I y2 :: bt 6 []), []⟩) ?_ ?_
  ·refine L0 rfl rfl (E_move (I a1) rfl (by kernel_rfl)) ?_
   refine L1 rfl rfl (Y1_call (s_spec_nuMod hy2) cf_spec_nuMod rfl (by kernel_rfl)) ?_
   refine XL_nil ?_
   kernel_rfl
  refine V_block ?_
  refine V_seq ?_
  refine V_sreg (mb 11 48) [] (s1 := ⟨bt 4 (I y2 :: Bo (eqI y2 1) :: bt 5 []), []⟩) ?_ ?_
  ·refine L0 rfl rfl (Y0_eqw (k := .i64) (a := y2) (b := 1) rfl (by kernel_rfl) (by kernel_rfl)) ?_
   refine L0 rfl rfl (E_assign (Bo (eqI y2 1)) rfl (by kernel_rfl)) ?_
   refine XL_nil ?_
   kernel_rfl
  refine V_cond rfl (fun hc3 => ?_) (fun hc3 => ?_)
  ·have h := of_true h hc3
   refine V_skip ?_
   show V _ _ _ _
   refine V_cond rfl (fun hc4 => ?_) (fun hc4 => ?_)
   ·have h := of_true h hc4
    refine V_sreg (mb 11 4) [] (s1 := ⟨.bot :: .bot :: I 1 :: bt 8 [], []⟩) ?_ ?_
    ·refine L0 rfl rfl (E_assign (I 1) rfl (by kernel_rfl)) ?_
     refine XL_nil ?_
     kernel_rfl
    refine V_ret ?_
    obtain rfl := some_inj h
    show Post _ _ _ _ _
    exact ⟨.inr rfl, rfl, rfl, rfl⟩
   ·have h := of_false h hc4
    refine V_seq ?_
    refine V_sreg (mb 11 272) [] (s1 := ⟨bt 4 (I y2 :: bt 3 (Bo (eqI y2 3) :: .bot :: .bot :: [])), []⟩) ?_ ?_
    ·refine L0 rfl rfl (Y0_eqw (k := .i64) (a := y2) (b := 3) rfl (by kernel_rfl) (by kernel_rfl)) ?_
     refine L0 rfl rfl (E_assign (Bo (eqI y2 3)) rfl (by kernel_rfl)) ?_
     refine XL_nil ?_
     kernel_rfl
    refine V_cond rfl (fun hc5 => ?_) (fun hc5 => ?_)
    ·have h := of_true h hc5
     refine V_skip ?_
     show V _ _ _ _
     refine V_cond rfl (fun hc6 => ?_) (fun hc6 => ?_)
     ·have h := of_true h hc6
      refine V_sreg (mb 11 4) [] (s1 := ⟨.bot :: .bot :: I (-1) :: bt 8 [], []⟩) ?_ ?_
      ·refine L0 rfl rfl (E_assign (I (-1)) rfl (by kernel_rfl)) ?_
       refine XL_nil ?_
       kernel_rfl
      refine V_ret ?_
      obtain rfl := some_inj h
      show Post _ _ _ _ _
      exact ⟨.inr rfl, rfl, rfl, rfl⟩
     ·have h := of_false h hc6
      refine V_skip ?_
      show V _ _ _ _
      refine V_sreg (mb 11 4) [] (s1 := ⟨.bot :: .bot :: I 0 :: bt 8 [], []⟩) ?_ ?_
      ·refine L0 rfl rfl (E_assign (I 0) rfl (by kernel_rfl)) ?_
       refine XL_nil ?_
       kernel_rfl
      refine V_ret ?_
      obtain rfl := some_inj h
      show Post _ _ _ _ _
      exact ⟨.inr rfl, rfl, rfl, rfl⟩
    ·have h := of_false h hc5
     refine V_reg (mb 11 256) [] (s1 := ⟨bt 8 (Bo (eqI y2 5) :: .bot :: .bot :: []), []⟩) ?_ ?_
     ·refine L0 rfl rfl (Y0_eqw (k := .i64) (a := y2) (b := 5) rfl (by kernel_rfl) (by kernel_rfl)) ?_
      refine L0 rfl rfl (E_assign (Bo (eqI y2 5)) rfl (by kernel_rfl)) ?_
      refine XL_nil ?_
      kernel_rfl
     show V _ _ _ _
     refine V_cond rfl (fun hc7 => ?_) (fun hc7 => ?_)
     ·have h := of_true h hc7
      refine V_sreg (mb 11 4) [] (s1 := ⟨.bot :: .bot :: I (-1) :: bt 8 [], []⟩) ?_ ?_
      ·refine L0 rfl rfl (E_assign (I (-1)) rfl (by kernel_rfl)) ?_
       refine XL_nil ?_
       kernel_rfl
      refine V_ret ?_
      obtain rfl := some_inj h
      show Post _ _ _ _ _
      exact ⟨.inr rfl, rfl, rfl, rfl⟩
     ·have h := of_false h hc7
      refine V_skip ?_
      show V _ _ _ _
      refine V_sreg (mb 11 4) [] (s1 := ⟨.bot :: .bot :: I 0 :: bt 8 [], []⟩) ?_ ?_
      ·refine L0 rfl rfl (E_assign (I 0) rfl (by kernel_rfl)) ?_
       refine XL_nil ?_
       kernel_rfl
      refine V_ret ?_
      obtain rfl := some_inj h
      show Post _ _ _ _ _
      exact ⟨.inr rfl, rfl, rfl, rfl⟩
  ·have h := of_false h hc3
   refine V_reg (mb 11 48) [] (s1 := ⟨bt 4 (I y2 :: Bo (eqI y2 7) :: bt 5 []), []⟩) ?_ ?_
   ·refine L0 rfl rfl (Y0_eqw (k := .i64) (a := y2) (b := 7) rfl (by kernel_rfl) (by kernel_rfl)) ?_
    refine L0 rfl rfl (E_assign (Bo (eqI y2 7)) rfl (by kernel_rfl)) ?_
    refine XL_nil ?_
    kernel_rfl
   show V _ _ _ _
   refine V_cond rfl (fun hc8 => ?_) (fun hc8 => ?_)
   ·have h := of_true h hc8
    refine V_sreg (mb 11 4) [] (s1 := ⟨.bot :: .bot :: I 1 :: bt 8 [], []⟩) ?_ ?_
    ·refine L0 rfl rfl (E_assign (I 1) rfl (by kernel_rfl)) ?_
     refine XL_nil ?_
     kernel_rfl
    refine V_ret ?_
    obtain rfl := some_inj h
    show Post _ _ _ _ _
    exact ⟨.inr rfl, rfl, rfl, rfl⟩
   ·have h := of_false h hc8
    refine V_seq ?_
    refine V_sreg (mb 11 272) [] (s1 := ⟨bt 4 (I y2 :: bt 3 (Bo (eqI y2 3) :: .bot :: .bot :: [])), []⟩) ?_ ?_
    ·refine L0 rfl rfl (Y0_eqw (k := .i64) (a := y2) (b := 3) rfl (by kernel_rfl) (by kernel_rfl)) ?_
     refine L0 rfl rfl (E_assign (Bo (eqI y2 3)) rfl (by kernel_rfl)) ?_
     refine XL_nil ?_
     kernel_rfl
    refine V_cond rfl (fun hc9 => ?_) (fun hc9 => ?_)
    ·have h := of_true h hc9
     refine V_skip ?_
     show V _ _ _ _
     refine V_cond rfl (fun hc10 => ?_) (fun hc10 => ?_)
     ·have h := of_true h hc10
      refine V_sreg (mb 11 4) [] (s1 := ⟨.bot :: .bot :: I (-1) :: bt 8 [], []⟩) ?_ ?_
      ·refine L0 rfl rfl (E_assign (I (-1)) rfl (by kernel_rfl)) ?_
       refine XL_nil ?_
       kernel_rfl
      refine V_ret ?_
      obtain rfl := some_inj h
      show Post _ _ _ _ _
      exact ⟨.inr rfl, rfl, rfl, rfl⟩
     ·have h := of_false h hc10
      refine V_skip ?_
      show V _ _ _ _
      refine V_sreg (mb 11 4) [] (s1 := ⟨.bot :: .bot :: I 0 :: bt 8 [], []⟩) ?_ ?_
      ·refine L0 rfl rfl (E_assign (I 0) rfl (by kernel_rfl)) ?_
       refine XL_nil ?_
       kernel_rfl
      refine V_ret ?_
      obtain rfl := some_inj h
      show Post _ _ _ _ _
      exact ⟨.inr rfl, rfl, rfl, rfl⟩
    ·have h := of_false h hc9
     refine V_reg (mb 11 256) [] (s1 := ⟨bt 8 (Bo (eqI y2 5) :: .bot :: .bot :: []), []⟩) ?_ ?_
     ·refine L0 rfl rfl (Y0_eqw (k := .i64) (a := y2) (b := 5) rfl (by kernel_rfl) (by kernel_rfl)) ?_
      refine L0 rfl rfl (E_assign (Bo (eqI y2 5)) rfl (by kernel_rfl)) ?_
      refine XL_nil ?_
      kernel_rfl
     show V _ _ _ _
     refine V_cond rfl (fun hc11 => ?_) (fun hc11 => ?_)
     ·have h := of_true h hc11
      refine V_sreg (mb 11 4) [] (s1 := ⟨.bot :: .bot :: I (-1) :: bt 8 [], []⟩) ?_ ?_
      ·refine L0 rfl rfl (E_assign (I (-1)) rfl (by kernel_rfl)) ?_
       refine XL_nil ?_
       kernel_rfl
      refine V_ret ?_
      obtain rfl := some_inj h
      show Post _ _ _ _ _
      exact ⟨.inr rfl, rfl, rfl, rfl⟩
     ·have h := of_false h hc11
      refine V_skip ?_
      show V _ _ _ _
      refine V_sreg (mb 11 4) [] (s1 := ⟨.bot :: .bot :: I 0 :: bt 8 [], []⟩) ?_ ?_
      ·refine L0 rfl rfl (E_assign (I 0) rfl (by kernel_rfl)) ?_
       refine XL_nil ?_
       kernel_rfl
      refine V_ret ?_
      obtain rfl := some_inj h
      show Post _ _ _ _ _
      exact ⟨.inr rfl, rfl, rfl, rfl⟩
theorem cf_spec_sySuccessor : ∀ args w, (callFunc 89 args).run Try.prog w = .ok (.enter 89 args) w := run_callFunc Try.func89 (by kernel_rfl) (by kernel_rfl)
set_option maxRecDepth 100000 in
set_option maxHeartbeats 400000 in
theorem s_spec_sySuccessor {vs1 : (Int × Int × Int)} {r : (Int × Int × Int)} (h : r_spec_sySuccessor vs1 = some r) : CallS Try.prog 89 [.ag [Ti vs1.1, Ti vs1.2.1, Ti vs1.2.2]] (.ag [Ti r.1, Ti r.2.1, Ti r.2.2]) [] := by
  refine CallS_of_text (rs := [.w 2 3]) (vs := [.cell 2 82]) Try.func89 rfl rfl (.cons ⟨rfl, wd82⟩ FitsL.nil) (by decide) 56 rfl ?_
  unfold r_spec_sySuccessor at h
  show V _ _ ⟨.ag [Ti vs1.1, Ti vs1.2.1, Ti vs1.2.2] :: bt 55 [], []⟩ _
  refine V_sreg (mb 56 6) [16, 8] (s1 := ⟨.bot :: .pt 8 0 :: .pt 16 0 :: bt 53 [], [(16, .box [Ti 0, Ti 0, Ti 0]), (8, .box [Ti vs1.1, Ti vs1.2.1, Ti vs1.2.2])]⟩) ?_ ?_
  ·refine L1 rfl rfl (Y1_box (cs := [Ti vs1.1, Ti vs1.2.1, Ti vs1.2.2]) rfl (by kernel_rfl)) ?_
   refine L1 rfl rfl (Y1_alloc (z := zv82) rfl zf82 rfl) ?_
   refine XL_nil ?_
   kernel_rfl
  refine V_seq ?_
  refine V_block ?_
  obtain ⟨y2, hy2, h⟩ := of_bind h
  refine V_sreg (mb 56 33554438) [16, 8] (s1 := ⟨.bot :: .pt 8 0 :: .pt 16 0 :: bt 22 (Bo (!y2) :: bt 30 []), [(16, .box [Ti 0, Ti 0, Ti 0]), (8, .box [Ti vs1.1, Ti vs1.2.1, Ti vs1.2.2])]⟩) ?_ ?_
  ·refine L0 rfl rfl (E_field (.pt 8 0) Try.underlying82 rfl sz3 rfl (by kernel_rfl) (by intro hh; cases hh)) ?_
   refine L0 rfl rfl (Y0_load1 (c := Ti vs1.1) (cs := [Ti vs1.2.1, Ti vs1.2.2]) sc3 rfl (by kernel_rfl)) ?_
   refine L0 rfl rfl (E_field (.pt 8 1) Try.underlying82 rfl sz3 rfl (by kernel_rfl) (by intro hh; cases hh)) ?_
   refine L0 rfl rfl (Y0_load1 (c := Ti vs1.2.1) (cs := [Ti vs1.2.2]) sc3 rfl (by kernel_rfl)) ?_
   refine L0 rfl rfl (Y0_sub64 (a := vs1.2.1) (b := 1) rfl (by kernel_rfl) (by kernel_rfl)) ?_
   refine L1 rfl rfl (Y1_call (s_spec_l1In hy2) cf_spec_l1In rfl (by kernel_rfl)) ?_
   refine L0 rfl rfl (Y0_not (b := y2) rfl (by kernel_rfl)) ?_
   refine L0 rfl rfl (E_assign (Bo (!y2)) rfl (by kernel_rfl)) ?_
   refine XL_nil ?_
   kernel_rfl
  refine V_cond rfl (fun hc3 => ?_) (fun hc3 => ?_)
  ·have h := of_true h hc3
   obtain ⟨y4, hy4, h⟩ := of_bind h
   refine V_reg (mb 56 6) [16, 8] (s1 := ⟨.bot :: .pt 8 0 :: .pt 16 0 :: bt 53 [], [(16, .box [Ti 0, Ti 0, Ti 0]), (8, .box [Ti y4, Ti vs1.2.1, Ti vs1.2.2])]⟩) ?_ ?_
   ·refine L0 rfl rfl (E_field (.pt 8 0) Try.underlying82 rfl sz3 rfl (by kernel_rfl) (by intro hh; cases hh)) ?_
    refine L0 rfl rfl (Y0_load1 (c := Ti vs1.1) (cs := [Ti vs1.2.1, Ti vs1.2.2]) sc3 rfl (by kernel_rfl)) ?_
    refine L0 rfl rfl (E_field (.pt 8 1) Try.underlying82 rfl sz3 rfl (by kernel_rfl) (by intro hh; cases hh)) ?_
    refine L0 rfl rfl (Y0_load1 (c := Ti vs1.2.1) (cs := [Ti vs1.2.2]) sc3 rfl (by kernel_rfl)) ?_
    refine L1 rfl rfl (Y1_call (s_spec_nuMod hy4) cf_spec_nuMod rfl (by kernel_rfl)) ?_
    refine L0 rfl rfl (E_field (.pt 8 0) Try.underlying82 rfl sz3 rfl (by kernel_rfl) (by intro hh; cases hh)) ?_
    refine XL_cons rfl (E_store (id := 8) (off := 0) (cs := [Ti vs1.1, Ti vs1.2.1, Ti vs1.2.2]) (vc := [Ti y4]) [Ti y4, Ti vs1.2.1, Ti vs1.2.2] rfl rfl (by kernel_rfl) (by kernel_rfl) (by kernel_rfl) sz3 (Nat.le_of_ble_eq_true rfl) (by kernel_rfl)) ?_
    refine XL_nil ?_
    kernel_rfl
   show V _ _ _ _
   refine V_sreg (mb 56 4) [16] (s1 := ⟨.bot :: .bot :: .pt 16 0 :: bt 53 [], [(16, .box [Ti y4, Ti vs1.2.1, Ti vs1.2.2])]⟩) ?_ ?_
   ·refine L0 rfl rfl (E_loadn (cs := [Ti y4, Ti vs1.2.1, Ti vs1.2.2]) [Ti y4, Ti vs1.2.1, Ti vs1.2.2] wd82 rfl (by kernel_rfl) (Nat.le_of_ble_eq_true rfl) (by kernel_rfl)) ?_
    refine XL_cons rfl (E_store (id := 16) (off := 0) (cs := [Ti 0, Ti 0, Ti 0]) (vc := [Ti y4, Ti vs1.2.1, Ti vs1.2.2]) [Ti y4, Ti vs1.2.1, Ti vs1.2.2] rfl rfl (by kernel_rfl) (by kernel_rfl) (by kernel_rfl) sz82 (Nat.le_of_ble_eq_true rfl) (by kernel_rfl)) ?_
    refine XL_nil ?_
    kernel_rfl
   refine V_ret ?_
   obtain rfl := some_inj h
   show Post _ _ _ _ _
   exact ⟨.inr rfl, rfl, rfl, rfl⟩
  ·have h := of_false h hc3
   refine V_sreg (mb 56 549755813894) [16, 8] (s1 := ⟨.bot :: .pt 8 0 :: .pt 16 0 :: bt 36 (Bo (eqI (Int.tmod vs1.1 2) 0) :: bt 16 []), [(16, .box [Ti 0, Ti 0, Ti 0]), (8, .box [Ti vs1.1, Ti vs1.2.1, Ti vs1.2.2])]⟩) ?_ ?_
   ·refine L0 rfl rfl (E_field (.pt 8 0) Try.underlying82 rfl sz3 rfl (by kernel_rfl) (by intro hh; cases hh)) ?_
    refine L0 rfl rfl (Y0_load1 (c := Ti vs1.1) (cs := [Ti vs1.2.1, Ti vs1.2.2]) sc3 rfl (by kernel_rfl)) ?_
    refine L0 rfl rfl (Y0_rem (k := .i64) (a := vs1.1) (b := 2) rfl (by kernel_rfl) (by kernel_rfl) (by decide)) ?_
    refine L0 rfl rfl (Y0_eqw (k := .i64) (a := Int.tmod vs1.1 2) (b := 0) rfl (by kernel_rfl) (by kernel_rfl)) ?_
    refine L0 rfl rfl (E_assign (Bo (eqI (Int.tmod vs1.1 2) 0)) rfl (by kernel_rfl)) ?_
    refine XL_nil ?_
    kernel_rfl
   refine V_cond rfl (fun hc5 => ?_) (fun hc5 => ?_)
   ·have h := of_true h hc5
    obtain ⟨f6, hf6, h⟩ := of_sI h
    refine V_sreg (mb 56 6) [16, 8] (s1 := ⟨.bot :: .pt 8 0 :: .pt 16 0 :: bt 53 [], [(16, .box [Ti 0, Ti 0, Ti 0]), (8, .box [Ti f6, Ti vs1.2.1, Ti vs1.2.2])]⟩) ?_ ?_
    ·refine L0 rfl rfl (E_field (.pt 8 0) Try.underlying82 rfl sz3 rfl (by kernel_rfl) (by intro hh; cases hh)) ?_
     refine L0 rfl rfl (Y0_load1 (c := Ti vs1.1) (cs := [Ti vs1.2.1, Ti vs1.2.2]) sc3 rfl (by kernel_rfl)) ?_
     refine L0 rfl rfl (Y0_quo64 (a := vs1.1) (b := 2) rfl (by kernel_rfl) (by kernel_rfl) (by decide)) ?_
     refine L0 rfl rfl (E_field (.pt 8 0) Try.underlying82 rfl sz3 rfl (by kernel_rfl) (by intro hh; cases hh)) ?_
     refine XL_cons rfl (E_store (id := 8) (off := 0) (cs := [Ti vs1.1, Ti vs1.2.1, Ti vs1.2.2]) (vc := [Ti (w64 (Int.tdiv vs1.1 2))]) [Ti (w64 (Int.tdiv vs1.1 2)), Ti vs1.2.1, Ti vs1.2.2] rfl rfl (by kernel_rfl) (by kernel_rfl) (by kernel_rfl) sz3 (Nat.le_of_ble_eq_true rfl) (by kernel_rfl)) ?_
     refine XL_nil ?_
     subst hf6
     kernel_rfl
    obtain ⟨y7, hy7, h⟩ := of_bind h
    obtain ⟨f8, hf8, h⟩ := of_sI h
    refine V_dreg [0, 1, 0, 4, 12, 31, 63, 127] 7 [[.z, .z, .b, .b, .b, .z, .z], [.a, .z, .b, .b, .b, .z, .z], [.b, .b, .z, .z, .z, .z, .z], [.b, .b, .a, .z, .z, .z, .z], [.b, .b, .a, .a, .z, .z, .z], [.a, .a, .a, .a, .a, .z, .z], [.a, .a, .a, .a, .a, .a, .z]] (mb 56 6) [16, 8] (s1 := ⟨.bot :: .pt 8 0 :: .pt 16 0 :: bt 53 [], [(16, .box [Ti 0, Ti 0, Ti 0]), (8, .box [Ti f6, Ti vs1.2.1, Ti f8])]⟩) (by kernel_rfl) (by kernel_rfl) ?_ ?_
    ·refine DE_0 0 (.pt 8 2) (by kernel_rfl) rfl rfl rfl (gsat_none rfl) (by kernel_rfl) (E_field (.pt 8 2) Try.underlying82 rfl sz3 rfl (by kernel_rfl) (by intro hh; cases hh)) 48 rfl ?_
     refine DE_0 1 (I vs1.2.2) (by kernel_rfl) rfl rfl rfl (gsat_none rfl) (by kernel_rfl) (Y0_load1 (c := Ti vs1.2.2) (cs := []) sc3 rfl (by kernel_rfl)) 49 rfl ?_
     refine DE_0 2 (.pt 8 1) (by kernel_rfl) rfl rfl rfl (gsat_none rfl) (by kernel_rfl) (E_field (.pt 8 1) Try.underlying82 rfl sz3 rfl (by kernel_rfl) (by intro hh; cases hh)) 50 rfl ?_
     refine DE_0 3 (I vs1.2.1) (by kernel_rfl) rfl rfl rfl (gsat_none rfl) (by kernel_rfl) (Y0_load1 (c := Ti vs1.2.1) (cs := [Ti vs1.2.2]) sc3 rfl (by kernel_rfl)) 51 rfl ?_
     refine DE_1 4 (by kernel_rfl) rfl rfl rfl (gsat_none rfl) (Y1_call (s_spec_syTwo hy7) cf_spec_syTwo rfl (by kernel_rfl)) rfl rfl rfl 52 rfl ?_
     refine DE_0 5 (I (w64 (vs1.2.2 * y7))) (by kernel_rfl) rfl rfl rfl (gsat_none rfl) (by kernel_rfl) (Y0_mul64 (a := vs1.2.2) (b := y7) rfl (by kernel_rfl) (by kernel_rfl)) 53 rfl ?_
     refine DE_0 6 (.pt 8 2) (by kernel_rfl) rfl rfl rfl (gsat_none rfl) (by kernel_rfl) (E_field (.pt 8 2) Try.underlying82 rfl sz3 rfl (by kernel_rfl) (by intro hh; cases hh)) 54 rfl ?_
     refine DL_nil (by kernel_rfl) ?_
     refine XL_cons rfl (E_store (id := 8) (off := 2) (cs := [Ti f6, Ti vs1.2.1, Ti vs1.2.2]) (vc := [Ti (w64 (vs1.2.2 * y7))]) [Ti f6, Ti vs1.2.1, Ti (w64 (vs1.2.2 * y7))] rfl rfl (by kernel_rfl) (by kernel_rfl) (by kernel_rfl) sz3 (Nat.le_of_ble_eq_true rfl) (by kernel_rfl)) ?_
     refine XL_nil ?_
     subst hf8
     kernel_rfl
    show V _ _ _ _
    refine V_sreg (mb 56 4) [16] (s1 := ⟨.bot :: .bot :: .pt 16 0 :: bt 53 [], [(16, .box [Ti f6, Ti vs1.2.1, Ti f8])]⟩) ?_ ?_
    ·refine L0 rfl rfl (E_loadn (cs := [Ti f6, Ti vs1.2.1, Ti f8]) [Ti f6, Ti vs1.2.1, Ti f8] wd82 rfl (by kernel_rfl) (Nat.le_of_ble_eq_true rfl) (by kernel_rfl)) ?_
     refine XL_cons rfl (E_store (id := 16) (off := 0) (cs := [Ti 0, Ti 0, Ti 0]) (vc := [Ti f6, Ti vs1.2.1, Ti f8]) [Ti f6, Ti vs1.2.1, Ti f8] rfl rfl (by kernel_rfl) (by kernel_rfl) (by kernel_rfl) sz82 (Nat.le_of_ble_eq_true rfl) (by kernel_rfl)) ?_
     refine XL_nil ?_
     kernel_rfl
    refine V_ret ?_
    obtain rfl := some_inj h
    show Post _ _ _ _ _
    exact ⟨.inr rfl, rfl, rfl, rfl⟩
   ·have h := of_false h hc5
    obtain ⟨j9, hj9, h⟩ := of_bind h
    refine V_cutK (mb 56 6) [16, 8] (s1 := ⟨.bot :: .pt 8 0 :: .pt 16 0 :: bt 53 [], [(16, .box [Ti 0, Ti 0, Ti 0]), (8, .box [Ti vs1.1, Ti vs1.2.1, Ti j9])]⟩) ?_ ?_
    ·clear h
     have h := hj9
     clear hj9
     obtain ⟨t11, ht11, h⟩ := of_bind h
     have ht11 := some_inj ht11
     refine V_sreg (mb 56 8198) [16, 8] (s1 := ⟨.bot :: .pt 8 0 :: .pt 16 0 :: bt 10 (Bo t11 :: bt 42 []), [(16, .box [Ti 0, Ti 0, Ti 0]), (8, .box [Ti vs1.1, Ti vs1.2.1, Ti vs1.2.2])]⟩) ?_ ?_
     ·refine L0 rfl rfl (E_field (.pt 8 0) Try.underlying82 rfl sz3 rfl (by kernel_rfl) (by intro hh; cases hh)) ?_
      refine L0 rfl rfl (Y0_load1 (c := Ti vs1.1) (cs := [Ti vs1.2.1, Ti vs1.2.2]) sc3 rfl (by kernel_rfl)) ?_
      refine L0 rfl rfl (Y0_rem (k := .i64) (a := vs1.1) (b := 4) rfl (by kernel_rfl) (by kernel_rfl) (by decide)) ?_
      refine L0 rfl rfl (Y0_eqw (k := .i64) (a := Int.tmod vs1.1 4) (b := 3) rfl (by kernel_rfl) (by kernel_rfl)) ?_
      refine L0 rfl rfl (E_move (Bo (eqI (Int.tmod vs1.1 4) 3)) rfl (by kernel_rfl)) ?_
      refine XL_split (eqI (Int.tmod vs1.1 4) 3) (fun hc10 => ?_) (fun hc10 => ?_)
      ·refine XL_takeC _ rfl rfl (by kernel_rfl) hc10 (X_of_Y0 rfl (E_field (.pt 8 1) Try.underlying82 rfl sz3 rfl (by kernel_rfl) (by intro hh; cases hh))) ?_
       refine XL_takeC _ rfl rfl (by kernel_rfl) hc10 (X_of_Y0 rfl (Y0_load1 (c := Ti vs1.2.1) (cs := [Ti vs1.2.2]) sc3 rfl (by kernel_rfl))) ?_
       refine XL_takeC _ rfl rfl (by kernel_rfl) hc10 (X_of_Y0 rfl (Y0_rem (k := .i64) (a := vs1.2.1) (b := 4) rfl (by kernel_rfl) (by kernel_rfl) (by decide))) ?_
       refine XL_takeC _ rfl rfl (by kernel_rfl) hc10 (X_of_Y0 rfl (Y0_eqw (k := .i64) (a := Int.tmod vs1.2.1 4) (b := 3) rfl (by kernel_rfl) (by kernel_rfl))) ?_
       refine XL_cons rfl (X_of_Y0 rfl (Y0_pick1 (b := eqI (Int.tmod vs1.1 4) 3) (p := eqI (Int.tmod vs1.2.1 4) 3) (q := false) rfl (by kernel_rfl) hc10 (by kernel_rfl))) ?_
       refine XL_nil ?_
       subst ht11
       kernel_rfl
      ·refine XL_skipT _ rfl rfl (by kernel_rfl) hc10 rfl ?_
       refine XL_skipT _ rfl rfl (by kernel_rfl) hc10 rfl ?_
       refine XL_skipT _ rfl rfl (by kernel_rfl) hc10 rfl ?_
       refine XL_skipT _ rfl rfl (by kernel_rfl) hc10 rfl ?_
       refine XL_cons rfl (X_of_Y0 rfl (Y0_pick0 (b := eqI (Int.tmod vs1.1 4) 3) (p := eqI (Int.tmod vs1.2.1 4) 3) (q := false) rfl (by kernel_rfl) hc10 (by kernel_rfl))) ?_
       refine XL_nil ?_
       subst ht11
       kernel_rfl
     refine V_cond rfl (fun hc12 => ?_) (fun hc12 => ?_)
     ·have h := of_true h hc12
      obtain ⟨f13, hf13, h⟩ := of_sI h
      refine V_reg (mb 56 6) [16, 8] (s1 := ⟨.bot :: .pt 8 0 :: .pt 16 0 :: bt 53 [], [(16, .box [Ti 0, Ti 0, Ti 0]), (8, .box [Ti vs1.1, Ti vs1.2.1, Ti f13])]⟩) ?_ ?_
      ·refine L0 rfl rfl (E_field (.pt 8 2) Try.underlying82 rfl sz3 rfl (by kernel_rfl) (by intro hh; cases hh)) ?_
       refine L0 rfl rfl (Y0_load1 (c := Ti vs1.2.2) (cs := []) sc3 rfl (by kernel_rfl)) ?_
       refine L0 rfl rfl (Y0_neg64 (a := vs1.2.2) rfl (by kernel_rfl)) ?_
       refine L0 rfl rfl (E_field (.pt 8 2) Try.underlying82 rfl sz3 rfl (by kernel_rfl) (by intro hh; cases hh)) ?_
       refine XL_cons rfl (E_store (id := 8) (off := 2) (cs := [Ti vs1.1, Ti vs1.2.1, Ti vs1.2.2]) (vc := [Ti (w64 (0 - vs1.2.2))]) [Ti vs1.1, Ti vs1.2.1, Ti (w64 (0 - vs1.2.2))] rfl rfl (by kernel_rfl) (by kernel_rfl) (by kernel_rfl) sz3 (Nat.le_of_ble_eq_true rfl) (by kernel_rfl)) ?_
       refine XL_nil ?_
       subst hf13
       kernel_rfl
      obtain rfl := some_inj h
      show St.keep _ _ _ = _
      rfl
     ·have h := of_false h hc12
      refine V_skip ?_
      obtain rfl := some_inj h
      show St.keep _ _ _ = _
      rfl
    refine V_sreg (mb 56 14) [16, 8] (s1 := ⟨.bot :: .pt 8 0 :: .pt 16 0 :: I vs1.1 :: bt 52 [], [(16, .box [Ti 0, Ti 0, Ti 0]), (8, .box [Ti vs1.1, Ti vs1.2.1, Ti j9])]⟩) ?_ ?_
    ·refine L0 rfl rfl (E_field (.pt 8 0) Try.underlying82 rfl sz3 rfl (by kernel_rfl) (by intro hh; cases hh)) ?_
     refine L0 rfl rfl (Y0_load1 (c := Ti vs1.1) (cs := [Ti vs1.2.1, Ti j9]) sc3 rfl (by kernel_rfl)) ?_
     refine L0 rfl rfl (E_assign (I vs1.1) rfl (by kernel_rfl)) ?_
     refine XL_nil ?_
     kernel_rfl
    refine V_sreg (mb 56 14) [16, 8] (s1 := ⟨.bot :: .pt 8 0 :: .pt 16 0 :: I vs1.1 :: bt 52 [], [(16, .box [Ti 0, Ti 0, Ti 0]), (8, .box [Ti vs1.2.1, Ti vs1.2.1, Ti j9])]⟩) ?_ ?_
    ·refine L0 rfl rfl (E_field (.pt 8 1) Try.underlying82 rfl sz3 rfl (by kernel_rfl) (by intro hh; cases hh)) ?_
     refine L0 rfl rfl (Y0_load1 (c := Ti vs1.2.1) (cs := [Ti j9]) sc3 rfl (by kernel_rfl)) ?_
     refine L0 rfl rfl (E_field (.pt 8 0) Try.underlying82 rfl sz3 rfl (by kernel_rfl) (by intro hh; cases hh)) ?_
     refine XL_cons rfl (E_store (id := 8) (off := 0) (cs := [Ti vs1.1, Ti vs1.2.1, Ti j9]) (vc := [Ti vs1.2.1]) [Ti vs1.2.1, Ti vs1.2.1, Ti j9] rfl rfl (by kernel_rfl) (by kernel_rfl) (by kernel_rfl) sz3 (Nat.le_of_ble_eq_true rfl) (by kernel_rfl)) ?_
     refine XL_nil ?_
     kernel_rfl
    refine V_reg (mb 56 6) [16, 8] (s1 := ⟨.bot :: .pt 8 0 :: .pt 16 0 :: bt 53 [], [(16, .box [Ti 0, Ti 0, Ti 0]), (8, .box [Ti vs1.2.1, Ti vs1.1, Ti j9])]⟩) ?_ ?_
    ·refine L0 rfl rfl (E_move (I vs1.1) rfl (by kernel_rfl)) ?_
     refine L0 rfl rfl (E_field (.pt 8 1) Try.underlying82 rfl sz3 rfl (by kernel_rfl) (by intro hh; cases hh)) ?_
     refine XL_cons rfl (E_store (id := 8) (off := 1) (cs := [Ti vs1.2.1, Ti vs1.2.1, Ti j9]) (vc := [Ti vs1.1]) [Ti vs1.2.1, Ti vs1.1, Ti j9] rfl rfl (by kernel_rfl) (by kernel_rfl) (by kernel_rfl) sz3 (Nat.le_of_ble_eq_true rfl) (by kernel_rfl)) ?_
     refine XL_nil ?_
     kernel_rfl
    show V _ _ _ _
    refine V_sreg (mb 56 4) [16] (s1 := ⟨.bot :: .bot :: .pt 16 0 :: bt 53 [], [(16, .box [Ti vs1.2.1, Ti vs1.1, Ti j9])]⟩) ?_ ?_
    ·refine L0 rfl rfl (E_loadn (cs := [Ti vs1.2.1, Ti vs1.1, Ti j9]) [Ti vs1.2.1, Ti vs1.1, Ti j9] wd82 rfl (by kernel_rfl) (Nat.le_of_ble_eq_true rfl) (by kernel_rfl)) ?_
     refine XL_cons rfl (E_store (id := 16) (off := 0) (cs := [Ti 0, Ti 0, Ti 0]) (vc := [Ti vs1.2.1, Ti vs1.1, Ti j9]) [Ti vs1.2.1, Ti vs1.1, Ti j9] rfl rfl (by kernel_rfl) (by kernel_rfl) (by kernel_rfl) sz82 (Nat.le_of_ble_eq_true rfl) (by kernel_rfl)) ?_
     refine XL_nil ?_
     kernel_rfl
    refine V_ret ?_
    obtain rfl := some_inj h
    show Post _ _ _ _ _
    exact ⟨.inr rfl, rfl, rfl, rfl⟩
theorem cf_spec_syJacobi : ∀ args w, (callFunc 44 args).run Try.prog w = .ok (.enter 44 args) w := run_callFunc Try.func44 (by kernel_rfl) (by kernel_rfl)
set_option maxRecDepth 100000 in
set_option maxHeartbeats 400000 in
theorem s_spec_syJacobi {a1 : Int} {vn2 : Int} {r : Int} (h : r_spec_syJacobi a1 vn2 = some r) : CallS Try.prog 44 [I a1, I vn2] (I r) [] := by
  refine CallS_of_text (rs := [.t 4]) (vs := [.tmp 4]) Try.func44 rfl rfl (.cons rfl FitsL.nil) (by decide) 24 rfl ?_
  unfold r_spec_syJacobi at h
  show V _ _ ⟨I a1 :: I vn2 :: bt 22 [], []⟩ _
  refine V_sreg (mb 24 3) [] (s1 := ⟨I a1 :: I vn2 :: bt 22 [], []⟩) ?_ ?_
  ·refine L0 rfl rfl (E_assign (I 0) rfl (by kernel_rfl)) ?_
   refine XL_nil ?_
   kernel_rfl
  refine V_sreg (mb 24 32) [40] (s1 := ⟨bt 5 (.pt 40 0 :: bt 18 []), [(40, .box [Ti a1, Ti vn2, Ti 1])]⟩) ?_ ?_
  ·refine L0 rfl rfl (E_move (I a1) rfl (by kernel_rfl)) ?_
   refine L0 rfl rfl (E_move (I vn2) rfl (by kernel_rfl)) ?_
   refine L0 rfl rfl (Y0_build (cs := [Ti a1, Ti vn2, Ti 1]) pl82 bt82 rfl rfl (by kernel_rfl)) ?_
   refine L1 rfl rfl (Y1_alloc (z := zv82) rfl zf82 rfl) ?_
   refine XL_cons rfl (E_store (id := 40) (off := 0) (cs := [Ti 0, Ti 0, Ti 0]) (vc := [Ti a1, Ti vn2, Ti 1]) [Ti a1, Ti vn2, Ti 1] rfl rfl (by kernel_rfl) (by kernel_rfl) (by kernel_rfl) sz82 (Nat.le_of_ble_eq_true rfl) (by kernel_rfl)) ?_
   refine XL_nil ?_
   kernel_rfl
  refine V_seq ?_
  obtain ⟨o7, hLo7, h⟩ := of_bind h
  refine V_toK (mb 24 32) [40] (s1 := ⟨bt 5 (.pt 40 0 :: bt 18 []), [(40, .box [Ti o7.1, Ti o7.2.1, Ti o7.2.2])]⟩) ?_ ?_
  ·clear h
   refine V_block (V_loop (fun n s => ∃ (f3 : Int) (f4 : Int) (f5 : Int), s.keep (mb 24 32) [40] = (⟨bt 5 (.pt 40 0 :: bt 18 []), [(40, .box [Ti f3, Ti f4, Ti f5])]⟩ : St) ∧ r_spec_syJacobi_L6 n f3 f4 f5 = some o7) FU ⟨_, _, _,  by rfl, hLo7⟩ ?_)
   clear hLo7
   rintro n s ⟨f3, f4, f5, hs, h⟩
   refine V_keep _ _ hs ?_
   clear hs
   cases n with
   | zero => cases h
   | succ n =>
    rw [r_spec_syJacobi_L6] at h
    refine V_seq ?_
    obtain ⟨y8, hy8, h⟩ := of_bind h
    refine V_sreg (mb 24 2080) [40] (s1 := ⟨bt 5 (.pt 40 0 :: bt 5 (Bo (!y8) :: bt 12 [])), [(40, .box [Ti f3, Ti f4, Ti f5])]⟩) ?_ ?_
    ·refine L0 rfl rfl (E_loadn (cs := [Ti f3, Ti f4, Ti f5]) [Ti f3, Ti f4, Ti f5] wd82 rfl (by kernel_rfl) (Nat.le_of_ble_eq_true rfl) (by kernel_rfl)) ?_
     refine L1 rfl rfl (Y1_call (s_spec_syEnd hy8) cf_spec_syEnd rfl (by kernel_rfl)) ?_
     refine L0 rfl rfl (Y0_not (b := y8) rfl (by kernel_rfl)) ?_
     refine XL_nil ?_
     kernel_rfl
    refine V_cond rfl (fun hc9 => ?_) (fun hc9 => ?_)
    ·have h := of_true h hc9
     refine V_skip ?_
     show V _ _ _ _
     refine V_block ?_
     obtain ⟨y10, hy10, h⟩ := of_bind h
     refine V_reg (mb 24 32) [40] (s1 := ⟨bt 5 (.pt 40 0 :: bt 18 []), [(40, .box [Ti y10.1, Ti y10.2.1, Ti y10.2.2])]⟩) ?_ ?_
     ·refine L0 rfl rfl (E_loadn (cs := [Ti f3, Ti f4, Ti f5]) [Ti f3, Ti f4, Ti f5] wd82 rfl (by kernel_rfl) (Nat.le_of_ble_eq_true rfl) (by kernel_rfl)) ?_
      refine L1 rfl rfl (Y1_call (s_spec_sySuccessor hy10) cf_spec_sySuccessor rfl (by kernel_rfl)) ?_
      refine XL_cons rfl (E_store (id := 40) (off := 0) (cs := [Ti f3, Ti f4, Ti f5]) (vc := [Ti y10.1, Ti y10.2.1, Ti y10.2.2]) [Ti y10.1, Ti y10.2.1, Ti y10.2.2] rfl rfl (by kernel_rfl) (by kernel_rfl) (by kernel_rfl) sz82 (Nat.le_of_ble_eq_true rfl) (by kernel_rfl)) ?_
      refine XL_nil ?_
      kernel_rfl
     exact ⟨n, Nat.lt_succ_self n, _, _, _,  by rfl, h⟩
    ·have h := of_false h hc9
     refine V_exit ?_
     obtain rfl := some_inj h
     show St.keep _ _ _ = _
     rfl
  show V _ _ _ _
  refine V_seq ?_
  refine V_sreg (mb 24 2097184) [40] (s1 := ⟨bt 5 (.pt 40 0 :: bt 15 (Bo (bif (eqI o7.1 0) then (ltI 1 o7.2.1) else false) :: .bot :: .bot :: [])), [(40, .box [Ti o7.1, Ti o7.2.1, Ti o7.2.2])]⟩) ?_ ?_
  ·refine L0 rfl rfl (E_field (.pt 40 0) Try.underlying82 rfl sz3 rfl (by kernel_rfl) (by intro hh; cases hh)) ?_
   refine L0 rfl rfl (Y0_load1 (c := Ti o7.1) (cs := [Ti o7.2.1, Ti o7.2.2]) sc3 rfl (by kernel_rfl)) ?_
   refine L0 rfl rfl (Y0_eqw (k := .i64) (a := o7.1) (b := 0) rfl (by kernel_rfl) (by kernel_rfl)) ?_
   refine L0 rfl rfl (E_move (Bo (eqI o7.1 0)) rfl (by kernel_rfl)) ?_
   refine XL_split (eqI o7.1 0) (fun hc11 => ?_) (fun hc11 => ?_)
   ·refine XL_takeC _ rfl rfl (by kernel_rfl) hc11 (X_of_Y0 rfl (E_field (.pt 40 1) Try.underlying82 rfl sz3 rfl (by kernel_rfl) (by intro hh; cases hh))) ?_
    refine XL_takeC _ rfl rfl (by kernel_rfl) hc11 (X_of_Y0 rfl (Y0_load1 (c := Ti o7.2.1) (cs := [Ti o7.2.2]) sc3 rfl (by kernel_rfl))) ?_
    refine XL_takeC _ rfl rfl (by kernel_rfl) hc11 (X_of_Y0 rfl (Y0_gtw (k := .i64) (a := o7.2.1) (b := 1) rfl (by kernel_rfl) (by kernel_rfl))) ?_
    refine XL_cons rfl (X_of_Y0 rfl (Y0_pick1 (b := eqI o7.1 0) (p := ltI 1 o7.2.1) (q := false) rfl (by kernel_rfl) hc11 (by kernel_rfl))) ?_
    refine XL_nil ?_
    kernel_rfl
   ·refine XL_skipT _ rfl rfl (by kernel_rfl) hc11 rfl ?_
    refine XL_skipT _ rfl rfl (by kernel_rfl) hc11 rfl ?_
    refine XL_skipT _ rfl rfl (by kernel_rfl) hc11 rfl ?_
    refine XL_cons rfl (X_of_Y0 rfl (Y0_pick0 (b := eqI o7.1 0) (p := ltI 1 o7.2.1) (q := false) rfl (by kernel_rfl) hc11 (by kernel_rfl))) ?_
    refine XL_nil ?_
    kernel_rfl
  refine V_cond rfl (fun hc12 => ?_) (fun hc12 => ?_)
  ·have h := of_true h hc12
   refine V_sreg (mb 24 16) [] (s1 := ⟨bt 4 (I 0 :: bt 19 []), []⟩) ?_ ?_
   ·refine L0 rfl rfl (E_assign (I 0) rfl (by kernel_rfl)) ?_
    refine XL_nil ?_
    kernel_rfl
   refine V_ret ?_
   obtain rfl := some_inj h
   show Post _ _ _ _ _
   exact ⟨.inr rfl, rfl, rfl, rfl⟩
  ·have h := of_false h hc12
   refine V_skip ?_
   show V _ _ _ _
   refine V_sreg (mb 24 16) [] (s1 := ⟨bt 4 (I o7.2.2 :: bt 19 []), []⟩) ?_ ?_
   ·refine L0 rfl rfl (E_field (.pt 40 2) Try.underlying82 rfl sz3 rfl (by kernel_rfl) (by intro hh; cases hh)) ?_
    refine L0 rfl rfl (Y0_load1 (c := Ti o7.2.2) (cs := []) sc3 rfl (by kernel_rfl)) ?_
    refine L0 rfl rfl (E_assign (I o7.2.2) rfl (by kernel_rfl)) ?_
    refine XL_nil ?_
    kernel_rfl
   refine V_ret ?_
   obtain rfl := some_inj h
   show Post _ _ _ _ _
   exact ⟨.inr rfl, rfl, rfl, rfl⟩
end Go.Proofs.Ytpfnhgpepgeaiaa
