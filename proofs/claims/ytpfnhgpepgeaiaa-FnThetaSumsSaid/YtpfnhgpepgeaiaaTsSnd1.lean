/-
  The functions of the program compute what the plain functions say.
  Conditions: none.
-/
import Derived.Test.YtpfnhgpepgeaiaaShZ
import Derived.Test.YtpfnhgpepgeaiaaTsRaw
import Derived.Test.YtpfnhgpepgeaiaaRows
namespace Go.Proofs.Ytpfnhgpepgeaiaa
open Go.RowKit
set_option linter.unusedVariables false
set_option linter.unusedSimpArgs false
def c5 (x : Int) : List Tr := [.v (.int .u8 x)]
def c3 (x : Int) : List Tr := [Ti x]
def c43 (x : (Int × Int × Int)) : List Tr := [Ti x.1, Ti x.2.1, Ti x.2.2]
def c97 (x : (Int × Int)) : List Tr := [Ti x.1, Ti x.2]
def c94 (x : (Int × Int)) : List Tr := [Ti x.1, Ti x.2]
def c40 (x : List ((Int × Int × Int))) : List Tr := [.sl (x.map c43)]
def zv3 : Value := .int .i64 0
theorem zf3 : (Try.prog.info? 3).bind (·.zero) = some zv3 := by kernel_rfl
def zv40 : Value := .slice none 0 0
theorem zf40 : (Try.prog.info? 40).bind (·.zero) = some zv40 := by kernel_rfl
def zv43 : Value := .agg #[.int .i64 0, .int .i64 0, .int .i64 0]
theorem zf43 : (Try.prog.info? 43).bind (·.zero) = some zv43 := by kernel_rfl
def zv94 : Value := .agg #[.int .i64 0, .int .i64 0]
theorem zf94 : (Try.prog.info? 94).bind (·.zero) = some zv94 := by kernel_rfl
def zv97 : Value := .agg #[.int .i64 0, .int .i64 0]
theorem zf97 : (Try.prog.info? 97).bind (·.zero) = some zv97 := by kernel_rfl
def zv99 : Value := .agg #[.int .i64 0, .int .i64 0, .int .i64 0, .int .i64 0]
theorem zf99 : (Try.prog.info? 99).bind (·.zero) = some zv99 := by kernel_rfl
theorem iz3 : (Try.prog.info? 3).map (fun i => (i.zero, i.size)) = some (some zv3, 1) := by kernel_rfl
theorem iz40 : (Try.prog.info? 40).map (fun i => (i.zero, i.size)) = some (some zv40, 1) := by kernel_rfl
theorem iz43 : (Try.prog.info? 43).map (fun i => (i.zero, i.size)) = some (some zv43, 3) := by kernel_rfl
theorem iz94 : (Try.prog.info? 94).map (fun i => (i.zero, i.size)) = some (some zv94, 2) := by kernel_rfl
theorem iz97 : (Try.prog.info? 97).map (fun i => (i.zero, i.size)) = some (some zv97, 2) := by kernel_rfl
theorem izb3 : (Try.prog.info? 3).map (fun i => (i.zero, i.size, i.bytes)) = some (some zv3, 1, 8) := by kernel_rfl
theorem izb40 : (Try.prog.info? 40).map (fun i => (i.zero, i.size, i.bytes)) = some (some zv40, 1, 24) := by kernel_rfl
theorem izb43 : (Try.prog.info? 43).map (fun i => (i.zero, i.size, i.bytes)) = some (some zv43, 3, 24) := by kernel_rfl
theorem izb94 : (Try.prog.info? 94).map (fun i => (i.zero, i.size, i.bytes)) = some (some zv94, 2, 16) := by kernel_rfl
theorem izb97 : (Try.prog.info? 97).map (fun i => (i.zero, i.size, i.bytes)) = some (some zv97, 2, 16) := by kernel_rfl
theorem sc3 : scalar Try.prog 3 := ⟨_, Try.underlying3, rfl⟩
theorem sc5 : scalar Try.prog 5 := ⟨_, Try.underlying5, rfl⟩
theorem sc22 : scalar Try.prog 22 := ⟨_, Try.underlying22, rfl⟩
theorem sc40 : scalar Try.prog 40 := ⟨_, Try.underlying40, rfl⟩
theorem sc55 : scalar Try.prog 55 := ⟨_, Try.underlying55, rfl⟩
theorem sz3 : (Try.prog.info? 3).map (·.size) = some 1 := by kernel_rfl
theorem sz5 : (Try.prog.info? 5).map (·.size) = some 1 := by kernel_rfl
theorem sz22 : (Try.prog.info? 22).map (·.size) = some 1 := by kernel_rfl
theorem sz40 : (Try.prog.info? 40).map (·.size) = some 1 := by kernel_rfl
theorem sz43 : (Try.prog.info? 43).map (·.size) = some 3 := by kernel_rfl
theorem sz55 : (Try.prog.info? 55).map (·.size) = some 1 := by kernel_rfl
theorem sz94 : (Try.prog.info? 94).map (·.size) = some 2 := by kernel_rfl
theorem sz97 : (Try.prog.info? 97).map (·.size) = some 2 := by kernel_rfl
theorem sz99 : (Try.prog.info? 99).map (·.size) = some 4 := by kernel_rfl
theorem wd43 : wide Try.prog 43 3 := ⟨⟨_, Try.underlying43, rfl⟩, by kernel_rfl⟩
theorem wd94 : wide Try.prog 94 2 := ⟨⟨_, Try.underlying94, rfl⟩, by kernel_rfl⟩
theorem wd99 : wide Try.prog 99 4 := ⟨⟨_, Try.underlying99, rfl⟩, by kernel_rfl⟩
def pl43 : Nat → Option (Nat × Nat) := fun i => (#[(0, 1), (1, 1), (2, 1)] : Array (Nat × Nat))[i]?
theorem bt43 : ∀ ps, Try.prog.built 43 ps = Instr.fill pl43 #[.int .i64 0, .int .i64 0, .int .i64 0] ps := fun ps => by kernel_rfl
def pl57 : Nat → Option (Nat × Nat) := fun i => (#[(0, 1), (1, 1), (2, 1)] : Array (Nat × Nat))[i]?
theorem bt57 : ∀ ps, Try.prog.built 57 ps = Instr.fill pl57 #[.slice none 0 0, .int .i64 0, .int .u64 0] ps := fun ps => by kernel_rfl
def pl94 : Nat → Option (Nat × Nat) := fun i => (#[(0, 1), (1, 1)] : Array (Nat × Nat))[i]?
theorem bt94 : ∀ ps, Try.prog.built 94 ps = Instr.fill pl94 #[.int .i64 0, .int .i64 0] ps := fun ps => by kernel_rfl
def pl97 : Nat → Option (Nat × Nat) := fun i => (#[(0, 1), (1, 1)] : Array (Nat × Nat))[i]?
theorem bt97 : ∀ ps, Try.prog.built 97 ps = Instr.fill pl97 #[.int .i64 0, .int .i64 0] ps := fun ps => by kernel_rfl
def pl99 : Nat → Option (Nat × Nat) := fun i => (#[(0, 1), (1, 1), (2, 1), (3, 1)] : Array (Nat × Nat))[i]?
theorem bt99 : ∀ ps, Try.prog.built 99 ps = Instr.fill pl99 #[.int .i64 0, .int .i64 0, .int .i64 0, .int .i64 0] ps := fun ps => by kernel_rfl
theorem eqg43 : EqAg3 Try.prog .eql 43 := by
  intro a0 a1 a2 b0 b1 b2 x y w
  have hg : (eqGuard .eql 43 x y (.agg #[.int .i64 a0, .int .i64 a1, .int .i64 a2]) (.agg #[.int .i64 b0, .int .i64 b1, .int .i64 b2])).run Try.prog w = .ok () w := by simp [eqGuard, (by kernel_rfl : Try.prog.eqGuardType Try.prog.depth 43 = false)]
  have hf : (Try.prog.fieldsOf 43).toList = (match Try.prog.underlying 43 with | some (.struct fs) => fs.toList | _ => []) := by kernel_rfl
  refine ⟨hg, ?_⟩
  rw [run_eql_struct, run_equalIn_agg (d := 9999) (ht := by kernel_rfl) (hp := by kernel_rfl), hf, Try.underlying43]
  by_cases h0 : a0 = b0 <;> by_cases h1 : a1 = b1 <;> by_cases h2 : a2 = b2 <;> simp [Op.eqFields, part, go_sem, h0, h1, h2]
theorem neg43 : EqAg3 Try.prog .neq 43 := by
  intro a0 a1 a2 b0 b1 b2 x y w
  have hg : (eqGuard .neq 43 x y (.agg #[.int .i64 a0, .int .i64 a1, .int .i64 a2]) (.agg #[.int .i64 b0, .int .i64 b1, .int .i64 b2])).run Try.prog w = .ok () w := by simp [eqGuard, (by kernel_rfl : Try.prog.eqGuardType Try.prog.depth 43 = false)]
  have hf : (Try.prog.fieldsOf 43).toList = (match Try.prog.underlying 43 with | some (.struct fs) => fs.toList | _ => []) := by kernel_rfl
  refine ⟨hg, ?_⟩
  rw [run_neq_struct, run_equalIn_agg (d := 9999) (ht := by kernel_rfl) (hp := by kernel_rfl), hf, Try.underlying43]
  by_cases h0 : a0 = b0 <;> by_cases h1 : a1 = b1 <;> by_cases h2 : a2 = b2 <;> simp [Op.eqFields, part, go_sem, h0, h1, h2]
theorem cf_laws_big : ∀ args w, (callFunc 6 args).run Try.prog w = .ok (.enter 6 args) w := run_callFunc Try.func6 (by kernel_rfl) (by kernel_rfl)
set_option maxRecDepth 100000 in
set_option maxHeartbeats 400000 in
theorem s_laws_big {code1 : List Int} {more2 : List Int} {r : Bool} (h : r_laws_big code1 more2 = some r) : CallS Try.prog 6 [.c (.sl (code1.map c5)), .c (.sl (more2.map c5))] (Bo r) [] := by
  refine CallS_of_text (rs := [.t 4]) (vs := [.tmp 4]) Try.func6 rfl rfl (.cons rfl FitsL.nil) (by decide) 16 rfl ?_
  unfold r_laws_big at h
  show V _ _ ⟨.c (.sl (code1.map c5)) :: .c (.sl (more2.map c5)) :: bt 14 [], []⟩ _
  refine V_sreg (mb 16 3) [] (s1 := ⟨.c (.sl (code1.map c5)) :: .c (.sl (more2.map c5)) :: bt 14 [], []⟩) ?_ ?_
  ·refine L0 rfl rfl (E_assign (Bo false) rfl (by kernel_rfl)) ?_
   refine XL_nil ?_
   kernel_rfl
  obtain ⟨t4, ht4, h⟩ := of_bind h
  have ht4 := some_inj ht4
  refine V_sreg (mb 16 16) [] (s1 := ⟨bt 4 (Bo t4 :: bt 11 []), []⟩) ?_ ?_
  ·refine L0 rfl rfl (E_move (.c (.sl (code1.map c5))) rfl (by kernel_rfl)) ?_
   refine L0 rfl rfl (Y0_lenM (c := c5) (xs := code1) Try.underlying22 rfl (by kernel_rfl)) ?_
   refine L0 rfl rfl (Y0_gtw (k := .i64) (a := (code1.length : Int)) (b := 1048576) rfl (by kernel_rfl) (by kernel_rfl)) ?_
   refine L0 rfl rfl (E_move (Bo (ltI 1048576 ((code1.length : Int)))) rfl (by kernel_rfl)) ?_
   refine XL_split (ltI 1048576 ((code1.length : Int))) (fun hc3 => ?_) (fun hc3 => ?_)
   ·refine XL_skipF _ rfl rfl (by kernel_rfl) hc3 rfl ?_
    refine XL_skipF _ rfl rfl (by kernel_rfl) hc3 rfl ?_
    refine XL_skipF _ rfl rfl (by kernel_rfl) hc3 rfl ?_
    refine XL_skipF _ rfl rfl (by kernel_rfl) hc3 rfl ?_
    refine XL_skipF _ rfl rfl (by kernel_rfl) hc3 rfl ?_
    refine XL_skipF _ rfl rfl (by kernel_rfl) hc3 rfl ?_
    refine XL_cons rfl (X_of_Y0 rfl (Y0_pick1 (b := ltI 1048576 ((code1.length : Int))) (p := true) (q := ltI (w64 (1048576 - ((code1.length : Int)))) ((more2.length : Int))) rfl (by kernel_rfl) hc3 (by kernel_rfl))) ?_
    refine L0 rfl rfl (E_assign (Bo (bif (ltI 1048576 ((code1.length : Int))) then true else (ltI (w64 (1048576 - ((code1.length : Int)))) ((more2.length : Int))))) rfl (by kernel_rfl)) ?_
    refine XL_nil ?_
    subst ht4
    kernel_rfl
   ·refine XL_takeC _ rfl rfl (by kernel_rfl) hc3 (X_of_Y0 rfl (E_move (.c (.sl (more2.map c5))) rfl (by kernel_rfl))) ?_
    refine XL_takeC _ rfl rfl (by kernel_rfl) hc3 (X_of_Y0 rfl (Y0_lenM (c := c5) (xs := more2) Try.underlying22 rfl (by kernel_rfl))) ?_
    refine XL_takeC _ rfl rfl (by kernel_rfl) hc3 (X_of_Y0 rfl (E_move (.c (.sl (code1.map c5))) rfl (by kernel_rfl))) ?_
    refine XL_takeC _ rfl rfl (by kernel_rfl) hc3 (X_of_Y0 rfl (Y0_lenM (c := c5) (xs := code1) Try.underlying22 rfl (by kernel_rfl))) ?_
    refine XL_takeC _ rfl rfl (by kernel_rfl) hc3 (X_of_Y0 rfl (Y0_sub64 (a := 1048576) (b := (code1.length : Int)) rfl (by kernel_rfl) (by kernel_rfl))) ?_
    refine XL_takeC _ rfl rfl (by kernel_rfl) hc3 (X_of_Y0 rfl (Y0_gtw (k := .i64) (a := (more2.length : Int)) (b := w64 (1048576 - ((code1.length : Int)))) rfl (by kernel_rfl) (by kernel_rfl))) ?_
    refine XL_cons rfl (X_of_Y0 rfl (Y0_pick0 (b := ltI 1048576 ((code1.length : Int))) (p := true) (q := ltI (w64 (1048576 - ((code1.length : Int)))) ((more2.length : Int))) rfl (by kernel_rfl) hc3 (by kernel_rfl))) ?_
    refine L0 rfl rfl (E_assign (Bo (bif (ltI 1048576 ((code1.length : Int))) then true else (ltI (w64 (1048576 - ((code1.length : Int)))) ((more2.length : Int))))) rfl (by kernel_rfl)) ?_
    refine XL_nil ?_
    subst ht4
    kernel_rfl
  refine V_ret ?_
  obtain rfl := some_inj h
  show Post _ _ _ _ _
  exact ⟨.inr rfl, rfl, rfl, rfl⟩
theorem cf_spec_l1Cur_next : ∀ args w, (callFunc 120 args).run Try.prog w = .ok (.enter 120 args) w := run_callFunc Try.func120 (by kernel_rfl) (by kernel_rfl)
set_option maxRecDepth 100000 in
set_option maxHeartbeats 400000 in
theorem s_spec_l1Cur_next {c1 : ((List Int) × Int × Int)} {r : (Int × (((List Int) × Int × Int)))} (h : r_spec_l1Cur_next c1 = some r) : CallR Try.prog 120 [.pt 80000 0] [(80000, .box [.sl (c1.1.map c5), Ti c1.2.1, .v (.int .u64 c1.2.2)])] (I r.1) [] [(80000, .box [.sl (r.2.1.map c5), Ti r.2.2.1, .v (.int .u64 r.2.2.2)])] := by
  refine CallR_of_text (rs := [.t 2]) (vs := [.tmp 2]) Try.func120 rfl rfl (.cons rfl FitsL.nil) (by decide) 62 rfl rfl fun σ => ?_
  unfold r_spec_l1Cur_next at h
  show V _ _ ⟨.pt 80000 0 :: bt 61 [], [(80000, .pbox (σ 80000) [.sl (c1.1.map c5), Ti c1.2.1, .v (.int .u64 c1.2.2)])]⟩ _
  refine V_sreg (mb 62 1) [80000] (s1 := ⟨.pt 80000 0 :: bt 61 [], [(80000, .pbox (σ 80000) [.sl (c1.1.map c5), Ti c1.2.1, .v (.int .u64 c1.2.2)])]⟩) ?_ ?_
  ·refine L0 rfl rfl (E_assign (I 0) rfl (by kernel_rfl)) ?_
   refine XL_nil ?_
   kernel_rfl
  refine V_sreg (mb 62 9) [80000] (s1 := ⟨.pt 80000 0 :: .bot :: .bot :: I 0 :: bt 58 [], [(80000, .pbox (σ 80000) [.sl (c1.1.map c5), Ti c1.2.1, .v (.int .u64 c1.2.2)])]⟩) ?_ ?_
  ·refine L0 rfl rfl (E_assign (I 0) rfl (by kernel_rfl)) ?_
   refine XL_nil ?_
   kernel_rfl
  obtain ⟨j2, hj2, h⟩ := of_bind h
  refine V_cutK (mb 62 9) [80000] (s1 := ⟨.pt 80000 0 :: .bot :: .bot :: I j2 :: bt 58 [], [(80000, .pbox (σ 80000) [.sl (c1.1.map c5), Ti c1.2.1, .v (.int .u64 c1.2.2)])]⟩) ?_ ?_
  ·clear h
   have h := hj2
   clear hj2
   refine V_sdreg [0, 1, 3, 7, 0, 16, 48, 112, 240, 511] 10 [[.z, .z, .z, .z, .b, .b, .b, .b, .b, .z], [.a, .z, .z, .z, .b, .b, .b, .b, .b, .z], [.a, .a, .z, .z, .b, .b, .b, .b, .b, .z], [.a, .a, .a, .z, .b, .b, .b, .b, .b, .z], [.b, .b, .b, .b, .z, .z, .z, .z, .z, .z], [.b, .b, .b, .b, .a, .z, .z, .z, .z, .z], [.b, .b, .b, .b, .a, .a, .z, .z, .z, .z], [.b, .b, .b, .b, .a, .a, .a, .z, .z, .z], [.b, .b, .b, .b, .a, .a, .a, .a, .z, .z], [.a, .a, .a, .a, .a, .a, .a, .a, .a, .z]] (mb 62 8201) [80000] (s1 := ⟨.pt 80000 0 :: .bot :: .bot :: I 0 :: bt 9 (Bo (ltI c1.2.1 ((c1.1.length : Int))) :: bt 48 []), [(80000, .pbox (σ 80000) [.sl (c1.1.map c5), Ti c1.2.1, .v (.int .u64 c1.2.2)])]⟩) (by kernel_rfl) (by kernel_rfl) ?_ ?_
   ·refine DE_0 0 (.pt 80000 0) (by kernel_rfl) rfl rfl rfl (gsat_none rfl) (by kernel_rfl) (E_move (.pt 80000 0) rfl (by kernel_rfl)) 4 rfl ?_
    refine DE_0 1 (.pt 80000 0) (by kernel_rfl) rfl rfl rfl (gsat_none rfl) (by kernel_rfl) (E_nil (.pt 80000 0) rfl (by kernel_rfl) (by intro hh; cases hh)) 5 rfl ?_
    refine DE_0 2 (.pt 80000 1) (by kernel_rfl) rfl rfl rfl (gsat_none rfl) (by kernel_rfl) (E_field (.pt 80000 1) Try.underlying57 rfl sz3 rfl (by kernel_rfl) (by intro hh; cases hh)) 6 rfl ?_
    refine DE_0 3 (I c1.2.1) (by kernel_rfl) rfl rfl rfl (gsat_none rfl) (by kernel_rfl) (Y0_load1 (c := Ti c1.2.1) (cs := [.v (.int .u64 c1.2.2)]) sc3 rfl (by kernel_rfl)) 7 rfl ?_
    refine DE_0 4 (.pt 80000 0) (by kernel_rfl) rfl rfl rfl (gsat_none rfl) (by kernel_rfl) (E_move (.pt 80000 0) rfl (by kernel_rfl)) 8 rfl ?_
    refine DE_0 5 (.pt 80000 0) (by kernel_rfl) rfl rfl rfl (gsat_none rfl) (by kernel_rfl) (E_nil (.pt 80000 0) rfl (by kernel_rfl) (by intro hh; cases hh)) 9 rfl ?_
    refine DE_0 6 (.pt 80000 0) (by kernel_rfl) rfl rfl rfl (gsat_none rfl) (by kernel_rfl) (E_field (.pt 80000 0) Try.underlying57 rfl sz22 rfl (by kernel_rfl) (by intro hh; cases hh)) 10 rfl ?_
    refine DE_0 7 (.c (.sl (c1.1.map c5))) (by kernel_rfl) rfl rfl rfl (gsat_none rfl) (by kernel_rfl) (Y0_load1 (c := .sl (c1.1.map c5)) (cs := [Ti c1.2.1, .v (.int .u64 c1.2.2)]) sc22 rfl (by kernel_rfl)) 11 rfl ?_
    refine DE_0 8 (I ((c1.1.length : Int))) (by kernel_rfl) rfl rfl rfl (gsat_none rfl) (by kernel_rfl) (Y0_lenM (c := c5) (xs := c1.1) Try.underlying22 rfl (by kernel_rfl)) 12 rfl ?_
    refine DE_0 9 (Bo (ltI c1.2.1 ((c1.1.length : Int)))) (by kernel_rfl) rfl rfl rfl (gsat_none rfl) (by kernel_rfl) (Y0_ltw (k := .i64) (a := c1.2.1) (b := (c1.1.length : Int)) rfl (by kernel_rfl) (by kernel_rfl)) 13 rfl ?_
    refine DL_nil (by kernel_rfl) ?_
    refine XL_nil ?_
    kernel_rfl
   refine V_cond rfl (fun hc3 => ?_) (fun hc3 => ?_)
   ·have h := of_true h hc3
    obtain ⟨e4, he4, h⟩ := of_bind h
    obtain ⟨b5, hb5, h⟩ := of_sI h
    refine V_dreg [0, 1, 3, 7, 0, 16, 48, 112, 255, 511, 1023, 2047] 12 [[.z, .z, .z, .z, .b, .b, .b, .b, .z, .z, .z, .z], [.a, .z, .z, .z, .b, .b, .b, .b, .z, .z, .z, .z], [.a, .a, .z, .z, .b, .b, .b, .b, .z, .z, .z, .z], [.a, .a, .a, .z, .b, .b, .b, .b, .z, .z, .z, .z], [.b, .b, .b, .b, .z, .z, .z, .z, .z, .z, .z, .z], [.b, .b, .b, .b, .a, .z, .z, .z, .z, .z, .z, .z], [.b, .b, .b, .b, .a, .a, .z, .z, .z, .z, .z, .z], [.b, .b, .b, .b, .a, .a, .a, .z, .z, .z, .z, .z], [.a, .a, .a, .a, .a, .a, .a, .a, .z, .z, .z, .z], [.a, .a, .a, .a, .a, .a, .a, .a, .a, .z, .z, .z], [.a, .a, .a, .a, .a, .a, .a, .a, .a, .a, .z, .z], [.a, .a, .a, .a, .a, .a, .a, .a, .a, .a, .a, .z]] (mb 62 9) [80000] (s1 := ⟨.pt 80000 0 :: .bot :: .bot :: I b5 :: bt 58 [], [(80000, .pbox (σ 80000) [.sl (c1.1.map c5), Ti c1.2.1, .v (.int .u64 c1.2.2)])]⟩) (by kernel_rfl) (by kernel_rfl) ?_ ?_
    ·refine DE_0 0 (.pt 80000 0) (by kernel_rfl) rfl rfl rfl (gsat_none rfl) (by kernel_rfl) (E_move (.pt 80000 0) rfl (by kernel_rfl)) 14 rfl ?_
     refine DE_0 1 (.pt 80000 0) (by kernel_rfl) rfl rfl rfl (gsat_none rfl) (by kernel_rfl) (E_nil (.pt 80000 0) rfl (by kernel_rfl) (by intro hh; cases hh)) 15 rfl ?_
     refine DE_0 2 (.pt 80000 0) (by kernel_rfl) rfl rfl rfl (gsat_none rfl) (by kernel_rfl) (E_field (.pt 80000 0) Try.underlying57 rfl sz22 rfl (by kernel_rfl) (by intro hh; cases hh)) 16 rfl ?_
     refine DE_0 3 (.c (.sl (c1.1.map c5))) (by kernel_rfl) rfl rfl rfl (gsat_none rfl) (by kernel_rfl) (Y0_load1 (c := .sl (c1.1.map c5)) (cs := [Ti c1.2.1, .v (.int .u64 c1.2.2)]) sc22 rfl (by kernel_rfl)) 17 rfl ?_
     refine DE_0 4 (.pt 80000 0) (by kernel_rfl) rfl rfl rfl (gsat_none rfl) (by kernel_rfl) (E_move (.pt 80000 0) rfl (by kernel_rfl)) 18 rfl ?_
     refine DE_0 5 (.pt 80000 0) (by kernel_rfl) rfl rfl rfl (gsat_none rfl) (by kernel_rfl) (E_nil (.pt 80000 0) rfl (by kernel_rfl) (by intro hh; cases hh)) 19 rfl ?_
     refine DE_0 6 (.pt 80000 1) (by kernel_rfl) rfl rfl rfl (gsat_none rfl) (by kernel_rfl) (E_field (.pt 80000 1) Try.underlying57 rfl sz3 rfl (by kernel_rfl) (by intro hh; cases hh)) 20 rfl ?_
     refine DE_0 7 (I c1.2.1) (by kernel_rfl) rfl rfl rfl (gsat_none rfl) (by kernel_rfl) (Y0_load1 (c := Ti c1.2.1) (cs := [.v (.int .u64 c1.2.2)]) sc3 rfl (by kernel_rfl)) 21 rfl ?_
     refine DE_0 8 (.pe [.v (.int .u8 e4)]) (by kernel_rfl) rfl rfl rfl (gsat_none rfl) (by kernel_rfl) (Y0_idxM (c := c5) (xs := c1.1) (v := e4) (n := c1.2.1) Try.underlying22 sz5 rfl (by kernel_rfl) (by kernel_rfl) he4) 22 rfl ?_
     refine DE_0 9 (.c (.v (.int .u8 e4))) (by kernel_rfl) rfl rfl rfl (gsat_none rfl) (by kernel_rfl) (Y0_load1 (c := .v (.int .u8 e4)) (cs := []) sc5 rfl (by kernel_rfl)) 23 rfl ?_
     refine DE_0 10 (I (IntKind.i64.wrap e4)) (by kernel_rfl) rfl rfl rfl (gsat_none rfl) (by kernel_rfl) (Y0_conv (k2 := .u8) (a := e4) Try.underlying5 Try.underlying3 rfl (by kernel_rfl)) 24 rfl ?_
     refine DE_0 11 (I (IntKind.i64.wrap e4)) (by kernel_rfl) rfl rfl rfl (gsat_none rfl) (by kernel_rfl) (E_assign (I (IntKind.i64.wrap e4)) rfl (by kernel_rfl)) 3 rfl ?_
     refine DL_nil (by kernel_rfl) ?_
     refine XL_nil ?_
     subst hb5
     kernel_rfl
    obtain rfl := some_inj h
    show St.keep _ _ _ = _
    rfl
   ·have h := of_false h hc3
    refine V_skip ?_
    obtain rfl := some_inj h
    show St.keep _ _ _ = _
    rfl
  obtain ⟨f6, hf6, h⟩ := of_sI h
  refine V_sreg (mb 62 9) [80000] (s1 := ⟨.pt 80000 0 :: .bot :: .bot :: I j2 :: bt 58 [], [(80000, .pbox (σ 80000) [.sl (c1.1.map c5), Ti f6, .v (.int .u64 c1.2.2)])]⟩) ?_ ?_
  ·refine L0 rfl rfl (E_move (.pt 80000 0) rfl (by kernel_rfl)) ?_
   refine L0 rfl rfl (E_nil (.pt 80000 0) rfl (by kernel_rfl) (by intro hh; cases hh)) ?_
   refine L0 rfl rfl (E_field (.pt 80000 1) Try.underlying57 rfl sz3 rfl (by kernel_rfl) (by intro hh; cases hh)) ?_
   refine L0 rfl rfl (Y0_load1 (c := Ti c1.2.1) (cs := [.v (.int .u64 c1.2.2)]) sc3 rfl (by kernel_rfl)) ?_
   refine L0 rfl rfl (Y0_add64 (a := c1.2.1) (b := 1) rfl (by kernel_rfl) (by kernel_rfl)) ?_
   refine L0 rfl rfl (E_nil (.pt 80000 0) rfl (by kernel_rfl) (by intro hh; cases hh)) ?_
   refine L0 rfl rfl (E_field (.pt 80000 1) Try.underlying57 rfl sz3 rfl (by kernel_rfl) (by intro hh; cases hh)) ?_
   refine XL_cons rfl (E_storep (l := σ 80000) (id := 80000) (off := 1) (cs := [.sl (c1.1.map c5), Ti c1.2.1, .v (.int .u64 c1.2.2)]) (vc := [Ti (w64 (c1.2.1 + 1))]) [.sl (c1.1.map c5), Ti (w64 (c1.2.1 + 1)), .v (.int .u64 c1.2.2)] rfl rfl (by kernel_rfl) (by kernel_rfl) (by kernel_rfl) sz3 (Nat.le_of_ble_eq_true rfl) (by kernel_rfl)) ?_
   refine XL_nil ?_
   subst hf6
   kernel_rfl
  obtain ⟨f7, hf7, h⟩ := of_sI h
  refine V_sreg (mb 62 9) [80000] (s1 := ⟨.pt 80000 0 :: .bot :: .bot :: I j2 :: bt 58 [], [(80000, .pbox (σ 80000) [.sl (c1.1.map c5), Ti f6, .v (.int .u64 f7)])]⟩) ?_ ?_
  ·refine L0 rfl rfl (E_move (.pt 80000 0) rfl (by kernel_rfl)) ?_
   refine L0 rfl rfl (E_move (.pt 80000 0) rfl (by kernel_rfl)) ?_
   refine L0 rfl rfl (E_nil (.pt 80000 0) rfl (by kernel_rfl) (by intro hh; cases hh)) ?_
   refine L0 rfl rfl (E_field (.pt 80000 2) Try.underlying57 rfl sz55 rfl (by kernel_rfl) (by intro hh; cases hh)) ?_
   refine L0 rfl rfl (Y0_load1 (c := .v (.int .u64 c1.2.2)) (cs := []) sc55 rfl (by kernel_rfl)) ?_
   refine L0 rfl rfl (Y0_mul (k := .u64) (a := c1.2.2) (b := 6364136223846793005) rfl (by kernel_rfl) (by kernel_rfl)) ?_
   refine L0 rfl rfl (E_move (I j2) rfl (by kernel_rfl)) ?_
   refine L0 rfl rfl (Y0_conv (k2 := .i64) (a := j2) Try.underlying3 Try.underlying55 rfl (by kernel_rfl)) ?_
   refine L0 rfl rfl (Y0_add (k := .u64) (a := IntKind.u64.wrap (c1.2.2 * 6364136223846793005)) (b := IntKind.u64.wrap j2) rfl (by kernel_rfl) (by kernel_rfl)) ?_
   refine L0 rfl rfl (Y0_add (k := .u64) (a := IntKind.u64.wrap ((IntKind.u64.wrap (c1.2.2 * 6364136223846793005)) + (IntKind.u64.wrap j2))) (b := 1442695040888963407) rfl (by kernel_rfl) (by kernel_rfl)) ?_
   refine L0 rfl rfl (E_nil (.pt 80000 0) rfl (by kernel_rfl) (by intro hh; cases hh)) ?_
   refine L0 rfl rfl (E_field (.pt 80000 2) Try.underlying57 rfl sz55 rfl (by kernel_rfl) (by intro hh; cases hh)) ?_
   refine XL_cons rfl (E_storep (l := σ 80000) (id := 80000) (off := 2) (cs := [.sl (c1.1.map c5), Ti f6, .v (.int .u64 c1.2.2)]) (vc := [.v (.int .u64 (IntKind.u64.wrap ((IntKind.u64.wrap ((IntKind.u64.wrap (c1.2.2 * 6364136223846793005)) + (IntKind.u64.wrap j2))) + 1442695040888963407)))]) [.sl (c1.1.map c5), Ti f6, .v (.int .u64 (IntKind.u64.wrap ((IntKind.u64.wrap ((IntKind.u64.wrap (c1.2.2 * 6364136223846793005)) + (IntKind.u64.wrap j2))) + 1442695040888963407)))] rfl rfl (by kernel_rfl) (by kernel_rfl) (by kernel_rfl) sz55 (Nat.le_of_ble_eq_true rfl) (by kernel_rfl)) ?_
   refine XL_nil ?_
   subst hf7
   kernel_rfl
  refine V_seq ?_
  refine V_sdreg [0, 1, 3, 7, 0, 16, 48, 112, 240, 511] 10 [[.z, .z, .z, .z, .b, .b, .b, .b, .b, .z], [.a, .z, .z, .z, .b, .b, .b, .b, .b, .z], [.a, .a, .z, .z, .b, .b, .b, .b, .b, .z], [.a, .a, .a, .z, .b, .b, .b, .b, .b, .z], [.b, .b, .b, .b, .z, .z, .z, .z, .z, .z], [.b, .b, .b, .b, .a, .z, .z, .z, .z, .z], [.b, .b, .b, .b, .a, .a, .z, .z, .z, .z], [.b, .b, .b, .b, .a, .a, .a, .z, .z, .z], [.b, .b, .b, .b, .a, .a, .a, .a, .z, .z], [.a, .a, .a, .a, .a, .a, .a, .a, .a, .z]] (mb 62 9007199254741001) [80000] (s1 := ⟨.pt 80000 0 :: .bot :: .bot :: I j2 :: bt 49 (Bo (leI f6 ((c1.1.length : Int))) :: bt 8 []), [(80000, .pbox (σ 80000) [.sl (c1.1.map c5), Ti f6, .v (.int .u64 f7)])]⟩) (by kernel_rfl) (by kernel_rfl) ?_ ?_
  ·refine DE_0 0 (.pt 80000 0) (by kernel_rfl) rfl rfl rfl (gsat_none rfl) (by kernel_rfl) (E_move (.pt 80000 0) rfl (by kernel_rfl)) 44 rfl ?_
   refine DE_0 1 (.pt 80000 0) (by kernel_rfl) rfl rfl rfl (gsat_none rfl) (by kernel_rfl) (E_nil (.pt 80000 0) rfl (by kernel_rfl) (by intro hh; cases hh)) 45 rfl ?_
   refine DE_0 2 (.pt 80000 1) (by kernel_rfl) rfl rfl rfl (gsat_none rfl) (by kernel_rfl) (E_field (.pt 80000 1) Try.underlying57 rfl sz3 rfl (by kernel_rfl) (by intro hh; cases hh)) 46 rfl ?_
   refine DE_0 3 (I f6) (by kernel_rfl) rfl rfl rfl (gsat_none rfl) (by kernel_rfl) (Y0_load1 (c := Ti f6) (cs := [.v (.int .u64 f7)]) sc3 rfl (by kernel_rfl)) 47 rfl ?_
   refine DE_0 4 (.pt 80000 0) (by kernel_rfl) rfl rfl rfl (gsat_none rfl) (by kernel_rfl) (E_move (.pt 80000 0) rfl (by kernel_rfl)) 48 rfl ?_
   refine DE_0 5 (.pt 80000 0) (by kernel_rfl) rfl rfl rfl (gsat_none rfl) (by kernel_rfl) (E_nil (.pt 80000 0) rfl (by kernel_rfl) (by intro hh; cases hh)) 49 rfl ?_
   refine DE_0 6 (.pt 80000 0) (by kernel_rfl) rfl rfl rfl (gsat_none rfl) (by kernel_rfl) (E_field (.pt 80000 0) Try.underlying57 rfl sz22 rfl (by kernel_rfl) (by intro hh; cases hh)) 50 rfl ?_
   refine DE_0 7 (.c (.sl (c1.1.map c5))) (by kernel_rfl) rfl rfl rfl (gsat_none rfl) (by kernel_rfl) (Y0_load1 (c := .sl (c1.1.map c5)) (cs := [Ti f6, .v (.int .u64 f7)]) sc22 rfl (by kernel_rfl)) 51 rfl ?_
   refine DE_0 8 (I ((c1.1.length : Int))) (by kernel_rfl) rfl rfl rfl (gsat_none rfl) (by kernel_rfl) (Y0_lenM (c := c5) (xs := c1.1) Try.underlying22 rfl (by kernel_rfl)) 52 rfl ?_
   refine DE_0 9 (Bo (leI f6 ((c1.1.length : Int)))) (by kernel_rfl) rfl rfl rfl (gsat_none rfl) (by kernel_rfl) (Y0_lew (k := .i64) (a := f6) (b := (c1.1.length : Int)) rfl (by kernel_rfl) (by kernel_rfl)) 53 rfl ?_
   refine DL_nil (by kernel_rfl) ?_
   refine XL_nil ?_
   kernel_rfl
  refine V_cond rfl (fun hc8 => ?_) (fun hc8 => ?_)
  ·have h := of_true h hc8
   refine V_sreg (mb 62 4) [80000] (s1 := ⟨.bot :: .bot :: I j2 :: bt 59 [], [(80000, .pbox (σ 80000) [.sl (c1.1.map c5), Ti f6, .v (.int .u64 f7)])]⟩) ?_ ?_
   ·refine L0 rfl rfl (E_move (I j2) rfl (by kernel_rfl)) ?_
    refine L0 rfl rfl (E_assign (I j2) rfl (by kernel_rfl)) ?_
    refine XL_nil ?_
    kernel_rfl
   refine V_ret ?_
   obtain rfl := some_inj h
   show PostR _ _ _ _ _ _
   exact ⟨⟨.inr rfl, rfl, rfl, rfl⟩, ⟨rfl, trivial⟩⟩
  ·have h := of_false h hc8
   refine V_skip ?_
   show V _ _ _ _
   obtain ⟨t9, ht9, h⟩ := of_sI h
   refine V_sreg (mb 62 4) [80000] (s1 := ⟨.bot :: .bot :: I t9 :: bt 59 [], [(80000, .pbox (σ 80000) [.sl (c1.1.map c5), Ti f6, .v (.int .u64 f7)])]⟩) ?_ ?_
   ·refine L0 rfl rfl (E_move (.pt 80000 0) rfl (by kernel_rfl)) ?_
    refine L0 rfl rfl (E_nil (.pt 80000 0) rfl (by kernel_rfl) (by intro hh; cases hh)) ?_
    refine L0 rfl rfl (E_field (.pt 80000 2) Try.underlying57 rfl sz55 rfl (by kernel_rfl) (by intro hh; cases hh)) ?_
    refine L0 rfl rfl (Y0_load1 (c := .v (.int .u64 f7)) (cs := []) sc55 rfl (by kernel_rfl)) ?_
    refine L0 rfl rfl (Y0_shr (k := .u64) (k2 := .u64) (a := f7) (b := 40) rfl (by kernel_rfl) (by kernel_rfl) (by decide)) ?_
    refine L0 rfl rfl (Y0_and (k := .u64) (a := shrI .u64 f7 40) (b := 255) rfl (by kernel_rfl) (by kernel_rfl)) ?_
    refine L0 rfl rfl (Y0_conv (k2 := .u64) (a := andI .u64 (shrI .u64 f7 40) 255) Try.underlying55 Try.underlying3 rfl (by kernel_rfl)) ?_
    refine L0 rfl rfl (E_assign (I (IntKind.i64.wrap (andI .u64 (shrI .u64 f7 40) 255))) rfl (by kernel_rfl)) ?_
    refine XL_nil ?_
    subst ht9
    kernel_rfl
   refine V_ret ?_
   obtain rfl := some_inj h
   show PostR _ _ _ _ _ _
   exact ⟨⟨.inr rfl, rfl, rfl, rfl⟩, ⟨rfl, trivial⟩⟩
theorem cf_spec_l1Cur_pick : ∀ args w, (callFunc 84 args).run Try.prog w = .ok (.enter 84 args) w := run_callFunc Try.func84 (by kernel_rfl) (by kernel_rfl)
set_option maxRecDepth 100000 in
set_option maxHeartbeats 400000 in
theorem s_spec_l1Cur_pick {c1 : ((List Int) × Int × Int)} {vn2 : Int} {r : (Int × (((List Int) × Int × Int)))} (h : r_spec_l1Cur_pick c1 vn2 = some r) : CallR Try.prog 84 [.pt 80000 0, I vn2] [(80000, .box [.sl (c1.1.map c5), Ti c1.2.1, .v (.int .u64 c1.2.2)])] (I r.1) [] [(80000, .box [.sl (r.2.1.map c5), Ti r.2.2.1, .v (.int .u64 r.2.2.2)])] := by
  refine CallR_of_text (rs := [.t 4]) (vs := [.tmp 4]) Try.func84 rfl rfl (.cons rfl FitsL.nil) (by decide) 20 rfl rfl fun σ => ?_
  unfold r_spec_l1Cur_pick at h
  show V _ _ ⟨.pt 80000 0 :: I vn2 :: bt 18 [], [(80000, .pbox (σ 80000) [.sl (c1.1.map c5), Ti c1.2.1, .v (.int .u64 c1.2.2)])]⟩ _
  refine V_sreg (mb 20 3) [80000] (s1 := ⟨.pt 80000 0 :: I vn2 :: bt 18 [], [(80000, .pbox (σ 80000) [.sl (c1.1.map c5), Ti c1.2.1, .v (.int .u64 c1.2.2)])]⟩) ?_ ?_
  ·refine L0 rfl rfl (E_assign (I 0) rfl (by kernel_rfl)) ?_
   refine XL_nil ?_
   kernel_rfl
  refine V_seq ?_
  refine V_sreg (mb 20 131) [80000] (s1 := ⟨.pt 80000 0 :: I vn2 :: bt 5 (Bo (leI vn2 1) :: bt 12 []), [(80000, .pbox (σ 80000) [.sl (c1.1.map c5), Ti c1.2.1, .v (.int .u64 c1.2.2)])]⟩) ?_ ?_
  ·refine L0 rfl rfl (E_move (I vn2) rfl (by kernel_rfl)) ?_
   refine L0 rfl rfl (Y0_lew (k := .i64) (a := vn2) (b := 1) rfl (by kernel_rfl) (by kernel_rfl)) ?_
   refine XL_nil ?_
   kernel_rfl
  refine V_cond rfl (fun hc3 => ?_) (fun hc3 => ?_)
  ·have h := of_true h hc3
   refine V_sreg (mb 20 16) [80000] (s1 := ⟨bt 4 (I 0 :: bt 15 []), [(80000, .pbox (σ 80000) [.sl (c1.1.map c5), Ti c1.2.1, .v (.int .u64 c1.2.2)])]⟩) ?_ ?_
   ·refine L0 rfl rfl (E_assign (I 0) rfl (by kernel_rfl)) ?_
    refine XL_nil ?_
    kernel_rfl
   refine V_ret ?_
   obtain rfl := some_inj h
   show PostR _ _ _ _ _ _
   exact ⟨⟨.inr rfl, rfl, rfl, rfl⟩, ⟨rfl, trivial⟩⟩
  ·have h := of_false h hc3
   refine V_skip ?_
   show V _ _ _ _
   obtain ⟨y4, hy4, h⟩ := of_bind h
   refine V_sreg (mb 20 35) [80000] (s1 := ⟨.pt 80000 0 :: I vn2 :: bt 3 (I y4.1 :: bt 14 []), [(80000, .pbox (σ 80000) [.sl (y4.2.1.map c5), Ti y4.2.2.1, .v (.int .u64 y4.2.2.2)])]⟩) ?_ ?_
   ·refine L0 rfl rfl (E_move (.pt 80000 0) rfl (by kernel_rfl)) ?_
    refine XL_cons rfl (X_callR (E' := [(80000, .pbox (σ 80000) [.sl (y4.2.1.map c5), Ti y4.2.2.1, .v (.int .u64 y4.2.2.2)])]) [(80000, 80000)] 9 (s_spec_l1Cur_next hy4) cf_spec_l1Cur_next rfl rfl (by kernel_rfl) rfl (mE_cons (by kernel_rfl) mE_nil) rfl (by kernel_rfl) rfl rfl (by kernel_rfl)) ?_
    refine L0 rfl rfl (E_assign (I y4.1) rfl (by kernel_rfl)) ?_
    refine XL_nil ?_
    kernel_rfl
   refine V_seq ?_
   refine V_sreg (mb 20 2083) [80000] (s1 := ⟨.pt 80000 0 :: I vn2 :: bt 3 (I y4.1 :: bt 5 (Bo (ltI 200 vn2) :: bt 8 [])), [(80000, .pbox (σ 80000) [.sl (y4.2.1.map c5), Ti y4.2.2.1, .v (.int .u64 y4.2.2.2)])]⟩) ?_ ?_
   ·refine L0 rfl rfl (E_move (I vn2) rfl (by kernel_rfl)) ?_
    refine L0 rfl rfl (Y0_gtw (k := .i64) (a := vn2) (b := 200) rfl (by kernel_rfl) (by kernel_rfl)) ?_
    refine XL_nil ?_
    kernel_rfl
   refine V_cond rfl (fun hc5 => ?_) (fun hc5 => ?_)
   ·have h := of_true h hc5
    obtain ⟨y6, hy6, h⟩ := of_bind h
    obtain ⟨x7, hx7, h⟩ := of_sI h
    refine V_reg (mb 20 34) [80000] (s1 := ⟨.bot :: I vn2 :: bt 3 (I x7 :: bt 14 []), [(80000, .pbox (σ 80000) [.sl (y6.2.1.map c5), Ti y6.2.2.1, .v (.int .u64 y6.2.2.2)])]⟩) ?_ ?_
    ·refine L0 rfl rfl (E_move (I y4.1) rfl (by kernel_rfl)) ?_
     refine L0 rfl rfl (Y0_mul64 (a := y4.1) (b := 256) rfl (by kernel_rfl) (by kernel_rfl)) ?_
     refine L0 rfl rfl (E_move (.pt 80000 0) rfl (by kernel_rfl)) ?_
     refine XL_cons rfl (X_callR (E' := [(80000, .pbox (σ 80000) [.sl (y6.2.1.map c5), Ti y6.2.2.1, .v (.int .u64 y6.2.2.2)])]) [(80000, 80000)] 15 (s_spec_l1Cur_next hy6) cf_spec_l1Cur_next rfl rfl (by kernel_rfl) rfl (mE_cons (by kernel_rfl) mE_nil) rfl (by kernel_rfl) rfl rfl (by kernel_rfl)) ?_
     refine L0 rfl rfl (Y0_add64 (a := w64 (y4.1 * 256)) (b := y6.1) rfl (by kernel_rfl) (by kernel_rfl)) ?_
     refine L0 rfl rfl (E_assign (I (w64 ((w64 (y4.1 * 256)) + y6.1))) rfl (by kernel_rfl)) ?_
     refine XL_nil ?_
     subst hx7
     kernel_rfl
    show V _ _ _ _
    obtain ⟨z8, hz8, h⟩ := of_bind h
    obtain ⟨t9, ht9, h⟩ := of_sI h
    refine V_sreg (mb 20 16) [80000] (s1 := ⟨bt 4 (I t9 :: bt 15 []), [(80000, .pbox (σ 80000) [.sl (y6.2.1.map c5), Ti y6.2.2.1, .v (.int .u64 y6.2.2.2)])]⟩) ?_ ?_
    ·refine L0 rfl rfl (E_move (I x7) rfl (by kernel_rfl)) ?_
     refine L0 rfl rfl (E_move (I vn2) rfl (by kernel_rfl)) ?_
     refine L0 rfl rfl (Y0_rem (k := .i64) (a := x7) (b := vn2) rfl (by kernel_rfl) (by kernel_rfl) (nz_some hz8)) ?_
     refine L0 rfl rfl (E_assign (I (Int.tmod x7 vn2)) rfl (by kernel_rfl)) ?_
     refine XL_nil ?_
     subst ht9
     kernel_rfl
    refine V_ret ?_
    obtain rfl := some_inj h
    show PostR _ _ _ _ _ _
    exact ⟨⟨.inr rfl, rfl, rfl, rfl⟩, ⟨rfl, trivial⟩⟩
   ·have h := of_false h hc5
    refine V_skip ?_
    show V _ _ _ _
    obtain ⟨z10, hz10, h⟩ := of_bind h
    obtain ⟨t11, ht11, h⟩ := of_sI h
    refine V_sreg (mb 20 16) [80000] (s1 := ⟨bt 4 (I t11 :: bt 15 []), [(80000, .pbox (σ 80000) [.sl (y4.2.1.map c5), Ti y4.2.2.1, .v (.int .u64 y4.2.2.2)])]⟩) ?_ ?_
    ·refine L0 rfl rfl (E_move (I y4.1) rfl (by kernel_rfl)) ?_
     refine L0 rfl rfl (E_move (I vn2) rfl (by kernel_rfl)) ?_
     refine L0 rfl rfl (Y0_rem (k := .i64) (a := y4.1) (b := vn2) rfl (by kernel_rfl) (by kernel_rfl) (nz_some hz10)) ?_
     refine L0 rfl rfl (E_assign (I (Int.tmod y4.1 vn2)) rfl (by kernel_rfl)) ?_
     refine XL_nil ?_
     subst ht11
     kernel_rfl
    refine V_ret ?_
    obtain rfl := some_inj h
    show PostR _ _ _ _ _ _
    exact ⟨⟨.inr rfl, rfl, rfl, rfl⟩, ⟨rfl, trivial⟩⟩
theorem cf_spec_l1Cur_among : ∀ args w, (callFunc 39 args).run Try.prog w = .ok (.enter 39 args) w := run_callFunc Try.func39 (by kernel_rfl) (by kernel_rfl)
set_option maxRecDepth 100000 in
set_option maxHeartbeats 400000 in
theorem s_spec_l1Cur_among {c1 : ((List Int) × Int × Int)} {list2 : List Int} {r : (Int × (((List Int) × Int × Int)))} (h : r_spec_l1Cur_among c1 list2 = some r) : CallR Try.prog 39 [.pt 80000 0, .c (.sl (list2.map c3))] [(80000, .box [.sl (c1.1.map c5), Ti c1.2.1, .v (.int .u64 c1.2.2)])] (I r.1) [] [(80000, .box [.sl (r.2.1.map c5), Ti r.2.2.1, .v (.int .u64 r.2.2.2)])] := by
  refine CallR_of_text (rs := [.t 4]) (vs := [.tmp 4]) Try.func39 rfl rfl (.cons rfl FitsL.nil) (by decide) 12 rfl rfl fun σ => ?_
  unfold r_spec_l1Cur_among at h
  show V _ _ ⟨.pt 80000 0 :: .c (.sl (list2.map c3)) :: bt 10 [], [(80000, .pbox (σ 80000) [.sl (c1.1.map c5), Ti c1.2.1, .v (.int .u64 c1.2.2)])]⟩ _
  refine V_sreg (mb 12 3) [80000] (s1 := ⟨.pt 80000 0 :: .c (.sl (list2.map c3)) :: bt 10 [], [(80000, .pbox (σ 80000) [.sl (c1.1.map c5), Ti c1.2.1, .v (.int .u64 c1.2.2)])]⟩) ?_ ?_
  ·refine L0 rfl rfl (E_assign (I 0) rfl (by kernel_rfl)) ?_
   refine XL_nil ?_
   kernel_rfl
  obtain ⟨y3, hy3, h⟩ := of_bind h
  obtain ⟨e4, he4, h⟩ := of_bind h
  refine V_sreg (mb 12 16) [80000] (s1 := ⟨bt 4 (I e4 :: bt 7 []), [(80000, .pbox (σ 80000) [.sl (y3.2.1.map c5), Ti y3.2.2.1, .v (.int .u64 y3.2.2.2)])]⟩) ?_ ?_
  ·refine L0 rfl rfl (E_move (.c (.sl (list2.map c3))) rfl (by kernel_rfl)) ?_
   refine L0 rfl rfl (E_move (.pt 80000 0) rfl (by kernel_rfl)) ?_
   refine L0 rfl rfl (E_move (.c (.sl (list2.map c3))) rfl (by kernel_rfl)) ?_
   refine L0 rfl rfl (Y0_lenM (c := c3) (xs := list2) Try.underlying28 rfl (by kernel_rfl)) ?_
   refine XL_cons rfl (X_callR (E' := [(80000, .pbox (σ 80000) [.sl (y3.2.1.map c5), Ti y3.2.2.1, .v (.int .u64 y3.2.2.2)])]) [(80000, 80000)] 9 (s_spec_l1Cur_pick hy3) cf_spec_l1Cur_pick rfl rfl (by kernel_rfl) rfl (mE_cons (by kernel_rfl) mE_nil) rfl (by kernel_rfl) rfl rfl (by kernel_rfl)) ?_
   refine L0 rfl rfl (Y0_idxM (c := c3) (xs := list2) (v := e4) (n := y3.1) Try.underlying28 sz3 rfl (by kernel_rfl) (by kernel_rfl) he4) ?_
   refine L0 rfl rfl (Y0_load1 (c := Ti e4) (cs := []) sc3 rfl (by kernel_rfl)) ?_
   refine L0 rfl rfl (E_assign (I e4) rfl (by kernel_rfl)) ?_
   refine XL_nil ?_
   kernel_rfl
  refine V_ret ?_
  obtain rfl := some_inj h
  show PostR _ _ _ _ _ _
  exact ⟨⟨.inr rfl, rfl, rfl, rfl⟩, ⟨rfl, trivial⟩⟩
theorem cf_spec_nuMod : ∀ args w, (callFunc 92 args).run Try.prog w = .ok (.enter 92 args) w := run_callFunc Try.func92 (by kernel_rfl) (by kernel_rfl)
set_option maxRecDepth 100000 in
set_option maxHeartbeats 400000 in
theorem s_spec_nuMod {a1 : Int} {vm2 : Int} {r : Int} (h : r_spec_nuMod a1 vm2 = some r) : CallS Try.prog 92 [I a1, I vm2] (I r) [] := by
  refine CallS_of_text (rs := [.t 4]) (vs := [.tmp 4]) Try.func92 rfl rfl (.cons rfl FitsL.nil) (by decide) 15 rfl ?_
  unfold r_spec_nuMod at h
  show V _ _ ⟨I a1 :: I vm2 :: bt 13 [], []⟩ _
  refine V_sreg (mb 15 3) [] (s1 := ⟨I a1 :: I vm2 :: bt 13 [], []⟩) ?_ ?_
  ·refine L0 rfl rfl (E_assign (I 0) rfl (by kernel_rfl)) ?_
   refine XL_nil ?_
   kernel_rfl
  obtain ⟨z3, hz3, h⟩ := of_bind h
  obtain ⟨vr4, hvr4, h⟩ := of_sI h
  refine V_sreg (mb 15 34) [] (s1 := ⟨.bot :: I vm2 :: bt 3 (I vr4 :: bt 9 []), []⟩) ?_ ?_
  ·refine L0 rfl rfl (E_move (I a1) rfl (by kernel_rfl)) ?_
   refine L0 rfl rfl (E_move (I vm2) rfl (by kernel_rfl)) ?_
   refine L0 rfl rfl (Y0_rem (k := .i64) (a := a1) (b := vm2) rfl (by kernel_rfl) (by kernel_rfl) (nz_some hz3)) ?_
   refine L0 rfl rfl (E_assign (I (Int.tmod a1 vm2)) rfl (by kernel_rfl)) ?_
   refine XL_nil ?_
   subst hvr4
   kernel_rfl
  refine V_seq ?_
  refine V_sreg (mb 15 1058) [] (s1 := ⟨.bot :: I vm2 :: bt 3 (I vr4 :: bt 4 (Bo (ltI vr4 0) :: bt 4 [])), []⟩) ?_ ?_
  ·refine L0 rfl rfl (E_move (I vr4) rfl (by kernel_rfl)) ?_
   refine L0 rfl rfl (Y0_ltw (k := .i64) (a := vr4) (b := 0) rfl (by kernel_rfl) (by kernel_rfl)) ?_
   refine XL_nil ?_
   kernel_rfl
  refine V_cond rfl (fun hc5 => ?_) (fun hc5 => ?_)
  ·have h := of_true h hc5
   obtain ⟨vr6, hvr6, h⟩ := of_sI h
   refine V_reg (mb 15 32) [] (s1 := ⟨bt 5 (I vr6 :: bt 9 []), []⟩) ?_ ?_
   ·refine L0 rfl rfl (E_move (I vr4) rfl (by kernel_rfl)) ?_
    refine L0 rfl rfl (E_move (I vm2) rfl (by kernel_rfl)) ?_
    refine L0 rfl rfl (Y0_add64 (a := vr4) (b := vm2) rfl (by kernel_rfl) (by kernel_rfl)) ?_
    refine L0 rfl rfl (E_assign (I (w64 (vr4 + vm2))) rfl (by kernel_rfl)) ?_
    refine XL_nil ?_
    subst hvr6
    kernel_rfl
   show V _ _ _ _
   refine V_sreg (mb 15 16) [] (s1 := ⟨bt 4 (I vr6 :: bt 10 []), []⟩) ?_ ?_
   ·refine L0 rfl rfl (E_move (I vr6) rfl (by kernel_rfl)) ?_
    refine L0 rfl rfl (E_assign (I vr6) rfl (by kernel_rfl)) ?_
    refine XL_nil ?_
    kernel_rfl
   refine V_ret ?_
   obtain rfl := some_inj h
   show Post _ _ _ _ _
   exact ⟨.inr rfl, rfl, rfl, rfl⟩
  ·have h := of_false h hc5
   refine V_skip ?_
   show V _ _ _ _
   refine V_sreg (mb 15 16) [] (s1 := ⟨bt 4 (I vr4 :: bt 10 []), []⟩) ?_ ?_
   ·refine L0 rfl rfl (E_move (I vr4) rfl (by kernel_rfl)) ?_
    refine L0 rfl rfl (E_assign (I vr4) rfl (by kernel_rfl)) ?_
    refine XL_nil ?_
    kernel_rfl
   refine V_ret ?_
   obtain rfl := some_inj h
   show Post _ _ _ _ _
   exact ⟨.inr rfl, rfl, rfl, rfl⟩
theorem cf_spec_l1Most : ∀ args w, (callFunc 94 args).run Try.prog w = .ok (.enter 94 args) w := run_callFunc Try.func94 (by kernel_rfl) (by kernel_rfl)
set_option maxRecDepth 100000 in
set_option maxHeartbeats 400000 in
theorem s_spec_l1Most {a1 : Int} {b2 : Int} {r : Int} (h : r_spec_l1Most a1 b2 = some r) : CallS Try.prog 94 [I a1, I b2] (I r) [] := by
  refine CallS_of_text (rs := [.t 4]) (vs := [.tmp 4]) Try.func94 rfl rfl (.cons rfl FitsL.nil) (by decide) 10 rfl ?_
  unfold r_spec_l1Most at h
  show V _ _ ⟨I a1 :: I b2 :: bt 8 [], []⟩ _
  refine V_sreg (mb 10 3) [] (s1 := ⟨I a1 :: I b2 :: bt 8 [], []⟩) ?_ ?_
  ·refine L0 rfl rfl (E_assign (I 0) rfl (by kernel_rfl)) ?_
   refine XL_nil ?_
   kernel_rfl
  refine V_seq ?_
  refine V_sreg (mb 10 131) [] (s1 := ⟨I a1 :: I b2 :: bt 5 (Bo (ltI b2 a1) :: .bot :: .bot :: []), []⟩) ?_ ?_
  ·refine L0 rfl rfl (E_move (I a1) rfl (by kernel_rfl)) ?_
   refine L0 rfl rfl (E_move (I b2) rfl (by kernel_rfl)) ?_
   refine L0 rfl rfl (Y0_gtw (k := .i64) (a := a1) (b := b2) rfl (by kernel_rfl) (by kernel_rfl)) ?_
   refine XL_nil ?_
   kernel_rfl
  refine V_cond rfl (fun hc3 => ?_) (fun hc3 => ?_)
  ·have h := of_true h hc3
   refine V_sreg (mb 10 16) [] (s1 := ⟨bt 4 (I a1 :: bt 5 []), []⟩) ?_ ?_
   ·refine L0 rfl rfl (E_move (I a1) rfl (by kernel_rfl)) ?_
    refine L0 rfl rfl (E_assign (I a1) rfl (by kernel_rfl)) ?_
    refine XL_nil ?_
    kernel_rfl
   refine V_ret ?_
   obtain rfl := some_inj h
   show Post _ _ _ _ _
   exact ⟨.inr rfl, rfl, rfl, rfl⟩
  ·have h := of_false h hc3
   refine V_skip ?_
   show V _ _ _ _
   refine V_sreg (mb 10 16) [] (s1 := ⟨bt 4 (I b2 :: bt 5 []), []⟩) ?_ ?_
   ·refine L0 rfl rfl (E_move (I b2) rfl (by kernel_rfl)) ?_
    refine L0 rfl rfl (E_assign (I b2) rfl (by kernel_rfl)) ?_
    refine XL_nil ?_
    kernel_rfl
   refine V_ret ?_
   obtain rfl := some_inj h
   show Post _ _ _ _ _
   exact ⟨.inr rfl, rfl, rfl, rfl⟩
theorem cf_spec_l1Cur_disc : ∀ args w, (callFunc 53 args).run Try.prog w = .ok (.enter 53 args) w := run_callFunc Try.func53 (by kernel_rfl) (by kernel_rfl)
set_option maxRecDepth 100000 in
set_option maxHeartbeats 400000 in
theorem s_spec_l1Cur_disc {c1 : ((List Int) × Int × Int)} {r : (Int × (((List Int) × Int × Int)))} (h : r_spec_l1Cur_disc c1 = some r) : CallR Try.prog 53 [.pt 80000 0] [(80000, .box [.sl (c1.1.map c5), Ti c1.2.1, .v (.int .u64 c1.2.2)])] (I r.1) [] [(80000, .box [.sl (r.2.1.map c5), Ti r.2.2.1, .v (.int .u64 r.2.2.2)])] := by
  refine CallR_of_text (rs := [.t 2]) (vs := [.tmp 2]) Try.func53 rfl rfl (.cons rfl FitsL.nil) (by decide) 42 rfl rfl fun σ => ?_
  unfold r_spec_l1Cur_disc at h
  show V _ _ ⟨.pt 80000 0 :: bt 41 [], [(80000, .pbox (σ 80000) [.sl (c1.1.map c5), Ti c1.2.1, .v (.int .u64 c1.2.2)])]⟩ _
  refine V_sreg (mb 42 1) [80000] (s1 := ⟨.pt 80000 0 :: bt 41 [], [(80000, .pbox (σ 80000) [.sl (c1.1.map c5), Ti c1.2.1, .v (.int .u64 c1.2.2)])]⟩) ?_ ?_
  ·refine L0 rfl rfl (E_assign (I 0) rfl (by kernel_rfl)) ?_
   refine XL_nil ?_
   kernel_rfl
  refine V_seq ?_
  obtain ⟨y2, hy2, h⟩ := of_bind h
  refine V_sreg (mb 42 33) [80000] (s1 := ⟨.pt 80000 0 :: bt 4 (I y2.1 :: bt 36 []), [(80000, .pbox (σ 80000) [.sl (y2.2.1.map c5), Ti y2.2.2.1, .v (.int .u64 y2.2.2.2)])]⟩) ?_ ?_
  ·refine L0 rfl rfl (E_move (.pt 80000 0) rfl (by kernel_rfl)) ?_
   refine XL_cons rfl (X_callR (E' := [(80000, .pbox (σ 80000) [.sl (y2.2.1.map c5), Ti y2.2.2.1, .v (.int .u64 y2.2.2.2)])]) [(80000, 80000)] 5 (s_spec_l1Cur_pick hy2) cf_spec_l1Cur_pick rfl rfl (by kernel_rfl) rfl (mE_cons (by kernel_rfl) mE_nil) rfl (by kernel_rfl) rfl rfl (by kernel_rfl)) ?_
   refine XL_nil ?_
   kernel_rfl
  refine V_block ?_
  refine V_sreg (mb 42 97) [80000] (s1 := ⟨.pt 80000 0 :: bt 4 (I y2.1 :: Bo (eqI y2.1 0) :: bt 35 []), [(80000, .pbox (σ 80000) [.sl (y2.2.1.map c5), Ti y2.2.2.1, .v (.int .u64 y2.2.2.2)])]⟩) ?_ ?_
  ·refine L0 rfl rfl (Y0_eqw (k := .i64) (a := y2.1) (b := 0) rfl (by kernel_rfl) (by kernel_rfl)) ?_
   refine L0 rfl rfl (E_assign (Bo (eqI y2.1 0)) rfl (by kernel_rfl)) ?_
   refine XL_nil ?_
   kernel_rfl
  refine V_cond rfl (fun hc3 => ?_) (fun hc3 => ?_)
  ·have h := of_true h hc3
   obtain ⟨y4, hy4, h⟩ := of_bind h
   refine V_sreg (mb 42 4) [80000] (s1 := ⟨.bot :: .bot :: I y4.1 :: bt 39 [], [(80000, .pbox (σ 80000) [.sl (y4.2.1.map c5), Ti y4.2.2.1, .v (.int .u64 y4.2.2.2)])]⟩) ?_ ?_
   ·refine L0 rfl rfl (E_move (.pt 80000 0) rfl (by kernel_rfl)) ?_
    refine L1 rfl rfl (Y1_bslice (z := zv3) (els := [-3, -4, -2000, -1999, -1996, -1995, -163, -2001, -2003, -2004, 0, 1, 5, -1, -2, -5, -9223372036854775808].map c3) Try.underlying28 iz3 rfl (by decide) rfl (by kernel_rfl) rfl (by simp [c3]) (by decide) (by decide)) ?_
    refine XL_freeze 72 (T := 3) (sz := 1) (els := ([-3, -4, -2000, -1999, -1996, -1995, -163, -2001, -2003, -2004, 0, 1, 5, -1, -2, -5, -9223372036854775808]).map c3) (s1 := ⟨.pt 80000 0 :: bt 4 (I y2.1 :: Bo (eqI y2.1 0) :: .bot :: .pt 80000 0 :: .c (.sl (([-3, -4, -2000, -1999, -1996, -1995, -163, -2001, -2003, -2004, 0, 1, 5, -1, -2, -5, -9223372036854775808]).map c3)) :: bt 32 []), [(80000, .pbox (σ 80000) [.sl (y2.2.1.map c5), Ti y2.2.2.1, .v (.int .u64 y2.2.2.2)])]⟩) (by kernel_rfl) (by kernel_rfl) ?_
    refine XL_cons rfl (X_callR (E' := [(80000, .pbox (σ 80000) [.sl (y4.2.1.map c5), Ti y4.2.2.1, .v (.int .u64 y4.2.2.2)])]) [(80000, 80000)] 10 (s_spec_l1Cur_among hy4) cf_spec_l1Cur_among rfl rfl (by kernel_rfl) rfl (mE_cons (by kernel_rfl) mE_nil) rfl (by kernel_rfl) rfl rfl (by kernel_rfl)) ?_
    refine L0 rfl rfl (E_assign (I y4.1) rfl (by kernel_rfl)) ?_
    refine XL_nil ?_
    kernel_rfl
   refine V_ret ?_
   obtain rfl := some_inj h
   show PostR _ _ _ _ _ _
   exact ⟨⟨.inr rfl, rfl, rfl, rfl⟩, ⟨rfl, trivial⟩⟩
  ·have h := of_false h hc3
   obtain ⟨j5, hj5, h⟩ := of_bind h
   refine V_cutK (mb 42 2081) [80000] (s1 := ⟨.pt 80000 0 :: bt 4 (I y2.1 :: bt 5 (Bo j5 :: bt 30 [])), [(80000, .pbox (σ 80000) [.sl (y2.2.1.map c5), Ti y2.2.2.1, .v (.int .u64 y2.2.2.2)])]⟩) ?_ ?_
   ·clear h
    have h := hj5
    clear hj5
    refine V_sreg (mb 42 2081) [80000] (s1 := ⟨.pt 80000 0 :: bt 4 (I y2.1 :: bt 5 (Bo (eqI y2.1 1) :: bt 30 [])), [(80000, .pbox (σ 80000) [.sl (y2.2.1.map c5), Ti y2.2.2.1, .v (.int .u64 y2.2.2.2)])]⟩) ?_ ?_
    ·refine L0 rfl rfl (Y0_eqw (k := .i64) (a := y2.1) (b := 1) rfl (by kernel_rfl) (by kernel_rfl)) ?_
     refine L0 rfl rfl (E_assign (Bo (eqI y2.1 1)) rfl (by kernel_rfl)) ?_
     refine XL_nil ?_
     kernel_rfl
    refine V_cond rfl (fun hc6 => ?_) (fun hc6 => ?_)
    ·have h := of_true h hc6
     refine V_skip ?_
     obtain rfl := some_inj h
     show St.keep _ _ _ = _
     rfl
    ·have h := of_false h hc6
     refine V_reg (mb 42 2081) [80000] (s1 := ⟨.pt 80000 0 :: bt 4 (I y2.1 :: bt 5 (Bo (eqI y2.1 2) :: bt 30 [])), [(80000, .pbox (σ 80000) [.sl (y2.2.1.map c5), Ti y2.2.2.1, .v (.int .u64 y2.2.2.2)])]⟩) ?_ ?_
     ·refine L0 rfl rfl (Y0_eqw (k := .i64) (a := y2.1) (b := 2) rfl (by kernel_rfl) (by kernel_rfl)) ?_
      refine L0 rfl rfl (E_assign (Bo (eqI y2.1 2)) rfl (by kernel_rfl)) ?_
      refine XL_nil ?_
      kernel_rfl
     obtain rfl := some_inj h
     show St.keep _ _ _ = _
     rfl
   refine V_cond rfl (fun hc7 => ?_) (fun hc7 => ?_)
   ·have h := of_true h hc7
    obtain ⟨y8, hy8, h⟩ := of_bind h
    obtain ⟨d9, hd9, h⟩ := of_sI h
    refine V_sreg (mb 42 8) [80000] (s1 := ⟨bt 3 (I d9 :: bt 38 []), [(80000, .pbox (σ 80000) [.sl (y8.2.1.map c5), Ti y8.2.2.1, .v (.int .u64 y8.2.2.2)])]⟩) ?_ ?_
    ·refine L0 rfl rfl (E_move (.pt 80000 0) rfl (by kernel_rfl)) ?_
     refine XL_cons rfl (X_callR (E' := [(80000, .pbox (σ 80000) [.sl (y8.2.1.map c5), Ti y8.2.2.1, .v (.int .u64 y8.2.2.2)])]) [(80000, 80000)] 15 (s_spec_l1Cur_pick hy8) cf_spec_l1Cur_pick rfl rfl (by kernel_rfl) rfl (mE_cons (by kernel_rfl) mE_nil) rfl (by kernel_rfl) rfl rfl (by kernel_rfl)) ?_
     refine L0 rfl rfl (Y0_sub64 (a := -3) (b := y8.1) rfl (by kernel_rfl) (by kernel_rfl)) ?_
     refine L0 rfl rfl (E_assign (I (w64 ((-3) - y8.1))) rfl (by kernel_rfl)) ?_
     refine XL_nil ?_
     subst hd9
     kernel_rfl
    refine V_seq ?_
    obtain ⟨y10, hy10, h⟩ := of_bind h
    refine V_sreg (mb 42 524296) [80000] (s1 := ⟨bt 3 (I d9 :: bt 15 (Bo (ltI 1 y10) :: bt 22 [])), [(80000, .pbox (σ 80000) [.sl (y8.2.1.map c5), Ti y8.2.2.1, .v (.int .u64 y8.2.2.2)])]⟩) ?_ ?_
    ·refine L0 rfl rfl (E_move (I d9) rfl (by kernel_rfl)) ?_
     refine L1 rfl rfl (Y1_call (s_spec_nuMod hy10) cf_spec_nuMod rfl (by kernel_rfl)) ?_
     refine L0 rfl rfl (Y0_gtw (k := .i64) (a := y10) (b := 1) rfl (by kernel_rfl) (by kernel_rfl)) ?_
     refine XL_nil ?_
     kernel_rfl
    refine V_cond rfl (fun hc11 => ?_) (fun hc11 => ?_)
    ·have h := of_true h hc11
     obtain ⟨y12, hy12, h⟩ := of_bind h
     refine V_reg (mb 42 8) [80000] (s1 := ⟨bt 3 (I y12 :: bt 38 []), [(80000, .pbox (σ 80000) [.sl (y8.2.1.map c5), Ti y8.2.2.1, .v (.int .u64 y8.2.2.2)])]⟩) ?_ ?_
     ·refine L0 rfl rfl (E_move (I d9) rfl (by kernel_rfl)) ?_
      refine L0 rfl rfl (Y0_sub64 (a := d9) (b := 2) rfl (by kernel_rfl) (by kernel_rfl)) ?_
      refine L1 rfl rfl (Y1_call (s_spec_l1Most hy12) cf_spec_l1Most rfl (by kernel_rfl)) ?_
      refine L0 rfl rfl (E_assign (I y12) rfl (by kernel_rfl)) ?_
      refine XL_nil ?_
      kernel_rfl
     show V _ _ _ _
     refine V_sreg (mb 42 4) [80000] (s1 := ⟨.bot :: .bot :: I y12 :: bt 39 [], [(80000, .pbox (σ 80000) [.sl (y8.2.1.map c5), Ti y8.2.2.1, .v (.int .u64 y8.2.2.2)])]⟩) ?_ ?_
     ·refine L0 rfl rfl (E_move (I y12) rfl (by kernel_rfl)) ?_
      refine L0 rfl rfl (E_assign (I y12) rfl (by kernel_rfl)) ?_
      refine XL_nil ?_
      kernel_rfl
     refine V_ret ?_
     obtain rfl := some_inj h
     show PostR _ _ _ _ _ _
     exact ⟨⟨.inr rfl, rfl, rfl, rfl⟩, ⟨rfl, trivial⟩⟩
    ·have h := of_false h hc11
     refine V_skip ?_
     show V _ _ _ _
     refine V_sreg (mb 42 4) [80000] (s1 := ⟨.bot :: .bot :: I d9 :: bt 39 [], [(80000, .pbox (σ 80000) [.sl (y8.2.1.map c5), Ti y8.2.2.1, .v (.int .u64 y8.2.2.2)])]⟩) ?_ ?_
     ·refine L0 rfl rfl (E_move (I d9) rfl (by kernel_rfl)) ?_
      refine L0 rfl rfl (E_assign (I d9) rfl (by kernel_rfl)) ?_
      refine XL_nil ?_
      kernel_rfl
     refine V_ret ?_
     obtain rfl := some_inj h
     show PostR _ _ _ _ _ _
     exact ⟨⟨.inr rfl, rfl, rfl, rfl⟩, ⟨rfl, trivial⟩⟩
   ·have h := of_false h hc7
    obtain ⟨j13, hj13, h⟩ := of_bind h
    refine V_cutK (mb 42 16777249) [80000] (s1 := ⟨.pt 80000 0 :: bt 4 (I y2.1 :: bt 18 (Bo j13 :: bt 17 [])), [(80000, .pbox (σ 80000) [.sl (y2.2.1.map c5), Ti y2.2.2.1, .v (.int .u64 y2.2.2.2)])]⟩) ?_ ?_
    ·clear h
     have h := hj13
     clear hj13
     refine V_sreg (mb 42 16777249) [80000] (s1 := ⟨.pt 80000 0 :: bt 4 (I y2.1 :: bt 18 (Bo (eqI y2.1 3) :: bt 17 [])), [(80000, .pbox (σ 80000) [.sl (y2.2.1.map c5), Ti y2.2.2.1, .v (.int .u64 y2.2.2.2)])]⟩) ?_ ?_
     ·refine L0 rfl rfl (Y0_eqw (k := .i64) (a := y2.1) (b := 3) rfl (by kernel_rfl) (by kernel_rfl)) ?_
      refine L0 rfl rfl (E_assign (Bo (eqI y2.1 3)) rfl (by kernel_rfl)) ?_
      refine XL_nil ?_
      kernel_rfl
     refine V_cond rfl (fun hc14 => ?_) (fun hc14 => ?_)
     ·have h := of_true h hc14
      refine V_skip ?_
      obtain rfl := some_inj h
      show St.keep _ _ _ = _
      rfl
     ·have h := of_false h hc14
      refine V_sreg (mb 42 16777249) [80000] (s1 := ⟨.pt 80000 0 :: bt 4 (I y2.1 :: bt 18 (Bo (eqI y2.1 4) :: bt 17 [])), [(80000, .pbox (σ 80000) [.sl (y2.2.1.map c5), Ti y2.2.2.1, .v (.int .u64 y2.2.2.2)])]⟩) ?_ ?_
      ·refine L0 rfl rfl (Y0_eqw (k := .i64) (a := y2.1) (b := 4) rfl (by kernel_rfl) (by kernel_rfl)) ?_
       refine L0 rfl rfl (E_assign (Bo (eqI y2.1 4)) rfl (by kernel_rfl)) ?_
       refine XL_nil ?_
       kernel_rfl
      refine V_cond rfl (fun hc15 => ?_) (fun hc15 => ?_)
      ·have h := of_true h hc15
       refine V_skip ?_
       obtain rfl := some_inj h
       show St.keep _ _ _ = _
       rfl
      ·have h := of_false h hc15
       refine V_reg (mb 42 16777249) [80000] (s1 := ⟨.pt 80000 0 :: bt 4 (I y2.1 :: bt 18 (Bo (eqI y2.1 5) :: bt 17 [])), [(80000, .pbox (σ 80000) [.sl (y2.2.1.map c5), Ti y2.2.2.1, .v (.int .u64 y2.2.2.2)])]⟩) ?_ ?_
       ·refine L0 rfl rfl (Y0_eqw (k := .i64) (a := y2.1) (b := 5) rfl (by kernel_rfl) (by kernel_rfl)) ?_
        refine L0 rfl rfl (E_assign (Bo (eqI y2.1 5)) rfl (by kernel_rfl)) ?_
        refine XL_nil ?_
        kernel_rfl
       obtain rfl := some_inj h
       show St.keep _ _ _ = _
       rfl
    refine V_cond rfl (fun hc16 => ?_) (fun hc16 => ?_)
    ·have h := of_true h hc16
     obtain ⟨y17, hy17, h⟩ := of_bind h
     refine V_sreg (mb 42 4) [80000] (s1 := ⟨.bot :: .bot :: I y17.1 :: bt 39 [], [(80000, .pbox (σ 80000) [.sl (y17.2.1.map c5), Ti y17.2.2.1, .v (.int .u64 y17.2.2.2)])]⟩) ?_ ?_
     ·refine L0 rfl rfl (E_move (.pt 80000 0) rfl (by kernel_rfl)) ?_
      refine L1 rfl rfl (Y1_bslice (z := zv3) (els := [-84, -420, -231, -260, -455, -520, -660, -1155, -1320, -1380, -1428, -1540, -399, -1092, -1560, -1785].map c3) Try.underlying28 iz3 rfl (by decide) rfl (by kernel_rfl) rfl (by simp [c3]) (by decide) (by decide)) ?_
      refine XL_freeze 232 (T := 3) (sz := 1) (els := ([-84, -420, -231, -260, -455, -520, -660, -1155, -1320, -1380, -1428, -1540, -399, -1092, -1560, -1785]).map c3) (s1 := ⟨.pt 80000 0 :: bt 4 (I y2.1 :: bt 18 (Bo j13 :: bt 3 (.pt 80000 0 :: .c (.sl (([-84, -420, -231, -260, -455, -520, -660, -1155, -1320, -1380, -1428, -1540, -399, -1092, -1560, -1785]).map c3)) :: bt 12 []))), [(80000, .pbox (σ 80000) [.sl (y2.2.1.map c5), Ti y2.2.2.1, .v (.int .u64 y2.2.2.2)])]⟩) (by kernel_rfl) (by kernel_rfl) ?_
      refine XL_cons rfl (X_callR (E' := [(80000, .pbox (σ 80000) [.sl (y17.2.1.map c5), Ti y17.2.2.1, .v (.int .u64 y17.2.2.2)])]) [(80000, 80000)] 30 (s_spec_l1Cur_among hy17) cf_spec_l1Cur_among rfl rfl (by kernel_rfl) rfl (mE_cons (by kernel_rfl) mE_nil) rfl (by kernel_rfl) rfl rfl (by kernel_rfl)) ?_
      refine L0 rfl rfl (E_assign (I y17.1) rfl (by kernel_rfl)) ?_
      refine XL_nil ?_
      kernel_rfl
     refine V_ret ?_
     obtain rfl := some_inj h
     show PostR _ _ _ _ _ _
     exact ⟨⟨.inr rfl, rfl, rfl, rfl⟩, ⟨rfl, trivial⟩⟩
    ·have h := of_false h hc16
     obtain ⟨j18, hj18, h⟩ := of_bind h
     refine V_cutK (mb 42 2147483649) [80000] (s1 := ⟨.pt 80000 0 :: bt 30 (Bo j18 :: bt 10 []), [(80000, .pbox (σ 80000) [.sl (y2.2.1.map c5), Ti y2.2.2.1, .v (.int .u64 y2.2.2.2)])]⟩) ?_ ?_
     ·clear h
      have h := hj18
      clear hj18
      refine V_sreg (mb 42 2147483681) [80000] (s1 := ⟨.pt 80000 0 :: bt 4 (I y2.1 :: bt 25 (Bo (eqI y2.1 6) :: bt 10 [])), [(80000, .pbox (σ 80000) [.sl (y2.2.1.map c5), Ti y2.2.2.1, .v (.int .u64 y2.2.2.2)])]⟩) ?_ ?_
      ·refine L0 rfl rfl (Y0_eqw (k := .i64) (a := y2.1) (b := 6) rfl (by kernel_rfl) (by kernel_rfl)) ?_
       refine L0 rfl rfl (E_assign (Bo (eqI y2.1 6)) rfl (by kernel_rfl)) ?_
       refine XL_nil ?_
       kernel_rfl
      refine V_cond rfl (fun hc19 => ?_) (fun hc19 => ?_)
      ·have h := of_true h hc19
       refine V_skip ?_
       obtain rfl := some_inj h
       show St.keep _ _ _ = _
       rfl
      ·have h := of_false h hc19
       refine V_reg (mb 42 2147483649) [80000] (s1 := ⟨.pt 80000 0 :: bt 30 (Bo (eqI y2.1 7) :: bt 10 []), [(80000, .pbox (σ 80000) [.sl (y2.2.1.map c5), Ti y2.2.2.1, .v (.int .u64 y2.2.2.2)])]⟩) ?_ ?_
       ·refine L0 rfl rfl (Y0_eqw (k := .i64) (a := y2.1) (b := 7) rfl (by kernel_rfl) (by kernel_rfl)) ?_
        refine L0 rfl rfl (E_assign (Bo (eqI y2.1 7)) rfl (by kernel_rfl)) ?_
        refine XL_nil ?_
        kernel_rfl
       obtain rfl := some_inj h
       show St.keep _ _ _ = _
       rfl
     refine V_cond rfl (fun hc20 => ?_) (fun hc20 => ?_)
     ·have h := of_true h hc20
      obtain ⟨y21, hy21, h⟩ := of_bind h
      obtain ⟨t22, ht22, h⟩ := of_sI h
      refine V_sreg (mb 42 4) [80000] (s1 := ⟨.bot :: .bot :: I t22 :: bt 39 [], [(80000, .pbox (σ 80000) [.sl (y21.2.1.map c5), Ti y21.2.2.1, .v (.int .u64 y21.2.2.2)])]⟩) ?_ ?_
      ·refine L0 rfl rfl (E_move (.pt 80000 0) rfl (by kernel_rfl)) ?_
       refine XL_cons rfl (X_callR (E' := [(80000, .pbox (σ 80000) [.sl (y21.2.1.map c5), Ti y21.2.2.1, .v (.int .u64 y21.2.2.2)])]) [(80000, 80000)] 35 (s_spec_l1Cur_pick hy21) cf_spec_l1Cur_pick rfl rfl (by kernel_rfl) rfl (mE_cons (by kernel_rfl) mE_nil) rfl (by kernel_rfl) rfl rfl (by kernel_rfl)) ?_
       refine L0 rfl rfl (Y0_add64 (a := 1) (b := y21.1) rfl (by kernel_rfl) (by kernel_rfl)) ?_
       refine L0 rfl rfl (Y0_mul64 (a := -4) (b := w64 (1 + y21.1)) rfl (by kernel_rfl) (by kernel_rfl)) ?_
       refine L0 rfl rfl (E_assign (I (w64 ((-4) * (w64 (1 + y21.1))))) rfl (by kernel_rfl)) ?_
       refine XL_nil ?_
       subst ht22
       kernel_rfl
      refine V_ret ?_
      obtain rfl := some_inj h
      show PostR _ _ _ _ _ _
      exact ⟨⟨.inr rfl, rfl, rfl, rfl⟩, ⟨rfl, trivial⟩⟩
     ·have h := of_false h hc20
      refine V_skip ?_
      show V _ _ _ _
      obtain ⟨y23, hy23, h⟩ := of_bind h
      obtain ⟨t24, ht24, h⟩ := of_sI h
      refine V_sreg (mb 42 4) [80000] (s1 := ⟨.bot :: .bot :: I t24 :: bt 39 [], [(80000, .pbox (σ 80000) [.sl (y23.2.1.map c5), Ti y23.2.2.1, .v (.int .u64 y23.2.2.2)])]⟩) ?_ ?_
      ·refine L0 rfl rfl (E_move (.pt 80000 0) rfl (by kernel_rfl)) ?_
       refine XL_cons rfl (X_callR (E' := [(80000, .pbox (σ 80000) [.sl (y23.2.1.map c5), Ti y23.2.2.1, .v (.int .u64 y23.2.2.2)])]) [(80000, 80000)] 39 (s_spec_l1Cur_pick hy23) cf_spec_l1Cur_pick rfl rfl (by kernel_rfl) rfl (mE_cons (by kernel_rfl) mE_nil) rfl (by kernel_rfl) rfl rfl (by kernel_rfl)) ?_
       refine L0 rfl rfl (Y0_mul64 (a := 4) (b := y23.1) rfl (by kernel_rfl) (by kernel_rfl)) ?_
       refine L0 rfl rfl (Y0_sub64 (a := -3) (b := w64 (4 * y23.1)) rfl (by kernel_rfl) (by kernel_rfl)) ?_
       refine L0 rfl rfl (E_assign (I (w64 ((-3) - (w64 (4 * y23.1))))) rfl (by kernel_rfl)) ?_
       refine XL_nil ?_
       subst ht24
       kernel_rfl
      refine V_ret ?_
      obtain rfl := some_inj h
      show PostR _ _ _ _ _ _
      exact ⟨⟨.inr rfl, rfl, rfl, rfl⟩, ⟨rfl, trivial⟩⟩
theorem cf_spec_l1Cur_terms : ∀ args w, (callFunc 54 args).run Try.prog w = .ok (.enter 54 args) w := run_callFunc Try.func54 (by kernel_rfl) (by kernel_rfl)
set_option maxRecDepth 100000 in
set_option maxHeartbeats 400000 in
theorem s_spec_l1Cur_terms {c1 : ((List Int) × Int × Int)} {r : (Int × (((List Int) × Int × Int)))} (h : r_spec_l1Cur_terms c1 = some r) : CallR Try.prog 54 [.pt 80000 0] [(80000, .box [.sl (c1.1.map c5), Ti c1.2.1, .v (.int .u64 c1.2.2)])] (I r.1) [] [(80000, .box [.sl (r.2.1.map c5), Ti r.2.2.1, .v (.int .u64 r.2.2.2)])] := by
  refine CallR_of_text (rs := [.t 2]) (vs := [.tmp 2]) Try.func54 rfl rfl (.cons rfl FitsL.nil) (by decide) 8 rfl rfl fun σ => ?_
  unfold r_spec_l1Cur_terms at h
  show V _ _ ⟨.pt 80000 0 :: bt 7 [], [(80000, .pbox (σ 80000) [.sl (c1.1.map c5), Ti c1.2.1, .v (.int .u64 c1.2.2)])]⟩ _
  refine V_sreg (mb 8 1) [80000] (s1 := ⟨.pt 80000 0 :: bt 7 [], [(80000, .pbox (σ 80000) [.sl (c1.1.map c5), Ti c1.2.1, .v (.int .u64 c1.2.2)])]⟩) ?_ ?_
  ·refine L0 rfl rfl (E_assign (I 0) rfl (by kernel_rfl)) ?_
   refine XL_nil ?_
   kernel_rfl
  obtain ⟨y2, hy2, h⟩ := of_bind h
  obtain ⟨y3, hy3, h⟩ := of_bind h
  refine V_sreg (mb 8 4) [80000] (s1 := ⟨.bot :: .bot :: I y3.1 :: bt 5 [], [(80000, .pbox (σ 80000) [.sl (y3.2.1.map c5), Ti y3.2.2.1, .v (.int .u64 y3.2.2.2)])]⟩) ?_ ?_
  ·refine L0 rfl rfl (E_move (.pt 80000 0) rfl (by kernel_rfl)) ?_
   refine L0 rfl rfl (E_move (.pt 80000 0) rfl (by kernel_rfl)) ?_
   refine XL_cons rfl (X_callR (E' := [(80000, .pbox (σ 80000) [.sl (y2.2.1.map c5), Ti y2.2.2.1, .v (.int .u64 y2.2.2.2)])]) [(80000, 80000)] 5 (s_spec_l1Cur_pick hy2) cf_spec_l1Cur_pick rfl rfl (by kernel_rfl) rfl (mE_cons (by kernel_rfl) mE_nil) rfl (by kernel_rfl) rfl rfl (by kernel_rfl)) ?_
   refine L1 rfl rfl (Y1_bslice (z := zv3) (els := [0, 1, 2, 5, 10, 20, 40, 100, 101, -1, y2.1].map c3) Try.underlying28 iz3 rfl (by decide) rfl (by kernel_rfl) rfl (by simp [c3]) (by decide) (by decide)) ?_
   refine XL_freeze 48 (T := 3) (sz := 1) (els := ([0, 1, 2, 5, 10, 20, 40, 100, 101, -1, y2.1]).map c3) (s1 := ⟨.pt 80000 0 :: .bot :: .bot :: .pt 80000 0 :: .pt 80000 0 :: I y2.1 :: .c (.sl (([0, 1, 2, 5, 10, 20, 40, 100, 101, -1, y2.1]).map c3)) :: .bot :: [], [(80000, .pbox (σ 80000) [.sl (y2.2.1.map c5), Ti y2.2.2.1, .v (.int .u64 y2.2.2.2)])]⟩) (by kernel_rfl) (by kernel_rfl) ?_
   refine XL_cons rfl (X_callR (E' := [(80000, .pbox (σ 80000) [.sl (y3.2.1.map c5), Ti y3.2.2.1, .v (.int .u64 y3.2.2.2)])]) [(80000, 80000)] 7 (s_spec_l1Cur_among hy3) cf_spec_l1Cur_among rfl rfl (by kernel_rfl) rfl (mE_cons (by kernel_rfl) mE_nil) rfl (by kernel_rfl) rfl rfl (by kernel_rfl)) ?_
   refine L0 rfl rfl (E_assign (I y3.1) rfl (by kernel_rfl)) ?_
   refine XL_nil ?_
   kernel_rfl
  refine V_ret ?_
  obtain rfl := some_inj h
  show PostR _ _ _ _ _ _
  exact ⟨⟨.inr rfl, rfl, rfl, rfl⟩, ⟨rfl, trivial⟩⟩
theorem cf_spec_DrawClassSum : ∀ args w, (callFunc 20 args).run Try.prog w = .ok (.enter 20 args) w := run_callFunc Try.func20 (by kernel_rfl) (by kernel_rfl)
set_option maxRecDepth 100000 in
set_option maxHeartbeats 400000 in
theorem s_spec_DrawClassSum {code1 : List Int} {r : (Int × Int)} (h : r_spec_DrawClassSum code1 = some r) : CallS Try.prog 20 [.c (.sl (code1.map c5))] (.tc (I r.1) (.tc (I r.2) .tn)) [] := by
  refine CallS_of_text (rs := [.t 2, .t 3]) (vs := [.tmp 2, .tmp 3]) Try.func20 rfl rfl (.cons rfl (.cons rfl FitsL.nil)) (by decide) 12 rfl ?_
  unfold r_spec_DrawClassSum at h
  show V _ _ ⟨.c (.sl (code1.map c5)) :: bt 11 [], []⟩ _
  refine V_sreg (mb 12 1) [] (s1 := ⟨.c (.sl (code1.map c5)) :: bt 11 [], []⟩) ?_ ?_
  ·refine L0 rfl rfl (E_assign (I 0) rfl (by kernel_rfl)) ?_
   refine L0 rfl rfl (E_assign (I 0) rfl (by kernel_rfl)) ?_
   refine XL_nil ?_
   kernel_rfl
  refine V_sreg (mb 12 16) [56] (s1 := ⟨bt 4 (.pt 56 0 :: bt 7 []), [(56, .box [.sl (code1.map c5), Ti 0, .v (.int .u64 0)])]⟩) ?_ ?_
  ·refine L0 rfl rfl (E_move (.c (.sl (code1.map c5))) rfl (by kernel_rfl)) ?_
   refine L0 rfl rfl (Y0_build (cs := [.sl (code1.map c5), Ti 0, .v (.int .u64 0)]) pl57 bt57 rfl rfl (by kernel_rfl)) ?_
   refine L1 rfl rfl (Y1_box (cs := [.sl (code1.map c5), Ti 0, .v (.int .u64 0)]) rfl (by kernel_rfl)) ?_
   refine L0 rfl rfl (E_assign (.pt 56 0) rfl (by kernel_rfl)) ?_
   refine XL_nil ?_
   kernel_rfl
  obtain ⟨y2, hy2, h⟩ := of_bind h
  obtain ⟨y3, hy3, h⟩ := of_bind h
  refine V_sreg (mb 12 12) [] (s1 := ⟨.bot :: .bot :: I y2.1 :: I y3.1 :: bt 8 [], []⟩) ?_ ?_
  ·refine L0 rfl rfl (E_move (.pt 56 0) rfl (by kernel_rfl)) ?_
   refine XL_cons rfl (X_callR (E' := [(56, .box [.sl (y2.2.1.map c5), Ti y2.2.2.1, .v (.int .u64 y2.2.2.2)])]) [(80000, 56)] 9 (s_spec_l1Cur_disc hy2) cf_spec_l1Cur_disc rfl rfl (by kernel_rfl) rfl (mE_cons (by kernel_rfl) mE_nil) rfl (by kernel_rfl) rfl rfl (by kernel_rfl)) ?_
   refine L0 rfl rfl (E_move (.pt 56 0) rfl (by kernel_rfl)) ?_
   refine XL_cons rfl (X_callR (E' := [(56, .box [.sl (y3.2.1.map c5), Ti y3.2.2.1, .v (.int .u64 y3.2.2.2)])]) [(80000, 56)] 11 (s_spec_l1Cur_terms hy3) cf_spec_l1Cur_terms rfl rfl (by kernel_rfl) rfl (mE_cons (by kernel_rfl) mE_nil) rfl (by kernel_rfl) rfl rfl (by kernel_rfl)) ?_
   refine L0 rfl rfl (E_assign (I y2.1) rfl (by kernel_rfl)) ?_
   refine L0 rfl rfl (E_assign (I y3.1) rfl (by kernel_rfl)) ?_
   refine XL_nil ?_
   kernel_rfl
  refine V_ret ?_
  obtain rfl := some_inj h
  show Post _ _ _ _ _
  exact ⟨.inr rfl, rfl, rfl, rfl⟩
theorem cf_impl_mod : ∀ args w, (callFunc 85 args).run Try.prog w = .ok (.enter 85 args) w := run_callFunc Try.func85 (by kernel_rfl) (by kernel_rfl)
set_option maxRecDepth 100000 in
set_option maxHeartbeats 400000 in
theorem s_impl_mod {a1 : Int} {vm2 : Int} {r : Int} (h : r_impl_mod a1 vm2 = some r) : CallS Try.prog 85 [I a1, I vm2] (I r) [] := by
  refine CallS_of_text (rs := [.t 4]) (vs := [.tmp 4]) Try.func85 rfl rfl (.cons rfl FitsL.nil) (by decide) 15 rfl ?_
  unfold r_impl_mod at h
  show V _ _ ⟨I a1 :: I vm2 :: bt 13 [], []⟩ _
  refine V_sreg (mb 15 3) [] (s1 := ⟨I a1 :: I vm2 :: bt 13 [], []⟩) ?_ ?_
  ·refine L0 rfl rfl (E_assign (I 0) rfl (by kernel_rfl)) ?_
   refine XL_nil ?_
   kernel_rfl
  obtain ⟨z3, hz3, h⟩ := of_bind h
  obtain ⟨vr4, hvr4, h⟩ := of_sI h
  refine V_sreg (mb 15 34) [] (s1 := ⟨.bot :: I vm2 :: bt 3 (I vr4 :: bt 9 []), []⟩) ?_ ?_
  ·refine L0 rfl rfl (E_move (I a1) rfl (by kernel_rfl)) ?_
   refine L0 rfl rfl (E_move (I vm2) rfl (by kernel_rfl)) ?_
   refine L0 rfl rfl (Y0_rem (k := .i64) (a := a1) (b := vm2) rfl (by kernel_rfl) (by kernel_rfl) (nz_some hz3)) ?_
   refine L0 rfl rfl (E_assign (I (Int.tmod a1 vm2)) rfl (by kernel_rfl)) ?_
   refine XL_nil ?_
   subst hvr4
   kernel_rfl
  refine V_seq ?_
  refine V_sreg (mb 15 1058) [] (s1 := ⟨.bot :: I vm2 :: bt 3 (I vr4 :: bt 4 (Bo (ltI vr4 0) :: bt 4 [])), []⟩) ?_ ?_
  ·refine L0 rfl rfl (E_move (I vr4) rfl (by kernel_rfl)) ?_
   refine L0 rfl rfl (Y0_ltw (k := .i64) (a := vr4) (b := 0) rfl (by kernel_rfl) (by kernel_rfl)) ?_
   refine XL_nil ?_
   kernel_rfl
  refine V_cond rfl (fun hc5 => ?_) (fun hc5 => ?_)
  ·have h := of_true h hc5
   obtain ⟨vr6, hvr6, h⟩ := of_sI h
   refine V_reg (mb 15 32) [] (s1 := ⟨bt 5 (I vr6 :: bt 9 []), []⟩) ?_ ?_
   ·refine L0 rfl rfl (E_move (I vr4) rfl (by kernel_rfl)) ?_
    refine L0 rfl rfl (E_move (I vm2) rfl (by kernel_rfl)) ?_
    refine L0 rfl rfl (Y0_add64 (a := vr4) (b := vm2) rfl (by kernel_rfl) (by kernel_rfl)) ?_
    refine L0 rfl rfl (E_assign (I (w64 (vr4 + vm2))) rfl (by kernel_rfl)) ?_
    refine XL_nil ?_
    subst hvr6
    kernel_rfl
   show V _ _ _ _
   refine V_sreg (mb 15 16) [] (s1 := ⟨bt 4 (I vr6 :: bt 10 []), []⟩) ?_ ?_
   ·refine L0 rfl rfl (E_move (I vr6) rfl (by kernel_rfl)) ?_
    refine L0 rfl rfl (E_assign (I vr6) rfl (by kernel_rfl)) ?_
    refine XL_nil ?_
    kernel_rfl
   refine V_ret ?_
   obtain rfl := some_inj h
   show Post _ _ _ _ _
   exact ⟨.inr rfl, rfl, rfl, rfl⟩
  ·have h := of_false h hc5
   refine V_skip ?_
   show V _ _ _ _
   refine V_sreg (mb 15 16) [] (s1 := ⟨bt 4 (I vr4 :: bt 10 []), []⟩) ?_ ?_
   ·refine L0 rfl rfl (E_move (I vr4) rfl (by kernel_rfl)) ?_
    refine L0 rfl rfl (E_assign (I vr4) rfl (by kernel_rfl)) ?_
    refine XL_nil ?_
    kernel_rfl
   refine V_ret ?_
   obtain rfl := some_inj h
   show Post _ _ _ _ _
   exact ⟨.inr rfl, rfl, rfl, rfl⟩
theorem cf_impl_isNegativeDisc : ∀ args w, (callFunc 55 args).run Try.prog w = .ok (.enter 55 args) w := run_callFunc Try.func55 (by kernel_rfl) (by kernel_rfl)
set_option maxRecDepth 100000 in
set_option maxHeartbeats 400000 in
theorem s_impl_isNegativeDisc {d1 : Int} {r : Bool} (h : r_impl_isNegativeDisc d1 = some r) : CallS Try.prog 55 [I d1] (Bo r) [] := by
  refine CallS_of_text (rs := [.t 2]) (vs := [.tmp 2]) Try.func55 rfl rfl (.cons rfl FitsL.nil) (by decide) 14 rfl ?_
  unfold r_impl_isNegativeDisc at h
  show V _ _ ⟨I d1 :: bt 13 [], []⟩ _
  refine V_sreg (mb 14 1) [] (s1 := ⟨I d1 :: bt 13 [], []⟩) ?_ ?_
  ·refine L0 rfl rfl (E_assign (Bo false) rfl (by kernel_rfl)) ?_
   refine XL_nil ?_
   kernel_rfl
  obtain ⟨b5, hb5, h⟩ := of_bind h
  refine V_sreg (mb 14 4) [] (s1 := ⟨.bot :: .bot :: Bo b5 :: bt 11 [], []⟩) ?_ ?_
  ·refine L0 rfl rfl (E_move (I d1) rfl (by kernel_rfl)) ?_
   refine L0 rfl rfl (Y0_gew (k := .i64) (a := d1) (b := -2000) rfl (by kernel_rfl) (by kernel_rfl)) ?_
   refine L0 rfl rfl (E_move (Bo (leI (-2000) d1)) rfl (by kernel_rfl)) ?_
   refine XL_split (leI (-2000) d1) (fun hc2 => ?_) (fun hc2 => ?_)
   ·refine XL_takeC _ rfl rfl (by kernel_rfl) hc2 (X_of_Y0 rfl (E_move (I d1) rfl (by kernel_rfl))) ?_
    refine XL_takeC _ rfl rfl (by kernel_rfl) hc2 (X_of_Y0 rfl (Y0_lew (k := .i64) (a := d1) (b := -3) rfl (by kernel_rfl) (by kernel_rfl))) ?_
    refine XL_cons rfl (X_of_Y0 rfl (Y0_pick1 (b := leI (-2000) d1) (p := leI d1 (-3)) (q := false) rfl (by kernel_rfl) hc2 (by kernel_rfl))) ?_
    refine L0 rfl rfl (E_move (Bo (bif (leI (-2000) d1) then (leI d1 (-3)) else false)) rfl (by kernel_rfl)) ?_
    refine XL_split (bif (leI (-2000) d1) then (leI d1 (-3)) else false) (fun hc3 => ?_) (fun hc3 => ?_)
    ·have hb5 := of_true hb5 hc3
     obtain ⟨y4, hy4, hb5⟩ := of_bind hb5
     have hb5 := some_inj hb5
     refine XL_takeC _ rfl rfl (by kernel_rfl) hc3 (X_of_Y0 rfl (E_move (I d1) rfl (by kernel_rfl))) ?_
     refine XL_takeC _ rfl rfl (by kernel_rfl) hc3 (X_of_Y1 rfl (Y1_call (s_impl_mod hy4) cf_impl_mod rfl (by kernel_rfl))) ?_
     refine XL_takeC _ rfl rfl (by kernel_rfl) hc3 (X_of_Y0 rfl (Y0_lew (k := .i64) (a := y4) (b := 1) rfl (by kernel_rfl) (by kernel_rfl))) ?_
     refine XL_cons rfl (X_of_Y0 rfl (Y0_pickTe (b := bif (leI (-2000) d1) then (leI d1 (-3)) else false) (p := leI y4 1) rfl (by kernel_rfl) hc3 (by kernel_rfl) hb5)) ?_
     refine L0 rfl rfl (E_assign (Bo b5) rfl (by kernel_rfl)) ?_
     refine XL_nil ?_
     kernel_rfl
    ·have hb5 := some_inj (of_false hb5 hc3)
     refine XL_skipT _ rfl rfl (by kernel_rfl) hc3 rfl ?_
     refine XL_skipT _ rfl rfl (by kernel_rfl) hc3 rfl ?_
     refine XL_skipT _ rfl rfl (by kernel_rfl) hc3 rfl ?_
     refine XL_cons rfl (X_of_Y0 rfl (Y0_pickFe (b := bif (leI (-2000) d1) then (leI d1 (-3)) else false) (p := false) rfl (by kernel_rfl) hc3 (by kernel_rfl) hb5)) ?_
     refine L0 rfl rfl (E_assign (Bo b5) rfl (by kernel_rfl)) ?_
     refine XL_nil ?_
     kernel_rfl
   ·refine XL_skipT _ rfl rfl (by kernel_rfl) hc2 rfl ?_
    refine XL_skipT _ rfl rfl (by kernel_rfl) hc2 rfl ?_
    refine XL_cons rfl (X_of_Y0 rfl (Y0_pick0 (b := leI (-2000) d1) (p := leI d1 (-3)) (q := false) rfl (by kernel_rfl) hc2 (by kernel_rfl))) ?_
    refine L0 rfl rfl (E_move (Bo (bif (leI (-2000) d1) then (leI d1 (-3)) else false)) rfl (by kernel_rfl)) ?_
    refine XL_split (bif (leI (-2000) d1) then (leI d1 (-3)) else false) (fun hc3 => ?_) (fun hc3 => ?_)
    ·have hb5 := of_true hb5 hc3
     obtain ⟨y4, hy4, hb5⟩ := of_bind hb5
     have hb5 := some_inj hb5
     refine XL_takeC _ rfl rfl (by kernel_rfl) hc3 (X_of_Y0 rfl (E_move (I d1) rfl (by kernel_rfl))) ?_
     refine XL_takeC _ rfl rfl (by kernel_rfl) hc3 (X_of_Y1 rfl (Y1_call (s_impl_mod hy4) cf_impl_mod rfl (by kernel_rfl))) ?_
     refine XL_takeC _ rfl rfl (by kernel_rfl) hc3 (X_of_Y0 rfl (Y0_lew (k := .i64) (a := y4) (b := 1) rfl (by kernel_rfl) (by kernel_rfl))) ?_
     refine XL_cons rfl (X_of_Y0 rfl (Y0_pickTe (b := bif (leI (-2000) d1) then (leI d1 (-3)) else false) (p := leI y4 1) rfl (by kernel_rfl) hc3 (by kernel_rfl) hb5)) ?_
     refine L0 rfl rfl (E_assign (Bo b5) rfl (by kernel_rfl)) ?_
     refine XL_nil ?_
     kernel_rfl
    ·have hb5 := some_inj (of_false hb5 hc3)
     refine XL_skipT _ rfl rfl (by kernel_rfl) hc3 rfl ?_
     refine XL_skipT _ rfl rfl (by kernel_rfl) hc3 rfl ?_
     refine XL_skipT _ rfl rfl (by kernel_rfl) hc3 rfl ?_
     refine XL_cons rfl (X_of_Y0 rfl (Y0_pickFe (b := bif (leI (-2000) d1) then (leI d1 (-3)) else false) (p := false) rfl (by kernel_rfl) hc3 (by kernel_rfl) hb5)) ?_
     refine L0 rfl rfl (E_assign (Bo b5) rfl (by kernel_rfl)) ?_
     refine XL_nil ?_
     kernel_rfl
  refine V_ret ?_
  obtain rfl := some_inj h
  show Post _ _ _ _ _
  exact ⟨.inr rfl, rfl, rfl, rfl⟩
theorem cf_impl_isTerms : ∀ args w, (callFunc 56 args).run Try.prog w = .ok (.enter 56 args) w := run_callFunc Try.func56 (by kernel_rfl) (by kernel_rfl)
set_option maxRecDepth 100000 in
set_option maxHeartbeats 400000 in
theorem s_impl_isTerms {vn1 : Int} {r : Bool} (h : r_impl_isTerms vn1 = some r) : CallS Try.prog 56 [I vn1] (Bo r) [] := by
  refine CallS_of_text (rs := [.t 2]) (vs := [.tmp 2]) Try.func56 rfl rfl (.cons rfl FitsL.nil) (by decide) 9 rfl ?_
  unfold r_impl_isTerms at h
  show V _ _ ⟨I vn1 :: bt 8 [], []⟩ _
  refine V_sreg (mb 9 1) [] (s1 := ⟨I vn1 :: bt 8 [], []⟩) ?_ ?_
  ·refine L0 rfl rfl (E_assign (Bo false) rfl (by kernel_rfl)) ?_
   refine XL_nil ?_
   kernel_rfl
  refine V_sreg (mb 9 4) [] (s1 := ⟨.bot :: .bot :: Bo (bif (leI 0 vn1) then (leI vn1 100) else false) :: bt 6 [], []⟩) ?_ ?_
  ·refine L0 rfl rfl (E_move (I vn1) rfl (by kernel_rfl)) ?_
   refine L0 rfl rfl (Y0_gew (k := .i64) (a := vn1) (b := 0) rfl (by kernel_rfl) (by kernel_rfl)) ?_
   refine L0 rfl rfl (E_move (Bo (leI 0 vn1)) rfl (by kernel_rfl)) ?_
   refine XL_split (leI 0 vn1) (fun hc2 => ?_) (fun hc2 => ?_)
   ·refine XL_takeC _ rfl rfl (by kernel_rfl) hc2 (X_of_Y0 rfl (E_move (I vn1) rfl (by kernel_rfl))) ?_
    refine XL_takeC _ rfl rfl (by kernel_rfl) hc2 (X_of_Y0 rfl (Y0_lew (k := .i64) (a := vn1) (b := 100) rfl (by kernel_rfl) (by kernel_rfl))) ?_
    refine XL_cons rfl (X_of_Y0 rfl (Y0_pick1 (b := leI 0 vn1) (p := leI vn1 100) (q := false) rfl (by kernel_rfl) hc2 (by kernel_rfl))) ?_
    refine L0 rfl rfl (E_assign (Bo (bif (leI 0 vn1) then (leI vn1 100) else false)) rfl (by kernel_rfl)) ?_
    refine XL_nil ?_
    kernel_rfl
   ·refine XL_skipT _ rfl rfl (by kernel_rfl) hc2 rfl ?_
    refine XL_skipT _ rfl rfl (by kernel_rfl) hc2 rfl ?_
    refine XL_cons rfl (X_of_Y0 rfl (Y0_pick0 (b := leI 0 vn1) (p := leI vn1 100) (q := false) rfl (by kernel_rfl) hc2 (by kernel_rfl))) ?_
    refine L0 rfl rfl (E_assign (Bo (bif (leI 0 vn1) then (leI vn1 100) else false)) rfl (by kernel_rfl)) ?_
    refine XL_nil ?_
    kernel_rfl
  refine V_ret ?_
  obtain rfl := some_inj h
  show Post _ _ _ _ _
  exact ⟨.inr rfl, rfl, rfl, rfl⟩
theorem cf_impl_Form_isNormal : ∀ args w, (callFunc 137 args).run Try.prog w = .ok (.enter 137 args) w := run_callFunc Try.func137 (by kernel_rfl) (by kernel_rfl)
set_option maxRecDepth 100000 in
set_option maxHeartbeats 400000 in
theorem s_impl_Form_isNormal {f1 : (Int × Int × Int)} {r : Bool} (h : r_impl_Form_isNormal f1 = some r) : CallS Try.prog 137 [.ag [Ti f1.1, Ti f1.2.1, Ti f1.2.2]] (Bo r) [] := by
  refine CallS_of_text (rs := [.t 2]) (vs := [.tmp 2]) Try.func137 rfl rfl (.cons rfl FitsL.nil) (by decide) 16 rfl ?_
  unfold r_impl_Form_isNormal at h
  show V _ _ ⟨.ag [Ti f1.1, Ti f1.2.1, Ti f1.2.2] :: bt 15 [], []⟩ _
  refine V_sreg (mb 16 2) [8] (s1 := ⟨.bot :: .pt 8 0 :: bt 14 [], [(8, .box [Ti f1.1, Ti f1.2.1, Ti f1.2.2])]⟩) ?_ ?_
  ·refine L1 rfl rfl (Y1_box (cs := [Ti f1.1, Ti f1.2.1, Ti f1.2.2]) rfl (by kernel_rfl)) ?_
   refine L0 rfl rfl (E_assign (Bo false) rfl (by kernel_rfl)) ?_
   refine XL_nil ?_
   kernel_rfl
  obtain ⟨t3, ht3, h⟩ := of_bind h
  have ht3 := some_inj ht3
  refine V_sreg (mb 16 4) [] (s1 := ⟨.bot :: .bot :: Bo t3 :: bt 13 [], []⟩) ?_ ?_
  ·refine L0 rfl rfl (E_field (.pt 8 0) Try.underlying43 rfl sz3 rfl (by kernel_rfl) (by intro hh; cases hh)) ?_
   refine L0 rfl rfl (Y0_load1 (c := Ti f1.1) (cs := [Ti f1.2.1, Ti f1.2.2]) sc3 rfl (by kernel_rfl)) ?_
   refine L0 rfl rfl (Y0_neg64 (a := f1.1) rfl (by kernel_rfl)) ?_
   refine L0 rfl rfl (E_field (.pt 8 1) Try.underlying43 rfl sz3 rfl (by kernel_rfl) (by intro hh; cases hh)) ?_
   refine L0 rfl rfl (Y0_load1 (c := Ti f1.2.1) (cs := [Ti f1.2.2]) sc3 rfl (by kernel_rfl)) ?_
   refine L0 rfl rfl (Y0_ltw (k := .i64) (a := w64 (0 - f1.1)) (b := f1.2.1) rfl (by kernel_rfl) (by kernel_rfl)) ?_
   refine L0 rfl rfl (E_move (Bo (ltI (w64 (0 - f1.1)) f1.2.1)) rfl (by kernel_rfl)) ?_
   refine XL_split (ltI (w64 (0 - f1.1)) f1.2.1) (fun hc2 => ?_) (fun hc2 => ?_)
   ·refine XL_takeC _ rfl rfl (by kernel_rfl) hc2 (X_of_Y0 rfl (E_field (.pt 8 1) Try.underlying43 rfl sz3 rfl (by kernel_rfl) (by intro hh; cases hh))) ?_
    refine XL_takeC _ rfl rfl (by kernel_rfl) hc2 (X_of_Y0 rfl (Y0_load1 (c := Ti f1.2.1) (cs := [Ti f1.2.2]) sc3 rfl (by kernel_rfl))) ?_
    refine XL_takeC _ rfl rfl (by kernel_rfl) hc2 (X_of_Y0 rfl (E_field (.pt 8 0) Try.underlying43 rfl sz3 rfl (by kernel_rfl) (by intro hh; cases hh))) ?_
    refine XL_takeC _ rfl rfl (by kernel_rfl) hc2 (X_of_Y0 rfl (Y0_load1 (c := Ti f1.1) (cs := [Ti f1.2.1, Ti f1.2.2]) sc3 rfl (by kernel_rfl))) ?_
    refine XL_takeC _ rfl rfl (by kernel_rfl) hc2 (X_of_Y0 rfl (Y0_lew (k := .i64) (a := f1.2.1) (b := f1.1) rfl (by kernel_rfl) (by kernel_rfl))) ?_
    refine XL_cons rfl (X_of_Y0 rfl (Y0_pick1 (b := ltI (w64 (0 - f1.1)) f1.2.1) (p := leI f1.2.1 f1.1) (q := false) rfl (by kernel_rfl) hc2 (by kernel_rfl))) ?_
    refine L0 rfl rfl (E_assign (Bo (bif (ltI (w64 (0 - f1.1)) f1.2.1) then (leI f1.2.1 f1.1) else false)) rfl (by kernel_rfl)) ?_
    refine XL_nil ?_
    subst ht3
    kernel_rfl
   ·refine XL_skipT _ rfl rfl (by kernel_rfl) hc2 rfl ?_
    refine XL_skipT _ rfl rfl (by kernel_rfl) hc2 rfl ?_
    refine XL_skipT _ rfl rfl (by kernel_rfl) hc2 rfl ?_
    refine XL_skipT _ rfl rfl (by kernel_rfl) hc2 rfl ?_
    refine XL_skipT _ rfl rfl (by kernel_rfl) hc2 rfl ?_
    refine XL_cons rfl (X_of_Y0 rfl (Y0_pick0 (b := ltI (w64 (0 - f1.1)) f1.2.1) (p := leI f1.2.1 f1.1) (q := false) rfl (by kernel_rfl) hc2 (by kernel_rfl))) ?_
    refine L0 rfl rfl (E_assign (Bo (bif (ltI (w64 (0 - f1.1)) f1.2.1) then (leI f1.2.1 f1.1) else false)) rfl (by kernel_rfl)) ?_
    refine XL_nil ?_
    subst ht3
    kernel_rfl
  refine V_ret ?_
  obtain rfl := some_inj h
  show Post _ _ _ _ _
  exact ⟨.inr rfl, rfl, rfl, rfl⟩
theorem cf_impl_Form_isReduced : ∀ args w, (callFunc 124 args).run Try.prog w = .ok (.enter 124 args) w := run_callFunc Try.func124 (by kernel_rfl) (by kernel_rfl)
set_option maxRecDepth 100000 in
set_option maxHeartbeats 400000 in
theorem s_impl_Form_isReduced {f1 : (Int × Int × Int)} {r : Bool} (h : r_impl_Form_isReduced f1 = some r) : CallS Try.prog 124 [.ag [Ti f1.1, Ti f1.2.1, Ti f1.2.2]] (Bo r) [] := by
  refine CallS_of_text (rs := [.t 2]) (vs := [.tmp 2]) Try.func124 rfl rfl (.cons rfl FitsL.nil) (by decide) 24 rfl ?_
  unfold r_impl_Form_isReduced at h
  show V _ _ ⟨.ag [Ti f1.1, Ti f1.2.1, Ti f1.2.2] :: bt 23 [], []⟩ _
  refine V_sreg (mb 24 2) [8] (s1 := ⟨.bot :: .pt 8 0 :: bt 22 [], [(8, .box [Ti f1.1, Ti f1.2.1, Ti f1.2.2])]⟩) ?_ ?_
  ·refine L1 rfl rfl (Y1_box (cs := [Ti f1.1, Ti f1.2.1, Ti f1.2.2]) rfl (by kernel_rfl)) ?_
   refine L0 rfl rfl (E_assign (Bo false) rfl (by kernel_rfl)) ?_
   refine XL_nil ?_
   kernel_rfl
  obtain ⟨y2, hy2, h⟩ := of_bind h
  obtain ⟨t6, ht6, h⟩ := of_bind h
  have ht6 := some_inj ht6
  refine V_sreg (mb 24 4) [] (s1 := ⟨.bot :: .bot :: Bo t6 :: bt 21 [], []⟩) ?_ ?_
  ·refine L0 rfl rfl (E_loadn (cs := [Ti f1.1, Ti f1.2.1, Ti f1.2.2]) [Ti f1.1, Ti f1.2.1, Ti f1.2.2] wd43 rfl (by kernel_rfl) (Nat.le_of_ble_eq_true rfl) (by kernel_rfl)) ?_
   refine L1 rfl rfl (Y1_call (s_impl_Form_isNormal hy2) cf_impl_Form_isNormal rfl (by kernel_rfl)) ?_
   refine L0 rfl rfl (E_move (Bo y2) rfl (by kernel_rfl)) ?_
   refine XL_split y2 (fun hc3 => ?_) (fun hc3 => ?_)
   ·refine XL_takeC _ rfl rfl (by kernel_rfl) hc3 (X_of_Y0 rfl (E_field (.pt 8 0) Try.underlying43 rfl sz3 rfl (by kernel_rfl) (by intro hh; cases hh))) ?_
    refine XL_takeC _ rfl rfl (by kernel_rfl) hc3 (X_of_Y0 rfl (Y0_load1 (c := Ti f1.1) (cs := [Ti f1.2.1, Ti f1.2.2]) sc3 rfl (by kernel_rfl))) ?_
    refine XL_takeC _ rfl rfl (by kernel_rfl) hc3 (X_of_Y0 rfl (E_field (.pt 8 2) Try.underlying43 rfl sz3 rfl (by kernel_rfl) (by intro hh; cases hh))) ?_
    refine XL_takeC _ rfl rfl (by kernel_rfl) hc3 (X_of_Y0 rfl (Y0_load1 (c := Ti f1.2.2) (cs := []) sc3 rfl (by kernel_rfl))) ?_
    refine XL_takeC _ rfl rfl (by kernel_rfl) hc3 (X_of_Y0 rfl (Y0_ltw (k := .i64) (a := f1.1) (b := f1.2.2) rfl (by kernel_rfl) (by kernel_rfl))) ?_
    refine XL_takeC _ rfl rfl (by kernel_rfl) hc3 (X_of_Y0 rfl (E_move (Bo (ltI f1.1 f1.2.2)) rfl (by kernel_rfl))) ?_
    refine XL_split (ltI f1.1 f1.2.2) (fun hc4 => ?_) (fun hc4 => ?_)
    ·refine XL_skipF _ rfl rfl (by kernel_rfl) hc4 rfl ?_
     refine XL_skipF _ rfl rfl (by kernel_rfl) hc4 rfl ?_
     refine XL_skipF _ rfl rfl (by kernel_rfl) hc4 rfl ?_
     refine XL_skipF _ rfl rfl (by kernel_rfl) hc4 rfl ?_
     refine XL_skipF _ rfl rfl (by kernel_rfl) hc4 rfl ?_
     refine XL_skipF _ rfl rfl (by kernel_rfl) hc4 rfl ?_
     refine XL_skip2 rfl rfl (by kernel_rfl) rfl ?_
     refine XL_skip2 rfl rfl (by kernel_rfl) rfl ?_
     refine XL_skip2 rfl rfl (by kernel_rfl) rfl ?_
     refine XL_skipF _ rfl rfl (by kernel_rfl) hc4 rfl ?_
     refine XL_takeC _ rfl rfl (by kernel_rfl) hc3 (X_of_Y0 rfl (Y0_pick1 (b := ltI f1.1 f1.2.2) (p := true) (q := bif (eqI f1.1 f1.2.2) then (leI 0 f1.2.1) else false) rfl (by kernel_rfl) hc4 (by kernel_rfl))) ?_
     refine XL_cons rfl (X_of_Y0 rfl (Y0_pick1 (b := y2) (p := bif (ltI f1.1 f1.2.2) then true else (bif (eqI f1.1 f1.2.2) then (leI 0 f1.2.1) else false)) (q := false) rfl (by kernel_rfl) hc3 (by kernel_rfl))) ?_
     refine L0 rfl rfl (E_assign (Bo (bif y2 then (bif (ltI f1.1 f1.2.2) then true else (bif (eqI f1.1 f1.2.2) then (leI 0 f1.2.1) else false)) else false)) rfl (by kernel_rfl)) ?_
     refine XL_nil ?_
     subst ht6
     kernel_rfl
    ·refine XL_takeC _ rfl rfl (by kernel_rfl) hc4 (X_of_Y0 rfl (E_field (.pt 8 0) Try.underlying43 rfl sz3 rfl (by kernel_rfl) (by intro hh; cases hh))) ?_
     refine XL_takeC _ rfl rfl (by kernel_rfl) hc4 (X_of_Y0 rfl (Y0_load1 (c := Ti f1.1) (cs := [Ti f1.2.1, Ti f1.2.2]) sc3 rfl (by kernel_rfl))) ?_
     refine XL_takeC _ rfl rfl (by kernel_rfl) hc4 (X_of_Y0 rfl (E_field (.pt 8 2) Try.underlying43 rfl sz3 rfl (by kernel_rfl) (by intro hh; cases hh))) ?_
     refine XL_takeC _ rfl rfl (by kernel_rfl) hc4 (X_of_Y0 rfl (Y0_load1 (c := Ti f1.2.2) (cs := []) sc3 rfl (by kernel_rfl))) ?_
     refine XL_takeC _ rfl rfl (by kernel_rfl) hc4 (X_of_Y0 rfl (Y0_eqw (k := .i64) (a := f1.1) (b := f1.2.2) rfl (by kernel_rfl) (by kernel_rfl))) ?_
     refine XL_takeC _ rfl rfl (by kernel_rfl) hc4 (X_of_Y0 rfl (E_move (Bo (eqI f1.1 f1.2.2)) rfl (by kernel_rfl))) ?_
     refine XL_split (eqI f1.1 f1.2.2) (fun hc5 => ?_) (fun hc5 => ?_)
     ·refine XL_takeC _ rfl rfl (by kernel_rfl) hc5 (X_of_Y0 rfl (E_field (.pt 8 1) Try.underlying43 rfl sz3 rfl (by kernel_rfl) (by intro hh; cases hh))) ?_
      refine XL_takeC _ rfl rfl (by kernel_rfl) hc5 (X_of_Y0 rfl (Y0_load1 (c := Ti f1.2.1) (cs := [Ti f1.2.2]) sc3 rfl (by kernel_rfl))) ?_
      refine XL_takeC _ rfl rfl (by kernel_rfl) hc5 (X_of_Y0 rfl (Y0_gew (k := .i64) (a := f1.2.1) (b := 0) rfl (by kernel_rfl) (by kernel_rfl))) ?_
      refine XL_takeC _ rfl rfl (by kernel_rfl) hc4 (X_of_Y0 rfl (Y0_pick1 (b := eqI f1.1 f1.2.2) (p := leI 0 f1.2.1) (q := false) rfl (by kernel_rfl) hc5 (by kernel_rfl))) ?_
      refine XL_takeC _ rfl rfl (by kernel_rfl) hc3 (X_of_Y0 rfl (Y0_pick0 (b := ltI f1.1 f1.2.2) (p := true) (q := bif (eqI f1.1 f1.2.2) then (leI 0 f1.2.1) else false) rfl (by kernel_rfl) hc4 (by kernel_rfl))) ?_
      refine XL_cons rfl (X_of_Y0 rfl (Y0_pick1 (b := y2) (p := bif (ltI f1.1 f1.2.2) then true else (bif (eqI f1.1 f1.2.2) then (leI 0 f1.2.1) else false)) (q := false) rfl (by kernel_rfl) hc3 (by kernel_rfl))) ?_
      refine L0 rfl rfl (E_assign (Bo (bif y2 then (bif (ltI f1.1 f1.2.2) then true else (bif (eqI f1.1 f1.2.2) then (leI 0 f1.2.1) else false)) else false)) rfl (by kernel_rfl)) ?_
      refine XL_nil ?_
      subst ht6
      kernel_rfl
     ·refine XL_skipT _ rfl rfl (by kernel_rfl) hc5 rfl ?_
      refine XL_skipT _ rfl rfl (by kernel_rfl) hc5 rfl ?_
      refine XL_skipT _ rfl rfl (by kernel_rfl) hc5 rfl ?_
      refine XL_takeC _ rfl rfl (by kernel_rfl) hc4 (X_of_Y0 rfl (Y0_pick0 (b := eqI f1.1 f1.2.2) (p := leI 0 f1.2.1) (q := false) rfl (by kernel_rfl) hc5 (by kernel_rfl))) ?_
      refine XL_takeC _ rfl rfl (by kernel_rfl) hc3 (X_of_Y0 rfl (Y0_pick0 (b := ltI f1.1 f1.2.2) (p := true) (q := bif (eqI f1.1 f1.2.2) then (leI 0 f1.2.1) else false) rfl (by kernel_rfl) hc4 (by kernel_rfl))) ?_
      refine XL_cons rfl (X_of_Y0 rfl (Y0_pick1 (b := y2) (p := bif (ltI f1.1 f1.2.2) then true else (bif (eqI f1.1 f1.2.2) then (leI 0 f1.2.1) else false)) (q := false) rfl (by kernel_rfl) hc3 (by kernel_rfl))) ?_
      refine L0 rfl rfl (E_assign (Bo (bif y2 then (bif (ltI f1.1 f1.2.2) then true else (bif (eqI f1.1 f1.2.2) then (leI 0 f1.2.1) else false)) else false)) rfl (by kernel_rfl)) ?_
      refine XL_nil ?_
      subst ht6
      kernel_rfl
   ·refine XL_skipT _ rfl rfl (by kernel_rfl) hc3 rfl ?_
    refine XL_skipT _ rfl rfl (by kernel_rfl) hc3 rfl ?_
    refine XL_skipT _ rfl rfl (by kernel_rfl) hc3 rfl ?_
    refine XL_skipT _ rfl rfl (by kernel_rfl) hc3 rfl ?_
    refine XL_skipT _ rfl rfl (by kernel_rfl) hc3 rfl ?_
    refine XL_skipT _ rfl rfl (by kernel_rfl) hc3 rfl ?_
    refine XL_skip2 rfl rfl (by kernel_rfl) rfl ?_
    refine XL_skip2 rfl rfl (by kernel_rfl) rfl ?_
    refine XL_skip2 rfl rfl (by kernel_rfl) rfl ?_
    refine XL_skip2 rfl rfl (by kernel_rfl) rfl ?_
    refine XL_skip2 rfl rfl (by kernel_rfl) rfl ?_
    refine XL_skip2 rfl rfl (by kernel_rfl) rfl ?_
    refine XL_skip2 rfl rfl (by kernel_rfl) rfl ?_
    refine XL_skip2 rfl rfl (by kernel_rfl) rfl ?_
    refine XL_skip2 rfl rfl (by kernel_rfl) rfl ?_
    refine XL_skip2 rfl rfl (by kernel_rfl) rfl ?_
    refine XL_skipT _ rfl rfl (by kernel_rfl) hc3 rfl ?_
    refine XL_cons rfl (X_of_Y0 rfl (Y0_pick0 (b := y2) (p := bif (ltI f1.1 f1.2.2) then true else (bif (eqI f1.1 f1.2.2) then (leI 0 f1.2.1) else false)) (q := false) rfl (by kernel_rfl) hc3 (by kernel_rfl))) ?_
    refine L0 rfl rfl (E_assign (Bo (bif y2 then (bif (ltI f1.1 f1.2.2) then true else (bif (eqI f1.1 f1.2.2) then (leI 0 f1.2.1) else false)) else false)) rfl (by kernel_rfl)) ?_
    refine XL_nil ?_
    subst ht6
    kernel_rfl
  refine V_ret ?_
  obtain rfl := some_inj h
  show Post _ _ _ _ _
  exact ⟨.inr rfl, rfl, rfl, rfl⟩
theorem cf_impl_allReduced : ∀ args w, (callFunc 98 args).run Try.prog w = .ok (.enter 98 args) w := run_callFunc Try.func98 (by kernel_rfl) (by kernel_rfl)
set_option maxRecDepth 100000 in
set_option maxHeartbeats 400000 in
theorem s_impl_allReduced {d1 : Int} {r : List ((Int × Int × Int))} (h : r_impl_allReduced d1 = some r) : CallS Try.prog 98 [I d1] (.ow 0) [(0, .arr 43 3 (r.map c43))] := by
  refine CallS_of_text (rs := [.t 2]) (vs := [.tmp 2]) Try.func98 rfl rfl (.cons rfl FitsL.nil) (by decide) 51 rfl ?_
  unfold r_impl_allReduced at h
  show V _ _ ⟨I d1 :: bt 50 [], []⟩ _
  refine V_sreg (mb 51 1) [] (s1 := ⟨I d1 :: bt 50 [], []⟩) ?_ ?_
  ·refine L1 rfl rfl (Y1_nil (e := 43) 3 (by decide) (.inl rfl)) ?_
   refine XL_nil ?_
   kernel_rfl
  refine V_sreg (mb 51 9) [56] (s1 := ⟨I d1 :: .bot :: .bot :: .ow 56 :: bt 47 [], [(56, .arr 43 3 ((([] : List ((Int × Int × Int)))).map c43))]⟩) ?_ ?_
  ·refine L1 rfl rfl (Y1_bslice0 Try.underlying40 sz43 (by decide) rfl rfl) ?_
   refine L0 rfl rfl (E_assign (.ow 56) rfl (by kernel_rfl)) ?_
   refine XL_nil ?_
   kernel_rfl
  refine V_seq ?_
  refine V_sreg (mb 51 25) [56] (s1 := ⟨I d1 :: .bot :: .bot :: .ow 56 :: I 1 :: bt 46 [], [(56, .arr 43 3 ((([] : List ((Int × Int × Int)))).map c43))]⟩) ?_ ?_
  ·refine L0 rfl rfl (E_assign (I 1) rfl (by kernel_rfl)) ?_
   refine XL_nil ?_
   kernel_rfl
  obtain ⟨o5, hLo5, h⟩ := of_bind h
  refine V_toK (mb 51 8) [56] (s1 := ⟨bt 3 (.ow 56 :: bt 47 []), [(56, .arr 43 3 (o5.map c43))]⟩) ?_ ?_
  ·clear h
   refine V_block (V_loop (fun n s => ∃ (a2 : Int) (l3 : List ((Int × Int × Int))), s.keep (mb 51 25) [56] = (⟨I d1 :: .bot :: .bot :: .ow 56 :: I a2 :: bt 46 [], [(56, .arr 43 3 (l3.map c43))]⟩ : St) ∧ r_impl_allReduced_L4 d1 n a2 l3 = some o5) FU ⟨_, _,  by rfl, hLo5⟩ ?_)
   clear hLo5
   rintro n s ⟨a2, l3, hs, h⟩
   refine V_keep _ _ hs ?_
   clear hs
   cases n with
   | zero => cases h
   | succ n =>
    rw [r_impl_allReduced_L4] at h
    refine V_seq ?_
    refine V_sreg (mb 51 16409) [56] (s1 := ⟨I d1 :: .bot :: .bot :: .ow 56 :: I a2 :: bt 9 (Bo (leI (w64 ((w64 (3 * a2)) * a2)) (w64 (0 - d1))) :: bt 36 []), [(56, .arr 43 3 (l3.map c43))]⟩) ?_ ?_
    ·refine L0 rfl rfl (E_move (I a2) rfl (by kernel_rfl)) ?_
     refine L0 rfl rfl (Y0_mul64 (a := 3) (b := a2) rfl (by kernel_rfl) (by kernel_rfl)) ?_
     refine L0 rfl rfl (E_move (I a2) rfl (by kernel_rfl)) ?_
     refine L0 rfl rfl (Y0_mul64 (a := w64 (3 * a2)) (b := a2) rfl (by kernel_rfl) (by kernel_rfl)) ?_
     refine L0 rfl rfl (E_move (I d1) rfl (by kernel_rfl)) ?_
     refine L0 rfl rfl (Y0_neg64 (a := d1) rfl (by kernel_rfl)) ?_
     refine L0 rfl rfl (Y0_lew (k := .i64) (a := w64 ((w64 (3 * a2)) * a2)) (b := w64 (0 - d1)) rfl (by kernel_rfl) (by kernel_rfl)) ?_
     refine XL_nil ?_
     kernel_rfl
    refine V_cond rfl (fun hc6 => ?_) (fun hc6 => ?_)
    ·have h := of_true h hc6
     refine V_skip ?_
     show V _ _ _ _
     refine V_seq ?_
     refine V_block ?_
     obtain ⟨b7, hb7, h⟩ := of_sI h
     refine V_sreg (mb 51 57) [56] (s1 := ⟨I d1 :: .bot :: .bot :: .ow 56 :: I a2 :: I b7 :: bt 45 [], [(56, .arr 43 3 (l3.map c43))]⟩) ?_ ?_
     ·refine L0 rfl rfl (E_move (I a2) rfl (by kernel_rfl)) ?_
      refine L0 rfl rfl (Y0_sub64 (a := 1) (b := a2) rfl (by kernel_rfl) (by kernel_rfl)) ?_
      refine L0 rfl rfl (E_assign (I (w64 (1 - a2))) rfl (by kernel_rfl)) ?_
      refine XL_nil ?_
      subst hb7
      kernel_rfl
     obtain ⟨o11, hLo11, h⟩ := of_bind h
     refine V_toK (mb 51 25) [56] (s1 := ⟨I d1 :: .bot :: .bot :: .ow 56 :: I a2 :: bt 46 [], [(56, .arr 43 3 (o11.map c43))]⟩) ?_ ?_
     ·clear h
      refine V_block (V_loop (fun n s => ∃ (b8 : Int) (l9 : List ((Int × Int × Int))), s.keep (mb 51 57) [56] = (⟨I d1 :: .bot :: .bot :: .ow 56 :: I a2 :: I b8 :: bt 45 [], [(56, .arr 43 3 (l9.map c43))]⟩ : St) ∧ r_impl_allReduced_L10 a2 d1 n b8 l9 = some o11) FU ⟨_, _,  by rfl, hLo11⟩ ?_)
      clear hLo11
      rintro n s ⟨b8, l9, hs, h⟩
      refine V_keep _ _ hs ?_
      clear hs
      cases n with
      | zero => cases h
      | succ n =>
       rw [r_impl_allReduced_L10] at h
       refine V_seq ?_
       refine V_sreg (mb 51 2097209) [56] (s1 := ⟨I d1 :: .bot :: .bot :: .ow 56 :: I a2 :: I b8 :: bt 15 (Bo (leI b8 a2) :: bt 29 []), [(56, .arr 43 3 (l9.map c43))]⟩) ?_ ?_
       ·refine L0 rfl rfl (E_move (I b8) rfl (by kernel_rfl)) ?_
        refine L0 rfl rfl (E_move (I a2) rfl (by kernel_rfl)) ?_
        refine L0 rfl rfl (Y0_lew (k := .i64) (a := b8) (b := a2) rfl (by kernel_rfl) (by kernel_rfl)) ?_
        refine XL_nil ?_
        kernel_rfl
       refine V_cond rfl (fun hc12 => ?_) (fun hc12 => ?_)
       ·have h := of_true h hc12
        refine V_skip ?_
        show V _ _ _ _
        refine V_seq ?_
        refine V_block ?_
        refine V_seq ?_
        obtain ⟨z13, hz13, h⟩ := of_bind h
        obtain ⟨t14, ht14, h⟩ := of_bind h
        have ht14 := some_inj ht14
        refine V_sreg (mb 51 4294967353) [56] (s1 := ⟨I d1 :: .bot :: .bot :: .ow 56 :: I a2 :: I b8 :: bt 26 (Bo t14 :: bt 18 []), [(56, .arr 43 3 (l9.map c43))]⟩) ?_ ?_
        ·refine L0 rfl rfl (E_move (I b8) rfl (by kernel_rfl)) ?_
         refine L0 rfl rfl (E_move (I b8) rfl (by kernel_rfl)) ?_
         refine L0 rfl rfl (Y0_mul64 (a := b8) (b := b8) rfl (by kernel_rfl) (by kernel_rfl)) ?_
         refine L0 rfl rfl (E_move (I d1) rfl (by kernel_rfl)) ?_
         refine L0 rfl rfl (Y0_sub64 (a := w64 (b8 * b8)) (b := d1) rfl (by kernel_rfl) (by kernel_rfl)) ?_
         refine L0 rfl rfl (E_move (I a2) rfl (by kernel_rfl)) ?_
         refine L0 rfl rfl (Y0_mul64 (a := 4) (b := a2) rfl (by kernel_rfl) (by kernel_rfl)) ?_
         refine L0 rfl rfl (Y0_rem (k := .i64) (a := w64 ((w64 (b8 * b8)) - d1)) (b := w64 (4 * a2)) rfl (by kernel_rfl) (by kernel_rfl) (nz_some hz13)) ?_
         refine L0 rfl rfl (Y0_new (k := .i64) (a := Int.tmod (w64 ((w64 (b8 * b8)) - d1)) (w64 (4 * a2))) (b := 0) rfl (by kernel_rfl) (by kernel_rfl)) ?_
         refine XL_nil ?_
         subst ht14
         kernel_rfl
        refine V_cond rfl (fun hc15 => ?_) (fun hc15 => ?_)
        ·have h := of_true h hc15
         refine V_exit ?_
         show V _ _ _ _
         obtain ⟨b16, hb16, h⟩ := of_sI h
         refine V_reg (mb 51 57) [56] (s1 := ⟨I d1 :: .bot :: .bot :: .ow 56 :: I a2 :: I b16 :: bt 45 [], [(56, .arr 43 3 (l9.map c43))]⟩) ?_ ?_
         ·refine L0 rfl rfl (E_move (I b8) rfl (by kernel_rfl)) ?_
          refine L0 rfl rfl (Y0_add64 (a := b8) (b := 1) rfl (by kernel_rfl) (by kernel_rfl)) ?_
          refine L0 rfl rfl (E_assign (I (w64 (b8 + 1))) rfl (by kernel_rfl)) ?_
          refine XL_nil ?_
          subst hb16
          kernel_rfl
         exact ⟨n, Nat.lt_succ_self n, _, _,  by rfl, h⟩
        ·have h := of_false h hc15
         refine V_skip ?_
         show V _ _ _ _
         obtain ⟨z17, hz17, h⟩ := of_bind h
         obtain ⟨f18, hf18, h⟩ := of_sI h
         refine V_sreg (mb 51 121) [48, 56] (s1 := ⟨I d1 :: .bot :: .bot :: .ow 56 :: I a2 :: I b8 :: .pt 48 0 :: bt 44 [], [(48, .box [Ti a2, Ti b8, Ti f18]), (56, .arr 43 3 (l9.map c43))]⟩) ?_ ?_
         ·refine L0 rfl rfl (E_move (I a2) rfl (by kernel_rfl)) ?_
          refine L0 rfl rfl (E_move (I b8) rfl (by kernel_rfl)) ?_
          refine L0 rfl rfl (E_move (I b8) rfl (by kernel_rfl)) ?_
          refine L0 rfl rfl (E_move (I b8) rfl (by kernel_rfl)) ?_
          refine L0 rfl rfl (Y0_mul64 (a := b8) (b := b8) rfl (by kernel_rfl) (by kernel_rfl)) ?_
          refine L0 rfl rfl (E_move (I d1) rfl (by kernel_rfl)) ?_
          refine L0 rfl rfl (Y0_sub64 (a := w64 (b8 * b8)) (b := d1) rfl (by kernel_rfl) (by kernel_rfl)) ?_
          refine L0 rfl rfl (E_move (I a2) rfl (by kernel_rfl)) ?_
          refine L0 rfl rfl (Y0_mul64 (a := 4) (b := a2) rfl (by kernel_rfl) (by kernel_rfl)) ?_
          refine L0 rfl rfl (Y0_quo64 (a := w64 ((w64 (b8 * b8)) - d1)) (b := w64 (4 * a2)) rfl (by kernel_rfl) (by kernel_rfl) (nz_some hz17)) ?_
          refine L0 rfl rfl (Y0_build (cs := [Ti a2, Ti b8, Ti (w64 (Int.tdiv (w64 ((w64 (b8 * b8)) - d1)) (w64 (4 * a2))))]) pl43 bt43 rfl rfl (by kernel_rfl)) ?_
          refine L1 rfl rfl (Y1_alloc (z := zv43) rfl zf43 rfl) ?_
          refine XL_cons rfl (E_store (id := 48) (off := 0) (cs := [Ti 0, Ti 0, Ti 0]) (vc := [Ti a2, Ti b8, Ti (w64 (Int.tdiv (w64 ((w64 (b8 * b8)) - d1)) (w64 (4 * a2))))]) [Ti a2, Ti b8, Ti (w64 (Int.tdiv (w64 ((w64 (b8 * b8)) - d1)) (w64 (4 * a2))))] rfl rfl (by kernel_rfl) (by kernel_rfl) (by kernel_rfl) sz43 (Nat.le_of_ble_eq_true rfl) (by kernel_rfl)) ?_
          refine XL_nil ?_
          subst hf18
          kernel_rfl
         obtain ⟨y19, hy19, h⟩ := of_bind h
         refine V_sreg (mb 51 35184372088953) [48, 56] (s1 := ⟨I d1 :: .bot :: .bot :: .ow 56 :: I a2 :: I b8 :: .pt 48 0 :: bt 38 (Bo y19 :: bt 5 []), [(48, .box [Ti a2, Ti b8, Ti f18]), (56, .arr 43 3 (l9.map c43))]⟩) ?_ ?_
         ·refine L0 rfl rfl (E_loadn (cs := [Ti a2, Ti b8, Ti f18]) [Ti a2, Ti b8, Ti f18] wd43 rfl (by kernel_rfl) (Nat.le_of_ble_eq_true rfl) (by kernel_rfl)) ?_
          refine L1 rfl rfl (Y1_call (s_impl_Form_isReduced hy19) cf_impl_Form_isReduced rfl (by kernel_rfl)) ?_
          refine XL_nil ?_
          kernel_rfl
         refine V_cond rfl (fun hc20 => ?_) (fun hc20 => ?_)
         ·have h := of_true h hc20
          obtain ⟨u21, hu21, h⟩ := of_bind h
          refine V_reg (mb 51 57) [56] (s1 := ⟨I d1 :: .bot :: .bot :: .ow 56 :: I a2 :: I b8 :: bt 45 [], [(56, .arr 43 3 ((l9 ++ ([(a2, b8, f18)])).map c43))]⟩) ?_ ?_
          ·refine L0 rfl rfl (E_move (.ow 56) rfl (by kernel_rfl)) ?_
           refine L0 rfl rfl (E_loadn (cs := [Ti a2, Ti b8, Ti f18]) [Ti a2, Ti b8, Ti f18] wd43 rfl (by kernel_rfl) (Nat.le_of_ble_eq_true rfl) (by kernel_rfl)) ?_
           refine L1 rfl rfl (Y1_bslice (z := zv43) (els := [(a2, b8, f18)].map c43) Try.underlying40 iz43 rfl (by decide) rfl (by kernel_rfl) rfl (by simp [c43]) (by decide) (by decide)) ?_
           refine XL_cons rfl (X_appendM (c := c43) (xs := l9) (ys := [(a2, b8, f18)]) (id := 56) (z := zv43) rfl rfl Try.underlying40 izb43 rfl (by kernel_rfl) (by kernel_rfl) (by kernel_rfl) (fun _ => rfl) (by simp) (room_some hu21) (by decide)) ?_
           refine L0 rfl rfl (E_assign (.ow 56) rfl (by kernel_rfl)) ?_
           refine XL_nil ?_
           kernel_rfl
          show V _ _ _ _
          obtain ⟨b22, hb22, h⟩ := of_sI h
          refine V_reg (mb 51 57) [56] (s1 := ⟨I d1 :: .bot :: .bot :: .ow 56 :: I a2 :: I b22 :: bt 45 [], [(56, .arr 43 3 ((l9 ++ ([(a2, b8, f18)])).map c43))]⟩) ?_ ?_
          ·refine L0 rfl rfl (E_move (I b8) rfl (by kernel_rfl)) ?_
           refine L0 rfl rfl (Y0_add64 (a := b8) (b := 1) rfl (by kernel_rfl) (by kernel_rfl)) ?_
           refine L0 rfl rfl (E_assign (I (w64 (b8 + 1))) rfl (by kernel_rfl)) ?_
           refine XL_nil ?_
           subst hb22
           kernel_rfl
          exact ⟨n, Nat.lt_succ_self n, _, _,  by rfl, h⟩
         ·have h := of_false h hc20
          refine V_skip ?_
          show V _ _ _ _
          obtain ⟨b23, hb23, h⟩ := of_sI h
          refine V_reg (mb 51 57) [56] (s1 := ⟨I d1 :: .bot :: .bot :: .ow 56 :: I a2 :: I b23 :: bt 45 [], [(56, .arr 43 3 (l9.map c43))]⟩) ?_ ?_
          ·refine L0 rfl rfl (E_move (I b8) rfl (by kernel_rfl)) ?_
           refine L0 rfl rfl (Y0_add64 (a := b8) (b := 1) rfl (by kernel_rfl) (by kernel_rfl)) ?_
           refine L0 rfl rfl (E_assign (I (w64 (b8 + 1))) rfl (by kernel_rfl)) ?_
           refine XL_nil ?_
           subst hb23
           kernel_rfl
          exact ⟨n, Nat.lt_succ_self n, _, _,  by rfl, h⟩
       ·have h := of_false h hc12
        refine V_exit ?_
        obtain rfl := some_inj h
        show St.keep _ _ _ = _
        rfl
     show V _ _ _ _
     obtain ⟨a24, ha24, h⟩ := of_sI h
     refine V_reg (mb 51 25) [56] (s1 := ⟨I d1 :: .bot :: .bot :: .ow 56 :: I a24 :: bt 46 [], [(56, .arr 43 3 (o11.map c43))]⟩) ?_ ?_
     ·refine L0 rfl rfl (E_move (I a2) rfl (by kernel_rfl)) ?_
      refine L0 rfl rfl (Y0_add64 (a := a2) (b := 1) rfl (by kernel_rfl) (by kernel_rfl)) ?_
      refine L0 rfl rfl (E_assign (I (w64 (a2 + 1))) rfl (by kernel_rfl)) ?_
      refine XL_nil ?_
      subst ha24
      kernel_rfl
     exact ⟨n, Nat.lt_succ_self n, _, _,  by rfl, h⟩
    ·have h := of_false h hc6
     refine V_exit ?_
     obtain rfl := some_inj h
     show St.keep _ _ _ = _
     rfl
  show V _ _ _ _
  refine V_sreg (mb 51 4) [56] (s1 := ⟨.bot :: .bot :: .ow 56 :: bt 48 [], [(56, .arr 43 3 (o5.map c43))]⟩) ?_ ?_
  ·refine L0 rfl rfl (E_move (.ow 56) rfl (by kernel_rfl)) ?_
   refine L0 rfl rfl (E_assign (.ow 56) rfl (by kernel_rfl)) ?_
   refine XL_nil ?_
   kernel_rfl
  refine V_ret ?_
  obtain rfl := some_inj h
  show Post _ _ _ _ _
  exact ⟨.inr rfl, rfl, rfl, rfl⟩
theorem cf_impl_abs : ∀ args w, (callFunc 48 args).run Try.prog w = .ok (.enter 48 args) w := run_callFunc Try.func48 (by kernel_rfl) (by kernel_rfl)
set_option maxRecDepth 100000 in
set_option maxHeartbeats 400000 in
theorem s_impl_abs {vn1 : Int} {r : Int} (h : r_impl_abs vn1 = some r) : CallS Try.prog 48 [I vn1] (I r) [] := by
  refine CallS_of_text (rs := [.t 2]) (vs := [.tmp 2]) Try.func48 rfl rfl (.cons rfl FitsL.nil) (by decide) 8 rfl ?_
  unfold r_impl_abs at h
  show V _ _ ⟨I vn1 :: bt 7 [], []⟩ _
  refine V_sreg (mb 8 1) [] (s1 := ⟨I vn1 :: bt 7 [], []⟩) ?_ ?_
  ·refine L0 rfl rfl (E_assign (I 0) rfl (by kernel_rfl)) ?_
   refine XL_nil ?_
   kernel_rfl
  obtain ⟨t2, ht2, h⟩ := of_sI h
  refine V_sreg (mb 8 4) [] (s1 := ⟨.bot :: .bot :: I t2 :: bt 5 [], []⟩) ?_ ?_
  ·refine L0 rfl rfl (E_move (I vn1) rfl (by kernel_rfl)) ?_
   refine L0 rfl rfl (E_move (I vn1) rfl (by kernel_rfl)) ?_
   refine L0 rfl rfl (Y0_max (a := vn1) (b := -9223372036854775807) rfl (by kernel_rfl) (by kernel_rfl)) ?_
   refine L0 rfl rfl (Y0_neg64 (a := mxI vn1 (-9223372036854775807)) rfl (by kernel_rfl)) ?_
   refine L0 rfl rfl (Y0_max (a := vn1) (b := w64 (0 - (mxI vn1 (-9223372036854775807)))) rfl (by kernel_rfl) (by kernel_rfl)) ?_
   refine L0 rfl rfl (E_assign (I (mxI vn1 (w64 (0 - (mxI vn1 (-9223372036854775807)))))) rfl (by kernel_rfl)) ?_
   refine XL_nil ?_
   subst ht2
   kernel_rfl
  refine V_ret ?_
  obtain rfl := some_inj h
  show Post _ _ _ _ _
  exact ⟨.inr rfl, rfl, rfl, rfl⟩
theorem cf_impl_gcd : ∀ args w, (callFunc 72 args).run Try.prog w = .ok (.enter 72 args) w := run_callFunc Try.func72 (by kernel_rfl) (by kernel_rfl)
set_option maxRecDepth 100000 in
set_option maxHeartbeats 400000 in
theorem s_impl_gcd {a1 : Int} {b2 : Int} {r : Int} (h : r_impl_gcd a1 b2 = some r) : CallS Try.prog 72 [I a1, I b2] (I r) [] := by
  refine CallS_of_text (rs := [.t 4]) (vs := [.tmp 4]) Try.func72 rfl rfl (.cons rfl FitsL.nil) (by decide) 13 rfl ?_
  unfold r_impl_gcd at h
  show V _ _ ⟨I a1 :: I b2 :: bt 11 [], []⟩ _
  refine V_sreg (mb 13 3) [] (s1 := ⟨I a1 :: I b2 :: bt 11 [], []⟩) ?_ ?_
  ·refine L0 rfl rfl (E_assign (I 0) rfl (by kernel_rfl)) ?_
   refine XL_nil ?_
   kernel_rfl
  refine V_seq ?_
  obtain ⟨o6, hLo6, h⟩ := of_bind h
  refine V_toK (mb 13 1) [] (s1 := ⟨I o6 :: bt 12 [], []⟩) ?_ ?_
  ·clear h
   refine V_block (V_loop (fun n s => ∃ (a3 : Int) (b4 : Int), s.keep (mb 13 3) [] = (⟨I a3 :: I b4 :: bt 11 [], []⟩ : St) ∧ r_impl_gcd_L5 n a3 b4 = some o6) FU ⟨_, _,  by rfl, hLo6⟩ ?_)
   clear hLo6
   rintro n s ⟨a3, b4, hs, h⟩
   refine V_keep _ _ hs ?_
   clear hs
   cases n with
   | zero => cases h
   | succ n =>
    rw [r_impl_gcd_L5] at h
    refine V_seq ?_
    refine V_sreg (mb 13 67) [] (s1 := ⟨I a3 :: I b4 :: bt 4 (Bo (!eqI b4 0) :: bt 6 []), []⟩) ?_ ?_
    ·refine L0 rfl rfl (E_move (I b4) rfl (by kernel_rfl)) ?_
     refine L0 rfl rfl (Y0_new (k := .i64) (a := b4) (b := 0) rfl (by kernel_rfl) (by kernel_rfl)) ?_
     refine XL_nil ?_
     kernel_rfl
    refine V_cond rfl (fun hc7 => ?_) (fun hc7 => ?_)
    ·have h := of_true h hc7
     refine V_skip ?_
     show V _ _ _ _
     refine V_block ?_
     obtain ⟨z8, hz8, h⟩ := of_bind h
     obtain ⟨b9, hb9, h⟩ := of_sI h
     refine V_dreg [0, 0, 0, 6, 3, 31] 6 [[.z, .b, .b, .b, .z, .z], [.b, .z, .b, .z, .z, .z], [.b, .b, .z, .z, .b, .z], [.b, .a, .a, .z, .b, .z], [.a, .a, .b, .b, .z, .z], [.a, .a, .a, .a, .a, .z]] (mb 13 3) [] (s1 := ⟨I b4 :: I b9 :: bt 11 [], []⟩) (by kernel_rfl) (by kernel_rfl) ?_ ?_
     ·refine DE_0 0 (I b4) (by kernel_rfl) rfl rfl rfl (gsat_none rfl) (by kernel_rfl) (E_move (I b4) rfl (by kernel_rfl)) 7 rfl ?_
      refine DE_0 1 (I a3) (by kernel_rfl) rfl rfl rfl (gsat_none rfl) (by kernel_rfl) (E_move (I a3) rfl (by kernel_rfl)) 8 rfl ?_
      refine DE_0 2 (I b4) (by kernel_rfl) rfl rfl rfl (gsat_none rfl) (by kernel_rfl) (E_move (I b4) rfl (by kernel_rfl)) 9 rfl ?_
      refine DE_0 3 (I (Int.tmod a3 b4)) (by kernel_rfl) rfl rfl rfl (gsat_none rfl) (by kernel_rfl) (Y0_rem (k := .i64) (a := a3) (b := b4) rfl (by kernel_rfl) (by kernel_rfl) (nz_some hz8)) 10 rfl ?_
      refine DE_0 4 (I b4) (by kernel_rfl) rfl rfl rfl (gsat_none rfl) (by kernel_rfl) (E_assign (I b4) rfl (by kernel_rfl)) 0 rfl ?_
      refine DE_0 5 (I (Int.tmod a3 b4)) (by kernel_rfl) rfl rfl rfl (gsat_none rfl) (by kernel_rfl) (E_assign (I (Int.tmod a3 b4)) rfl (by kernel_rfl)) 1 rfl ?_
      refine DL_nil (by kernel_rfl) ?_
      refine XL_nil ?_
      subst hb9
      kernel_rfl
     exact ⟨n, Nat.lt_succ_self n, _, _,  by rfl, h⟩
    ·have h := of_false h hc7
     refine V_exit ?_
     obtain rfl := some_inj h
     show St.keep _ _ _ = _
     rfl
  show V _ _ _ _
  obtain ⟨y10, hy10, h⟩ := of_bind h
  refine V_sreg (mb 13 16) [] (s1 := ⟨bt 4 (I y10 :: bt 8 []), []⟩) ?_ ?_
  ·refine L0 rfl rfl (E_move (I o6) rfl (by kernel_rfl)) ?_
   refine L1 rfl rfl (Y1_call (s_impl_abs hy10) cf_impl_abs rfl (by kernel_rfl)) ?_
   refine L0 rfl rfl (E_assign (I y10) rfl (by kernel_rfl)) ?_
   refine XL_nil ?_
   kernel_rfl
  refine V_ret ?_
  obtain rfl := some_inj h
  show Post _ _ _ _ _
  exact ⟨.inr rfl, rfl, rfl, rfl⟩
theorem cf_impl_Form_content : ∀ args w, (callFunc 117 args).run Try.prog w = .ok (.enter 117 args) w := run_callFunc Try.func117 (by kernel_rfl) (by kernel_rfl)
set_option maxRecDepth 100000 in
set_option maxHeartbeats 400000 in
theorem s_impl_Form_content {f1 : (Int × Int × Int)} {r : Int} (h : r_impl_Form_content f1 = some r) : CallS Try.prog 117 [.ag [Ti f1.1, Ti f1.2.1, Ti f1.2.2]] (I r) [] := by
  refine CallS_of_text (rs := [.t 2]) (vs := [.tmp 2]) Try.func117 rfl rfl (.cons rfl FitsL.nil) (by decide) 11 rfl ?_
  unfold r_impl_Form_content at h
  show V _ _ ⟨.ag [Ti f1.1, Ti f1.2.1, Ti f1.2.2] :: bt 10 [], []⟩ _
  refine V_sreg (mb 11 2) [8] (s1 := ⟨.bot :: .pt 8 0 :: bt 9 [], [(8, .box [Ti f1.1, Ti f1.2.1, Ti f1.2.2])]⟩) ?_ ?_
  ·refine L1 rfl rfl (Y1_box (cs := [Ti f1.1, Ti f1.2.1, Ti f1.2.2]) rfl (by kernel_rfl)) ?_
   refine L0 rfl rfl (E_assign (I 0) rfl (by kernel_rfl)) ?_
   refine XL_nil ?_
   kernel_rfl
  obtain ⟨y2, hy2, h⟩ := of_bind h
  obtain ⟨y3, hy3, h⟩ := of_bind h
  refine V_sdreg [0, 1, 0, 4, 0, 16, 60, 127, 255] 9 [[.z, .z, .b, .b, .b, .b, .b, .z, .z], [.a, .z, .b, .b, .b, .b, .b, .z, .z], [.b, .b, .z, .z, .b, .b, .z, .z, .z], [.b, .b, .a, .z, .b, .b, .z, .z, .z], [.b, .b, .b, .b, .z, .z, .z, .z, .z], [.b, .b, .b, .b, .a, .z, .z, .z, .z], [.b, .b, .a, .a, .a, .a, .z, .z, .z], [.a, .a, .a, .a, .a, .a, .a, .z, .z], [.a, .a, .a, .a, .a, .a, .a, .a, .z]] (mb 11 4) [] (s1 := ⟨.bot :: .bot :: I y3 :: bt 8 [], []⟩) (by kernel_rfl) (by kernel_rfl) ?_ ?_
  ·refine DE_0 0 (.pt 8 0) (by kernel_rfl) rfl rfl rfl (gsat_none rfl) (by kernel_rfl) (E_field (.pt 8 0) Try.underlying43 rfl sz3 rfl (by kernel_rfl) (by intro hh; cases hh)) 3 rfl ?_
   refine DE_0 1 (I f1.1) (by kernel_rfl) rfl rfl rfl (gsat_none rfl) (by kernel_rfl) (Y0_load1 (c := Ti f1.1) (cs := [Ti f1.2.1, Ti f1.2.2]) sc3 rfl (by kernel_rfl)) 4 rfl ?_
   refine DE_0 2 (.pt 8 1) (by kernel_rfl) rfl rfl rfl (gsat_none rfl) (by kernel_rfl) (E_field (.pt 8 1) Try.underlying43 rfl sz3 rfl (by kernel_rfl) (by intro hh; cases hh)) 5 rfl ?_
   refine DE_0 3 (I f1.2.1) (by kernel_rfl) rfl rfl rfl (gsat_none rfl) (by kernel_rfl) (Y0_load1 (c := Ti f1.2.1) (cs := [Ti f1.2.2]) sc3 rfl (by kernel_rfl)) 6 rfl ?_
   refine DE_0 4 (.pt 8 2) (by kernel_rfl) rfl rfl rfl (gsat_none rfl) (by kernel_rfl) (E_field (.pt 8 2) Try.underlying43 rfl sz3 rfl (by kernel_rfl) (by intro hh; cases hh)) 7 rfl ?_
   refine DE_0 5 (I f1.2.2) (by kernel_rfl) rfl rfl rfl (gsat_none rfl) (by kernel_rfl) (Y0_load1 (c := Ti f1.2.2) (cs := []) sc3 rfl (by kernel_rfl)) 8 rfl ?_
   refine DE_1 6 (by kernel_rfl) rfl rfl rfl (gsat_none rfl) (Y1_call (s_impl_gcd hy2) cf_impl_gcd rfl (by kernel_rfl)) rfl rfl rfl 9 rfl ?_
   refine DE_1 7 (by kernel_rfl) rfl rfl rfl (gsat_none rfl) (Y1_call (s_impl_gcd hy3) cf_impl_gcd rfl (by kernel_rfl)) rfl rfl rfl 10 rfl ?_
   refine DE_0 8 (I y3) (by kernel_rfl) rfl rfl rfl (gsat_none rfl) (by kernel_rfl) (E_assign (I y3) rfl (by kernel_rfl)) 2 rfl ?_
   refine DL_nil (by kernel_rfl) ?_
   refine XL_nil ?_
   kernel_rfl
  refine V_ret ?_
  obtain rfl := some_inj h
  show Post _ _ _ _ _
  exact ⟨.inr rfl, rfl, rfl, rfl⟩
theorem cf_impl_primitiveOf : ∀ args w, (callFunc 97 args).run Try.prog w = .ok (.enter 97 args) w := run_callFunc Try.func97 (by kernel_rfl) (by kernel_rfl)
set_option maxRecDepth 100000 in
set_option maxHeartbeats 400000 in
theorem s_impl_primitiveOf {forms1 : List ((Int × Int × Int))} {r : List ((Int × Int × Int))} (h : r_impl_primitiveOf forms1 = some r) : CallS Try.prog 97 [.c (.sl (forms1.map c43))] (.ow 0) [(0, .arr 43 3 (r.map c43))] := by
  refine CallS_of_text (rs := [.t 2]) (vs := [.tmp 2]) Try.func97 rfl rfl (.cons rfl FitsL.nil) (by decide) 22 rfl ?_
  unfold r_impl_primitiveOf at h
  show V _ _ ⟨.c (.sl (forms1.map c43)) :: bt 21 [], []⟩ _
  refine V_sreg (mb 22 1) [] (s1 := ⟨.c (.sl (forms1.map c43)) :: bt 21 [], []⟩) ?_ ?_
  ·refine L1 rfl rfl (Y1_nil (e := 43) 3 (by decide) (.inl rfl)) ?_
   refine XL_nil ?_
   kernel_rfl
  refine V_sreg (mb 22 9) [48] (s1 := ⟨.c (.sl (forms1.map c43)) :: .bot :: .bot :: .ow 48 :: bt 18 [], [(48, .arr 43 3 ((([] : List ((Int × Int × Int)))).map c43))]⟩) ?_ ?_
  ·refine L1 rfl rfl (Y1_bslice0 Try.underlying40 sz43 (by decide) rfl rfl) ?_
   refine L0 rfl rfl (E_assign (.ow 48) rfl (by kernel_rfl)) ?_
   refine XL_nil ?_
   kernel_rfl
  refine V_seq ?_
  refine V_sreg (mb 22 904) [48] (s1 := ⟨bt 3 (.ow 48 :: bt 3 (.c (.sl (forms1.map c43)) :: I ((forms1.length : Int)) :: I 0 :: bt 12 [])), [(48, .arr 43 3 ((([] : List ((Int × Int × Int)))).map c43))]⟩) ?_ ?_
  ·refine L0 rfl rfl (E_move (.c (.sl (forms1.map c43))) rfl (by kernel_rfl)) ?_
   refine L0 rfl rfl (Y0_lenM (c := c43) (xs := forms1) Try.underlying40 rfl (by kernel_rfl)) ?_
   refine L0 rfl rfl (E_move (I 0) rfl (by kernel_rfl)) ?_
   refine XL_nil ?_
   kernel_rfl
  obtain ⟨o5, hLo5, h⟩ := of_bind h
  refine V_toK (mb 22 8) [48] (s1 := ⟨bt 3 (.ow 48 :: bt 18 []), [(48, .arr 43 3 (o5.map c43))]⟩) ?_ ?_
  ·clear h
   refine V_block (V_loop (fun n s => ∃ (t2 : Int) (l3 : List ((Int × Int × Int))), s.keep (mb 22 904) [48] = (⟨bt 3 (.ow 48 :: bt 3 (.c (.sl (forms1.map c43)) :: I ((forms1.length : Int)) :: I t2 :: bt 12 [])), [(48, .arr 43 3 (l3.map c43))]⟩ : St) ∧ r_impl_primitiveOf_L4 forms1 n t2 l3 = some o5) FU ⟨_, _,  by rfl, hLo5⟩ ?_)
   clear hLo5
   rintro n s ⟨t2, l3, hs, h⟩
   refine V_keep _ _ hs ?_
   clear hs
   cases n with
   | zero => cases h
   | succ n =>
    rw [r_impl_primitiveOf_L4] at h
    refine V_sreg (mb 22 1928) [48] (s1 := ⟨bt 3 (.ow 48 :: bt 3 (.c (.sl (forms1.map c43)) :: I ((forms1.length : Int)) :: I t2 :: Bo (ltI t2 ((forms1.length : Int))) :: bt 11 [])), [(48, .arr 43 3 (l3.map c43))]⟩) ?_ ?_
    ·refine L0 rfl rfl (Y0_ltw (k := .i64) (a := t2) (b := (forms1.length : Int)) rfl (by kernel_rfl) (by kernel_rfl)) ?_
     refine XL_nil ?_
     kernel_rfl
    refine V_seq ?_
    refine V_cond rfl (fun hc6 => ?_) (fun hc6 => ?_)
    ·have h := of_true h hc6
     refine V_skip ?_
     show V _ _ _ _
     refine V_seq ?_
     refine V_block ?_
     obtain ⟨e7, he7, h⟩ := of_bind h
     refine V_sreg (mb 22 936) [40, 48] (s1 := ⟨bt 3 (.ow 48 :: .bot :: .pt 40 0 :: .bot :: .c (.sl (forms1.map c43)) :: I ((forms1.length : Int)) :: I t2 :: bt 12 []), [(40, .box [Ti e7.1, Ti e7.2.1, Ti e7.2.2]), (48, .arr 43 3 (l3.map c43))]⟩) ?_ ?_
     ·refine L0 rfl rfl (Y0_idxM (c := c43) (xs := forms1) (v := e7) (n := t2) Try.underlying40 sz43 rfl (by kernel_rfl) (by kernel_rfl) he7) ?_
      refine L0 rfl rfl (E_loadn (cs := [Ti e7.1, Ti e7.2.1, Ti e7.2.2]) [Ti e7.1, Ti e7.2.1, Ti e7.2.2] wd43 rfl (by kernel_rfl) (Nat.le_of_ble_eq_true rfl) (by kernel_rfl)) ?_
      refine L1 rfl rfl (Y1_alloc (z := zv43) rfl zf43 rfl) ?_
      refine XL_cons rfl (E_store (id := 40) (off := 0) (cs := [Ti 0, Ti 0, Ti 0]) (vc := [Ti e7.1, Ti e7.2.1, Ti e7.2.2]) [Ti e7.1, Ti e7.2.1, Ti e7.2.2] rfl rfl (by kernel_rfl) (by kernel_rfl) (by kernel_rfl) sz43 (Nat.le_of_ble_eq_true rfl) (by kernel_rfl)) ?_
      refine XL_nil ?_
      kernel_rfl
     obtain ⟨y8, hy8, h⟩ := of_bind h
     refine V_sreg (mb 22 33704) [40, 48] (s1 := ⟨bt 3 (.ow 48 :: .bot :: .pt 40 0 :: .bot :: .c (.sl (forms1.map c43)) :: I ((forms1.length : Int)) :: I t2 :: bt 5 (Bo (eqI y8 1) :: bt 6 [])), [(40, .box [Ti e7.1, Ti e7.2.1, Ti e7.2.2]), (48, .arr 43 3 (l3.map c43))]⟩) ?_ ?_
     ·refine L0 rfl rfl (E_loadn (cs := [Ti e7.1, Ti e7.2.1, Ti e7.2.2]) [Ti e7.1, Ti e7.2.1, Ti e7.2.2] wd43 rfl (by kernel_rfl) (Nat.le_of_ble_eq_true rfl) (by kernel_rfl)) ?_
      refine L1 rfl rfl (Y1_call (s_impl_Form_content hy8) cf_impl_Form_content rfl (by kernel_rfl)) ?_
      refine L0 rfl rfl (Y0_eqw (k := .i64) (a := y8) (b := 1) rfl (by kernel_rfl) (by kernel_rfl)) ?_
      refine XL_nil ?_
      kernel_rfl
     refine V_cond rfl (fun hc9 => ?_) (fun hc9 => ?_)
     ·have h := of_true h hc9
      obtain ⟨u10, hu10, h⟩ := of_bind h
      refine V_reg (mb 22 904) [48] (s1 := ⟨bt 3 (.ow 48 :: bt 3 (.c (.sl (forms1.map c43)) :: I ((forms1.length : Int)) :: I t2 :: bt 12 [])), [(48, .arr 43 3 ((l3 ++ ([e7])).map c43))]⟩) ?_ ?_
      ·refine L0 rfl rfl (E_move (.ow 48) rfl (by kernel_rfl)) ?_
       refine L0 rfl rfl (E_loadn (cs := [Ti e7.1, Ti e7.2.1, Ti e7.2.2]) [Ti e7.1, Ti e7.2.1, Ti e7.2.2] wd43 rfl (by kernel_rfl) (Nat.le_of_ble_eq_true rfl) (by kernel_rfl)) ?_
       refine L1 rfl rfl (Y1_bslice (z := zv43) (els := [e7].map c43) Try.underlying40 iz43 rfl (by decide) rfl (by kernel_rfl) rfl (by simp [c43]) (by decide) (by decide)) ?_
       refine XL_cons rfl (X_appendM (c := c43) (xs := l3) (ys := [e7]) (id := 48) (z := zv43) rfl rfl Try.underlying40 izb43 rfl (by kernel_rfl) (by kernel_rfl) (by kernel_rfl) (fun _ => rfl) (by simp) (room_some hu10) (by decide)) ?_
       refine L0 rfl rfl (E_assign (.ow 48) rfl (by kernel_rfl)) ?_
       refine XL_nil ?_
       kernel_rfl
      show V _ _ _ _
      obtain ⟨t11, ht11, h⟩ := of_sI h
      refine V_reg (mb 22 904) [48] (s1 := ⟨bt 3 (.ow 48 :: bt 3 (.c (.sl (forms1.map c43)) :: I ((forms1.length : Int)) :: I t11 :: bt 12 [])), [(48, .arr 43 3 ((l3 ++ ([e7])).map c43))]⟩) ?_ ?_
      ·refine L0 rfl rfl (Y0_add64 (a := t2) (b := 1) rfl (by kernel_rfl) (by kernel_rfl)) ?_
       refine L0 rfl rfl (E_move (I (w64 (t2 + 1))) rfl (by kernel_rfl)) ?_
       refine XL_nil ?_
       subst ht11
       kernel_rfl
      exact ⟨n, Nat.lt_succ_self n, _, _,  by rfl, h⟩
     ·have h := of_false h hc9
      refine V_skip ?_
      show V _ _ _ _
      obtain ⟨t12, ht12, h⟩ := of_sI h
      refine V_reg (mb 22 904) [48] (s1 := ⟨bt 3 (.ow 48 :: bt 3 (.c (.sl (forms1.map c43)) :: I ((forms1.length : Int)) :: I t12 :: bt 12 [])), [(48, .arr 43 3 (l3.map c43))]⟩) ?_ ?_
      ·refine L0 rfl rfl (Y0_add64 (a := t2) (b := 1) rfl (by kernel_rfl) (by kernel_rfl)) ?_
       refine L0 rfl rfl (E_move (I (w64 (t2 + 1))) rfl (by kernel_rfl)) ?_
       refine XL_nil ?_
       subst ht12
       kernel_rfl
      exact ⟨n, Nat.lt_succ_self n, _, _,  by rfl, h⟩
    ·have h := of_false h hc6
     refine V_exit ?_
     obtain rfl := some_inj h
     show St.keep _ _ _ = _
     rfl
  show V _ _ _ _
  refine V_sreg (mb 22 4) [48] (s1 := ⟨.bot :: .bot :: .ow 48 :: bt 19 [], [(48, .arr 43 3 (o5.map c43))]⟩) ?_ ?_
  ·refine L0 rfl rfl (E_move (.ow 48) rfl (by kernel_rfl)) ?_
   refine L0 rfl rfl (E_assign (.ow 48) rfl (by kernel_rfl)) ?_
   refine XL_nil ?_
   kernel_rfl
  refine V_ret ?_
  obtain rfl := some_inj h
  show Post _ _ _ _ _
  exact ⟨.inr rfl, rfl, rfl, rfl⟩
theorem cf_impl_reducedForms : ∀ args w, (callFunc 58 args).run Try.prog w = .ok (.enter 58 args) w := run_callFunc Try.func58 (by kernel_rfl) (by kernel_rfl)
set_option maxRecDepth 100000 in
set_option maxHeartbeats 400000 in
theorem s_impl_reducedForms {d1 : Int} {r : List ((Int × Int × Int))} (h : r_impl_reducedForms d1 = some r) : CallS Try.prog 58 [I d1] (.ow 0) [(0, .arr 43 3 (r.map c43))] := by
  refine CallS_of_text (rs := [.t 2]) (vs := [.tmp 2]) Try.func58 rfl rfl (.cons rfl FitsL.nil) (by decide) 6 rfl ?_
  unfold r_impl_reducedForms at h
  show V _ _ ⟨I d1 :: bt 5 [], []⟩ _
  refine V_sreg (mb 6 1) [] (s1 := ⟨I d1 :: bt 5 [], []⟩) ?_ ?_
  ·refine L1 rfl rfl (Y1_nil (e := 43) 3 (by decide) (.inl rfl)) ?_
   refine XL_nil ?_
   kernel_rfl
  obtain ⟨y2, hy2, h⟩ := of_bind h
  obtain ⟨y3, hy3, h⟩ := of_bind h
  refine V_sreg (mb 6 4) [40] (s1 := ⟨.bot :: .bot :: .ow 40 :: bt 3 [], [(40, .arr 43 3 (y3.map c43))]⟩) ?_ ?_
  ·refine L0 rfl rfl (E_move (I d1) rfl (by kernel_rfl)) ?_
   refine L1 rfl rfl (Y1_call (s_impl_allReduced hy2) cf_impl_allReduced rfl (by kernel_rfl)) ?_
   refine L1 rfl rfl (Y1_callS (s_impl_primitiveOf hy3) cf_impl_primitiveOf rfl (by kernel_rfl) rfl (flatE_cons (fun _ => rfl) rfl)) ?_
   refine L0 rfl rfl (E_assign (.ow 40) rfl (by kernel_rfl)) ?_
   refine XL_nil ?_
   kernel_rfl
  refine V_ret ?_
  obtain rfl := some_inj h
  show Post _ _ _ _ _
  exact ⟨.inr rfl, rfl, rfl, rfl⟩
theorem cf_impl_one : ∀ args w, (callFunc 132 args).run Try.prog w = .ok (.enter 132 args) w := run_callFunc Try.func132 (by kernel_rfl) (by kernel_rfl)
set_option maxRecDepth 100000 in
set_option maxHeartbeats 400000 in
theorem s_impl_one {r : (Int × Int × Int × Int)} (h : r_impl_one = some r) : CallS Try.prog 132 [] (.ag [Ti r.1, Ti r.2.1, Ti r.2.2.1, Ti r.2.2.2]) [] := by
  refine CallS_of_text (rs := [.w 0 4]) (vs := [.cell 0 99]) Try.func132 rfl rfl (.cons ⟨rfl, wd99⟩ FitsL.nil) (by decide) 2 rfl ?_
  unfold r_impl_one at h
  show V _ _ ⟨.bot :: .bot :: [], []⟩ _
  refine V_sreg (mb 2 1) [0] (s1 := ⟨.pt 0 0 :: .bot :: [], [(0, .box [Ti 0, Ti 0, Ti 0, Ti 0])]⟩) ?_ ?_
  ·refine L1 rfl rfl (Y1_alloc (z := zv99) rfl zf99 rfl) ?_
   refine XL_nil ?_
   kernel_rfl
  refine V_sreg (mb 2 1) [0] (s1 := ⟨.pt 0 0 :: .bot :: [], [(0, .box [Ti 1, Ti 0, Ti 0, Ti 1])]⟩) ?_ ?_
  ·refine L0 rfl rfl (Y0_build (cs := [Ti 1, Ti 0, Ti 0, Ti 1]) pl99 bt99 rfl rfl (by kernel_rfl)) ?_
   refine XL_cons rfl (E_store (id := 0) (off := 0) (cs := [Ti 0, Ti 0, Ti 0, Ti 0]) (vc := [Ti 1, Ti 0, Ti 0, Ti 1]) [Ti 1, Ti 0, Ti 0, Ti 1] rfl rfl (by kernel_rfl) (by kernel_rfl) (by kernel_rfl) sz99 (Nat.le_of_ble_eq_true rfl) (by kernel_rfl)) ?_
   refine XL_nil ?_
   kernel_rfl
  refine V_ret ?_
  obtain rfl := some_inj h
  show Post _ _ _ _ _
  exact ⟨.inr rfl, rfl, rfl, rfl⟩
theorem cf_impl_floorDiv : ∀ args w, (callFunc 142 args).run Try.prog w = .ok (.enter 142 args) w := run_callFunc Try.func142 (by kernel_rfl) (by kernel_rfl)
set_option maxRecDepth 100000 in
set_option maxHeartbeats 400000 in
theorem s_impl_floorDiv {a1 : Int} {vm2 : Int} {r : Int} (h : r_impl_floorDiv a1 vm2 = some r) : CallS Try.prog 142 [I a1, I vm2] (I r) [] := by
  refine CallS_of_text (rs := [.t 4]) (vs := [.tmp 4]) Try.func142 rfl rfl (.cons rfl FitsL.nil) (by decide) 12 rfl ?_
  unfold r_impl_floorDiv at h
  show V _ _ ⟨I a1 :: I vm2 :: bt 10 [], []⟩ _
  refine V_sreg (mb 12 3) [] (s1 := ⟨I a1 :: I vm2 :: bt 10 [], []⟩) ?_ ?_
  ·refine L0 rfl rfl (E_assign (I 0) rfl (by kernel_rfl)) ?_
   refine XL_nil ?_
   kernel_rfl
  obtain ⟨y3, hy3, h⟩ := of_bind h
  obtain ⟨z4, hz4, h⟩ := of_bind h
  obtain ⟨t5, ht5, h⟩ := of_sI h
  refine V_sreg (mb 12 16) [] (s1 := ⟨bt 4 (I t5 :: bt 7 []), []⟩) ?_ ?_
  ·refine L0 rfl rfl (E_move (I a1) rfl (by kernel_rfl)) ?_
   refine L0 rfl rfl (E_move (I a1) rfl (by kernel_rfl)) ?_
   refine L0 rfl rfl (E_move (I vm2) rfl (by kernel_rfl)) ?_
   refine L1 rfl rfl (Y1_call (s_impl_mod hy3) cf_impl_mod rfl (by kernel_rfl)) ?_
   refine L0 rfl rfl (Y0_sub64 (a := a1) (b := y3) rfl (by kernel_rfl) (by kernel_rfl)) ?_
   refine L0 rfl rfl (E_move (I vm2) rfl (by kernel_rfl)) ?_
   refine L0 rfl rfl (Y0_quo64 (a := w64 (a1 - y3)) (b := vm2) rfl (by kernel_rfl) (by kernel_rfl) (nz_some hz4)) ?_
   refine L0 rfl rfl (E_assign (I (w64 (Int.tdiv (w64 (a1 - y3)) vm2))) rfl (by kernel_rfl)) ?_
   refine XL_nil ?_
   subst ht5
   kernel_rfl
  refine V_ret ?_
  obtain rfl := some_inj h
  show Post _ _ _ _ _
  exact ⟨.inr rfl, rfl, rfl, rfl⟩
theorem cf_impl_Form_step : ∀ args w, (callFunc 133 args).run Try.prog w = .ok (.enter 133 args) w := run_callFunc Try.func133 (by kernel_rfl) (by kernel_rfl)
set_option maxRecDepth 100000 in
set_option maxHeartbeats 400000 in
theorem s_impl_Form_step {f1 : (Int × Int × Int)} {r : (Int × Int × Int × Int)} (h : r_impl_Form_step f1 = some r) : CallS Try.prog 133 [.ag [Ti f1.1, Ti f1.2.1, Ti f1.2.2]] (.ag [Ti r.1, Ti r.2.1, Ti r.2.2.1, Ti r.2.2.2]) [] := by
  refine CallS_of_text (rs := [.w 2 4]) (vs := [.cell 2 99]) Try.func133 rfl rfl (.cons ⟨rfl, wd99⟩ FitsL.nil) (by decide) 22 rfl ?_
  unfold r_impl_Form_step at h
  show V _ _ ⟨.ag [Ti f1.1, Ti f1.2.1, Ti f1.2.2] :: bt 21 [], []⟩ _
  refine V_sreg (mb 22 6) [16, 8] (s1 := ⟨.bot :: .pt 8 0 :: .pt 16 0 :: bt 19 [], [(16, .box [Ti 0, Ti 0, Ti 0, Ti 0]), (8, .box [Ti f1.1, Ti f1.2.1, Ti f1.2.2])]⟩) ?_ ?_
  ·refine L1 rfl rfl (Y1_box (cs := [Ti f1.1, Ti f1.2.1, Ti f1.2.2]) rfl (by kernel_rfl)) ?_
   refine L1 rfl rfl (Y1_alloc (z := zv99) rfl zf99 rfl) ?_
   refine XL_nil ?_
   kernel_rfl
  refine V_seq ?_
  refine V_block ?_
  obtain ⟨y2, hy2, h⟩ := of_bind h
  refine V_sreg (mb 22 14) [16, 8] (s1 := ⟨.bot :: .pt 8 0 :: .pt 16 0 :: Bo y2 :: bt 18 [], [(16, .box [Ti 0, Ti 0, Ti 0, Ti 0]), (8, .box [Ti f1.1, Ti f1.2.1, Ti f1.2.2])]⟩) ?_ ?_
  ·refine L0 rfl rfl (E_loadn (cs := [Ti f1.1, Ti f1.2.1, Ti f1.2.2]) [Ti f1.1, Ti f1.2.1, Ti f1.2.2] wd43 rfl (by kernel_rfl) (Nat.le_of_ble_eq_true rfl) (by kernel_rfl)) ?_
   refine L1 rfl rfl (Y1_call (s_impl_Form_isReduced hy2) cf_impl_Form_isReduced rfl (by kernel_rfl)) ?_
   refine L0 rfl rfl (E_assign (Bo y2) rfl (by kernel_rfl)) ?_
   refine XL_nil ?_
   kernel_rfl
  refine V_cond rfl (fun hc3 => ?_) (fun hc3 => ?_)
  ·have h := of_true h hc3
   obtain ⟨y4, hy4, h⟩ := of_bind h
   refine V_sreg (mb 22 4) [16] (s1 := ⟨.bot :: .bot :: .pt 16 0 :: bt 19 [], [(16, .box [Ti y4.1, Ti y4.2.1, Ti y4.2.2.1, Ti y4.2.2.2])]⟩) ?_ ?_
   ·refine L1 rfl rfl (Y1_call (s_impl_one hy4) cf_impl_one rfl (by kernel_rfl)) ?_
    refine XL_cons rfl (E_store (id := 16) (off := 0) (cs := [Ti 0, Ti 0, Ti 0, Ti 0]) (vc := [Ti y4.1, Ti y4.2.1, Ti y4.2.2.1, Ti y4.2.2.2]) [Ti y4.1, Ti y4.2.1, Ti y4.2.2.1, Ti y4.2.2.2] rfl rfl (by kernel_rfl) (by kernel_rfl) (by kernel_rfl) sz99 (Nat.le_of_ble_eq_true rfl) (by kernel_rfl)) ?_
    refine XL_nil ?_
    kernel_rfl
   refine V_ret ?_
   obtain rfl := some_inj h
   show Post _ _ _ _ _
   exact ⟨.inr rfl, rfl, rfl, rfl⟩
  ·have h := of_false h hc3
   obtain ⟨y5, hy5, h⟩ := of_bind h
   refine V_sreg (mb 22 134) [16, 8] (s1 := ⟨.bot :: .pt 8 0 :: .pt 16 0 :: bt 4 (Bo (!y5) :: bt 14 []), [(16, .box [Ti 0, Ti 0, Ti 0, Ti 0]), (8, .box [Ti f1.1, Ti f1.2.1, Ti f1.2.2])]⟩) ?_ ?_
   ·refine L0 rfl rfl (E_loadn (cs := [Ti f1.1, Ti f1.2.1, Ti f1.2.2]) [Ti f1.1, Ti f1.2.1, Ti f1.2.2] wd43 rfl (by kernel_rfl) (Nat.le_of_ble_eq_true rfl) (by kernel_rfl)) ?_
    refine L1 rfl rfl (Y1_call (s_impl_Form_isNormal hy5) cf_impl_Form_isNormal rfl (by kernel_rfl)) ?_
    refine L0 rfl rfl (Y0_not (b := y5) rfl (by kernel_rfl)) ?_
    refine L0 rfl rfl (E_assign (Bo (!y5)) rfl (by kernel_rfl)) ?_
    refine XL_nil ?_
    kernel_rfl
   refine V_cond rfl (fun hc6 => ?_) (fun hc6 => ?_)
   ·have h := of_true h hc6
    obtain ⟨y7, hy7, h⟩ := of_bind h
    refine V_sreg (mb 22 4) [16] (s1 := ⟨.bot :: .bot :: .pt 16 0 :: bt 19 [], [(16, .box [Ti 1, Ti y7, Ti 0, Ti 1])]⟩) ?_ ?_
    ·refine L0 rfl rfl (E_field (.pt 8 0) Try.underlying43 rfl sz3 rfl (by kernel_rfl) (by intro hh; cases hh)) ?_
     refine L0 rfl rfl (Y0_load1 (c := Ti f1.1) (cs := [Ti f1.2.1, Ti f1.2.2]) sc3 rfl (by kernel_rfl)) ?_
     refine L0 rfl rfl (E_field (.pt 8 1) Try.underlying43 rfl sz3 rfl (by kernel_rfl) (by intro hh; cases hh)) ?_
     refine L0 rfl rfl (Y0_load1 (c := Ti f1.2.1) (cs := [Ti f1.2.2]) sc3 rfl (by kernel_rfl)) ?_
     refine L0 rfl rfl (Y0_sub64 (a := f1.1) (b := f1.2.1) rfl (by kernel_rfl) (by kernel_rfl)) ?_
     refine L0 rfl rfl (E_field (.pt 8 0) Try.underlying43 rfl sz3 rfl (by kernel_rfl) (by intro hh; cases hh)) ?_
     refine L0 rfl rfl (Y0_load1 (c := Ti f1.1) (cs := [Ti f1.2.1, Ti f1.2.2]) sc3 rfl (by kernel_rfl)) ?_
     refine L0 rfl rfl (Y0_mul64 (a := 2) (b := f1.1) rfl (by kernel_rfl) (by kernel_rfl)) ?_
     refine L1 rfl rfl (Y1_call (s_impl_floorDiv hy7) cf_impl_floorDiv rfl (by kernel_rfl)) ?_
     refine L0 rfl rfl (Y0_build (cs := [Ti 1, Ti y7, Ti 0, Ti 1]) pl99 bt99 rfl rfl (by kernel_rfl)) ?_
     refine XL_cons rfl (E_store (id := 16) (off := 0) (cs := [Ti 0, Ti 0, Ti 0, Ti 0]) (vc := [Ti 1, Ti y7, Ti 0, Ti 1]) [Ti 1, Ti y7, Ti 0, Ti 1] rfl rfl (by kernel_rfl) (by kernel_rfl) (by kernel_rfl) sz99 (Nat.le_of_ble_eq_true rfl) (by kernel_rfl)) ?_
     refine XL_nil ?_
     kernel_rfl
    refine V_ret ?_
    obtain rfl := some_inj h
    show Post _ _ _ _ _
    exact ⟨.inr rfl, rfl, rfl, rfl⟩
   ·have h := of_false h hc6
    refine V_skip ?_
    show V _ _ _ _
    refine V_sreg (mb 22 4) [16] (s1 := ⟨.bot :: .bot :: .pt 16 0 :: bt 19 [], [(16, .box [Ti 0, Ti (-1), Ti 1, Ti 0])]⟩) ?_ ?_
    ·refine L0 rfl rfl (Y0_build (cs := [Ti 0, Ti (-1), Ti 1, Ti 0]) pl99 bt99 rfl rfl (by kernel_rfl)) ?_
     refine XL_cons rfl (E_store (id := 16) (off := 0) (cs := [Ti 0, Ti 0, Ti 0, Ti 0]) (vc := [Ti 0, Ti (-1), Ti 1, Ti 0]) [Ti 0, Ti (-1), Ti 1, Ti 0] rfl rfl (by kernel_rfl) (by kernel_rfl) (by kernel_rfl) sz99 (Nat.le_of_ble_eq_true rfl) (by kernel_rfl)) ?_
     refine XL_nil ?_
     kernel_rfl
    refine V_ret ?_
    obtain rfl := some_inj h
    show Post _ _ _ _ _
    exact ⟨.inr rfl, rfl, rfl, rfl⟩
theorem cf_impl_Form_at : ∀ args w, (callFunc 119 args).run Try.prog w = .ok (.enter 119 args) w := run_callFunc Try.func119 (by kernel_rfl) (by kernel_rfl)
set_option maxRecDepth 100000 in
set_option maxHeartbeats 400000 in
theorem s_impl_Form_at {f1 : (Int × Int × Int)} {x2 : Int} {y3 : Int} {r : Int} (h : r_impl_Form_at f1 x2 y3 = some r) : CallS Try.prog 119 [.ag [Ti f1.1, Ti f1.2.1, Ti f1.2.2], I x2, I y3] (I r) [] := by
  refine CallS_of_text (rs := [.t 6]) (vs := [.tmp 6]) Try.func119 rfl rfl (.cons rfl FitsL.nil) (by decide) 27 rfl ?_
  unfold r_impl_Form_at at h
  show V _ _ ⟨.ag [Ti f1.1, Ti f1.2.1, Ti f1.2.2] :: I x2 :: I y3 :: bt 24 [], []⟩ _
  refine V_sreg (mb 27 14) [24] (s1 := ⟨.bot :: I x2 :: I y3 :: .pt 24 0 :: bt 23 [], [(24, .box [Ti f1.1, Ti f1.2.1, Ti f1.2.2])]⟩) ?_ ?_
  ·refine L1 rfl rfl (Y1_box (cs := [Ti f1.1, Ti f1.2.1, Ti f1.2.2]) rfl (by kernel_rfl)) ?_
   refine L0 rfl rfl (E_assign (I 0) rfl (by kernel_rfl)) ?_
   refine XL_nil ?_
   kernel_rfl
  obtain ⟨t4, ht4, h⟩ := of_sI h
  refine V_sreg (mb 27 64) [] (s1 := ⟨bt 6 (I t4 :: bt 20 []), []⟩) ?_ ?_
  ·refine L0 rfl rfl (E_field (.pt 24 0) Try.underlying43 rfl sz3 rfl (by kernel_rfl) (by intro hh; cases hh)) ?_
   refine L0 rfl rfl (Y0_load1 (c := Ti f1.1) (cs := [Ti f1.2.1, Ti f1.2.2]) sc3 rfl (by kernel_rfl)) ?_
   refine L0 rfl rfl (E_move (I x2) rfl (by kernel_rfl)) ?_
   refine L0 rfl rfl (Y0_mul64 (a := f1.1) (b := x2) rfl (by kernel_rfl) (by kernel_rfl)) ?_
   refine L0 rfl rfl (E_move (I x2) rfl (by kernel_rfl)) ?_
   refine L0 rfl rfl (Y0_mul64 (a := w64 (f1.1 * x2)) (b := x2) rfl (by kernel_rfl) (by kernel_rfl)) ?_
   refine L0 rfl rfl (E_field (.pt 24 1) Try.underlying43 rfl sz3 rfl (by kernel_rfl) (by intro hh; cases hh)) ?_
   refine L0 rfl rfl (Y0_load1 (c := Ti f1.2.1) (cs := [Ti f1.2.2]) sc3 rfl (by kernel_rfl)) ?_
   refine L0 rfl rfl (E_move (I x2) rfl (by kernel_rfl)) ?_
   refine L0 rfl rfl (Y0_mul64 (a := f1.2.1) (b := x2) rfl (by kernel_rfl) (by kernel_rfl)) ?_
   refine L0 rfl rfl (E_move (I y3) rfl (by kernel_rfl)) ?_
   refine L0 rfl rfl (Y0_mul64 (a := w64 (f1.2.1 * x2)) (b := y3) rfl (by kernel_rfl) (by kernel_rfl)) ?_
   refine L0 rfl rfl (Y0_add64 (a := w64 ((w64 (f1.1 * x2)) * x2)) (b := w64 ((w64 (f1.2.1 * x2)) * y3)) rfl (by kernel_rfl) (by kernel_rfl)) ?_
   refine L0 rfl rfl (E_field (.pt 24 2) Try.underlying43 rfl sz3 rfl (by kernel_rfl) (by intro hh; cases hh)) ?_
   refine L0 rfl rfl (Y0_load1 (c := Ti f1.2.2) (cs := []) sc3 rfl (by kernel_rfl)) ?_
   refine L0 rfl rfl (E_move (I y3) rfl (by kernel_rfl)) ?_
   refine L0 rfl rfl (Y0_mul64 (a := f1.2.2) (b := y3) rfl (by kernel_rfl) (by kernel_rfl)) ?_
   refine L0 rfl rfl (E_move (I y3) rfl (by kernel_rfl)) ?_
   refine L0 rfl rfl (Y0_mul64 (a := w64 (f1.2.2 * y3)) (b := y3) rfl (by kernel_rfl) (by kernel_rfl)) ?_
   refine L0 rfl rfl (Y0_add64 (a := w64 ((w64 ((w64 (f1.1 * x2)) * x2)) + (w64 ((w64 (f1.2.1 * x2)) * y3)))) (b := w64 ((w64 (f1.2.2 * y3)) * y3)) rfl (by kernel_rfl) (by kernel_rfl)) ?_
   refine L0 rfl rfl (E_assign (I (w64 ((w64 ((w64 ((w64 (f1.1 * x2)) * x2)) + (w64 ((w64 (f1.2.1 * x2)) * y3)))) + (w64 ((w64 (f1.2.2 * y3)) * y3))))) rfl (by kernel_rfl)) ?_
   refine XL_nil ?_
   subst ht4
   kernel_rfl
  refine V_ret ?_
  obtain rfl := some_inj h
  show Post _ _ _ _ _
  exact ⟨.inr rfl, rfl, rfl, rfl⟩
theorem cf_impl_Form_polar : ∀ args w, (callFunc 143 args).run Try.prog w = .ok (.enter 143 args) w := run_callFunc Try.func143 (by kernel_rfl) (by kernel_rfl)
set_option maxRecDepth 100000 in
set_option maxHeartbeats 400000 in
theorem s_impl_Form_polar {f1 : (Int × Int × Int)} {x2 : Int} {y3 : Int} {u4 : Int} {v5 : Int} {r : Int} (h : r_impl_Form_polar f1 x2 y3 u4 v5 = some r) : CallS Try.prog 143 [.ag [Ti f1.1, Ti f1.2.1, Ti f1.2.2], I x2, I y3, I u4, I v5] (I r) [] := by
  refine CallS_of_text (rs := [.t 10]) (vs := [.tmp 10]) Try.func143 rfl rfl (.cons rfl FitsL.nil) (by decide) 37 rfl ?_
  unfold r_impl_Form_polar at h
  show V _ _ ⟨.ag [Ti f1.1, Ti f1.2.1, Ti f1.2.2] :: I x2 :: I y3 :: I u4 :: I v5 :: bt 32 [], []⟩ _
  refine V_sreg (mb 37 62) [40] (s1 := ⟨.bot :: I x2 :: I y3 :: I u4 :: I v5 :: .pt 40 0 :: bt 31 [], [(40, .box [Ti f1.1, Ti f1.2.1, Ti f1.2.2])]⟩) ?_ ?_
  ·refine L1 rfl rfl (Y1_box (cs := [Ti f1.1, Ti f1.2.1, Ti f1.2.2]) rfl (by kernel_rfl)) ?_
   refine L0 rfl rfl (E_assign (I 0) rfl (by kernel_rfl)) ?_
   refine XL_nil ?_
   kernel_rfl
  obtain ⟨t6, ht6, h⟩ := of_sI h
  refine V_sreg (mb 37 1024) [] (s1 := ⟨bt 10 (I t6 :: bt 26 []), []⟩) ?_ ?_
  ·refine L0 rfl rfl (E_field (.pt 40 0) Try.underlying43 rfl sz3 rfl (by kernel_rfl) (by intro hh; cases hh)) ?_
   refine L0 rfl rfl (Y0_load1 (c := Ti f1.1) (cs := [Ti f1.2.1, Ti f1.2.2]) sc3 rfl (by kernel_rfl)) ?_
   refine L0 rfl rfl (Y0_mul64 (a := 2) (b := f1.1) rfl (by kernel_rfl) (by kernel_rfl)) ?_
   refine L0 rfl rfl (E_move (I x2) rfl (by kernel_rfl)) ?_
   refine L0 rfl rfl (Y0_mul64 (a := w64 (2 * f1.1)) (b := x2) rfl (by kernel_rfl) (by kernel_rfl)) ?_
   refine L0 rfl rfl (E_move (I u4) rfl (by kernel_rfl)) ?_
   refine L0 rfl rfl (Y0_mul64 (a := w64 ((w64 (2 * f1.1)) * x2)) (b := u4) rfl (by kernel_rfl) (by kernel_rfl)) ?_
   refine L0 rfl rfl (E_field (.pt 40 1) Try.underlying43 rfl sz3 rfl (by kernel_rfl) (by intro hh; cases hh)) ?_
   refine L0 rfl rfl (Y0_load1 (c := Ti f1.2.1) (cs := [Ti f1.2.2]) sc3 rfl (by kernel_rfl)) ?_
   refine L0 rfl rfl (E_move (I x2) rfl (by kernel_rfl)) ?_
   refine L0 rfl rfl (E_move (I v5) rfl (by kernel_rfl)) ?_
   refine L0 rfl rfl (Y0_mul64 (a := x2) (b := v5) rfl (by kernel_rfl) (by kernel_rfl)) ?_
   refine L0 rfl rfl (E_move (I y3) rfl (by kernel_rfl)) ?_
   refine L0 rfl rfl (E_move (I u4) rfl (by kernel_rfl)) ?_
   refine L0 rfl rfl (Y0_mul64 (a := y3) (b := u4) rfl (by kernel_rfl) (by kernel_rfl)) ?_
   refine L0 rfl rfl (Y0_add64 (a := w64 (x2 * v5)) (b := w64 (y3 * u4)) rfl (by kernel_rfl) (by kernel_rfl)) ?_
   refine L0 rfl rfl (Y0_mul64 (a := f1.2.1) (b := w64 ((w64 (x2 * v5)) + (w64 (y3 * u4)))) rfl (by kernel_rfl) (by kernel_rfl)) ?_
   refine L0 rfl rfl (Y0_add64 (a := w64 ((w64 ((w64 (2 * f1.1)) * x2)) * u4)) (b := w64 (f1.2.1 * (w64 ((w64 (x2 * v5)) + (w64 (y3 * u4)))))) rfl (by kernel_rfl) (by kernel_rfl)) ?_
   refine L0 rfl rfl (E_field (.pt 40 2) Try.underlying43 rfl sz3 rfl (by kernel_rfl) (by intro hh; cases hh)) ?_
   refine L0 rfl rfl (Y0_load1 (c := Ti f1.2.2) (cs := []) sc3 rfl (by kernel_rfl)) ?_
   refine L0 rfl rfl (Y0_mul64 (a := 2) (b := f1.2.2) rfl (by kernel_rfl) (by kernel_rfl)) ?_
   refine L0 rfl rfl (E_move (I y3) rfl (by kernel_rfl)) ?_
   refine L0 rfl rfl (Y0_mul64 (a := w64 (2 * f1.2.2)) (b := y3) rfl (by kernel_rfl) (by kernel_rfl)) ?_
   refine L0 rfl rfl (E_move (I v5) rfl (by kernel_rfl)) ?_
   refine L0 rfl rfl (Y0_mul64 (a := w64 ((w64 (2 * f1.2.2)) * y3)) (b := v5) rfl (by kernel_rfl) (by kernel_rfl)) ?_
   refine L0 rfl rfl (Y0_add64 (a := w64 ((w64 ((w64 ((w64 (2 * f1.1)) * x2)) * u4)) + (w64 (f1.2.1 * (w64 ((w64 (x2 * v5)) + (w64 (y3 * u4)))))))) (b := w64 ((w64 ((w64 (2 * f1.2.2)) * y3)) * v5)) rfl (by kernel_rfl) (by kernel_rfl)) ?_
   refine L0 rfl rfl (E_assign (I (w64 ((w64 ((w64 ((w64 ((w64 (2 * f1.1)) * x2)) * u4)) + (w64 (f1.2.1 * (w64 ((w64 (x2 * v5)) + (w64 (y3 * u4)))))))) + (w64 ((w64 ((w64 (2 * f1.2.2)) * y3)) * v5))))) rfl (by kernel_rfl)) ?_
   refine XL_nil ?_
   subst ht6
   kernel_rfl
  refine V_ret ?_
  obtain rfl := some_inj h
  show Post _ _ _ _ _
  exact ⟨.inr rfl, rfl, rfl, rfl⟩
theorem cf_impl_Form_substitute : ∀ args w, (callFunc 134 args).run Try.prog w = .ok (.enter 134 args) w := run_callFunc Try.func134 (by kernel_rfl) (by kernel_rfl)
set_option maxRecDepth 100000 in
set_option maxHeartbeats 400000 in
theorem s_impl_Form_substitute {f1 : (Int × Int × Int)} {vm2 : (Int × Int × Int × Int)} {r : (Int × Int × Int)} (h : r_impl_Form_substitute f1 vm2 = some r) : CallS Try.prog 134 [.ag [Ti f1.1, Ti f1.2.1, Ti f1.2.2], .ag [Ti vm2.1, Ti vm2.2.1, Ti vm2.2.2.1, Ti vm2.2.2.2]] (.ag [Ti r.1, Ti r.2.1, Ti r.2.2]) [] := by
  refine CallS_of_text (rs := [.w 4 3]) (vs := [.cell 4 43]) Try.func134 rfl rfl (.cons ⟨rfl, wd43⟩ FitsL.nil) (by decide) 28 rfl ?_
  unfold r_impl_Form_substitute at h
  show V _ _ ⟨.ag [Ti f1.1, Ti f1.2.1, Ti f1.2.2] :: .ag [Ti vm2.1, Ti vm2.2.1, Ti vm2.2.2.1, Ti vm2.2.2.2] :: bt 26 [], []⟩ _
  refine V_sreg (mb 28 28) [32, 24, 16] (s1 := ⟨.bot :: .bot :: .pt 16 0 :: .pt 24 0 :: .pt 32 0 :: bt 23 [], [(32, .box [Ti 0, Ti 0, Ti 0]), (24, .box [Ti vm2.1, Ti vm2.2.1, Ti vm2.2.2.1, Ti vm2.2.2.2]), (16, .box [Ti f1.1, Ti f1.2.1, Ti f1.2.2])]⟩) ?_ ?_
  ·refine L1 rfl rfl (Y1_box (cs := [Ti f1.1, Ti f1.2.1, Ti f1.2.2]) rfl (by kernel_rfl)) ?_
   refine L1 rfl rfl (Y1_box (cs := [Ti vm2.1, Ti vm2.2.1, Ti vm2.2.2.1, Ti vm2.2.2.2]) rfl (by kernel_rfl)) ?_
   refine L1 rfl rfl (Y1_alloc (z := zv43) rfl zf43 rfl) ?_
   refine XL_nil ?_
   kernel_rfl
  obtain ⟨y3, hy3, h⟩ := of_bind h
  obtain ⟨y4, hy4, h⟩ := of_bind h
  obtain ⟨y5, hy5, h⟩ := of_bind h
  refine V_sdreg [0, 0, 2, 0, 8, 31, 0, 0, 128, 0, 512, 0, 2048, 0, 8192, 32767, 0, 0, 131072, 0, 524288, 2097151, 4194303, 8388607] 23 [[.z, .b, .b, .b, .b, .z, .b, .b, .b, .b, .b, .b, .b, .b, .b, .z, .b, .b, .b, .b, .b, .z, .z], [.b, .z, .z, .b, .b, .z, .b, .b, .b, .b, .b, .b, .b, .b, .b, .z, .b, .b, .b, .b, .b, .z, .z], [.b, .a, .z, .b, .b, .z, .b, .b, .b, .b, .b, .b, .b, .b, .b, .z, .b, .b, .b, .b, .b, .z, .z], [.b, .b, .b, .z, .z, .z, .b, .b, .b, .b, .b, .b, .b, .b, .b, .z, .b, .b, .b, .b, .b, .z, .z], [.b, .b, .b, .a, .z, .z, .b, .b, .b, .b, .b, .b, .b, .b, .b, .z, .b, .b, .b, .b, .b, .z, .z], [.a, .a, .a, .a, .a, .z, .b, .b, .b, .b, .b, .b, .b, .b, .b, .z, .b, .b, .b, .b, .b, .z, .z], [.b, .b, .b, .b, .b, .b, .z, .b, .b, .b, .b, .b, .b, .b, .b, .z, .b, .b, .b, .b, .b, .z, .z], [.b, .b, .b, .b, .b, .b, .b, .z, .z, .b, .b, .b, .b, .b, .b, .z, .b, .b, .b, .b, .b, .z, .z], [.b, .b, .b, .b, .b, .b, .b, .a, .z, .b, .b, .b, .b, .b, .b, .z, .b, .b, .b, .b, .b, .z, .z], [.b, .b, .b, .b, .b, .b, .b, .b, .b, .z, .z, .b, .b, .b, .b, .z, .b, .b, .b, .b, .b, .z, .z], [.b, .b, .b, .b, .b, .b, .b, .b, .b, .a, .z, .b, .b, .b, .b, .z, .b, .b, .b, .b, .b, .z, .z], [.b, .b, .b, .b, .b, .b, .b, .b, .b, .b, .b, .z, .z, .b, .b, .z, .b, .b, .b, .b, .b, .z, .z], [.b, .b, .b, .b, .b, .b, .b, .b, .b, .b, .b, .a, .z, .b, .b, .z, .b, .b, .b, .b, .b, .z, .z], [.b, .b, .b, .b, .b, .b, .b, .b, .b, .b, .b, .b, .b, .z, .z, .z, .b, .b, .b, .b, .b, .z, .z], [.b, .b, .b, .b, .b, .b, .b, .b, .b, .b, .b, .b, .b, .a, .z, .z, .b, .b, .b, .b, .b, .z, .z], [.a, .a, .a, .a, .a, .a, .a, .a, .a, .a, .a, .a, .a, .a, .a, .z, .b, .b, .b, .b, .b, .z, .z], [.b, .b, .b, .b, .b, .b, .b, .b, .b, .b, .b, .b, .b, .b, .b, .b, .z, .b, .b, .b, .b, .z, .z], [.b, .b, .b, .b, .b, .b, .b, .b, .b, .b, .b, .b, .b, .b, .b, .b, .b, .z, .z, .b, .b, .z, .z], [.b, .b, .b, .b, .b, .b, .b, .b, .b, .b, .b, .b, .b, .b, .b, .b, .b, .a, .z, .b, .b, .z, .z], [.b, .b, .b, .b, .b, .b, .b, .b, .b, .b, .b, .b, .b, .b, .b, .b, .b, .b, .b, .z, .z, .z, .z], [.b, .b, .b, .b, .b, .b, .b, .b, .b, .b, .b, .b, .b, .b, .b, .b, .b, .b, .b, .a, .z, .z, .z], [.a, .a, .a, .a, .a, .a, .a, .a, .a, .a, .a, .a, .a, .a, .a, .a, .a, .a, .a, .a, .a, .z, .z], [.a, .a, .a, .a, .a, .a, .a, .a, .a, .a, .a, .a, .a, .a, .a, .a, .a, .a, .a, .a, .a, .a, .z]] (mb 28 16) [32] (s1 := ⟨bt 4 (.pt 32 0 :: bt 23 []), [(32, .box [Ti y3, Ti y4, Ti y5])]⟩) (by kernel_rfl) (by kernel_rfl) ?_ ?_
  ·refine DE_0 0 (.ag [Ti f1.1, Ti f1.2.1, Ti f1.2.2]) (by kernel_rfl) rfl rfl rfl (gsat_none rfl) (by kernel_rfl) (E_loadn (cs := [Ti f1.1, Ti f1.2.1, Ti f1.2.2]) [Ti f1.1, Ti f1.2.1, Ti f1.2.2] wd43 rfl (by kernel_rfl) (Nat.le_of_ble_eq_true rfl) (by kernel_rfl)) 5 rfl ?_
   refine DE_0 1 (.pt 24 0) (by kernel_rfl) rfl rfl rfl (gsat_none rfl) (by kernel_rfl) (E_field (.pt 24 0) Try.underlying99 rfl sz3 rfl (by kernel_rfl) (by intro hh; cases hh)) 6 rfl ?_
   refine DE_0 2 (I vm2.1) (by kernel_rfl) rfl rfl rfl (gsat_none rfl) (by kernel_rfl) (Y0_load1 (c := Ti vm2.1) (cs := [Ti vm2.2.1, Ti vm2.2.2.1, Ti vm2.2.2.2]) sc3 rfl (by kernel_rfl)) 7 rfl ?_
   refine DE_0 3 (.pt 24 2) (by kernel_rfl) rfl rfl rfl (gsat_none rfl) (by kernel_rfl) (E_field (.pt 24 2) Try.underlying99 rfl sz3 rfl (by kernel_rfl) (by intro hh; cases hh)) 8 rfl ?_
   refine DE_0 4 (I vm2.2.2.1) (by kernel_rfl) rfl rfl rfl (gsat_none rfl) (by kernel_rfl) (Y0_load1 (c := Ti vm2.2.2.1) (cs := [Ti vm2.2.2.2]) sc3 rfl (by kernel_rfl)) 9 rfl ?_
   refine DE_1 5 (by kernel_rfl) rfl rfl rfl (gsat_none rfl) (Y1_call (s_impl_Form_at hy3) cf_impl_Form_at rfl (by kernel_rfl)) rfl rfl rfl 10 rfl ?_
   refine DE_0 6 (.ag [Ti f1.1, Ti f1.2.1, Ti f1.2.2]) (by kernel_rfl) rfl rfl rfl (gsat_none rfl) (by kernel_rfl) (E_loadn (cs := [Ti f1.1, Ti f1.2.1, Ti f1.2.2]) [Ti f1.1, Ti f1.2.1, Ti f1.2.2] wd43 rfl (by kernel_rfl) (Nat.le_of_ble_eq_true rfl) (by kernel_rfl)) 11 rfl ?_
   refine DE_0 7 (.pt 24 0) (by kernel_rfl) rfl rfl rfl (gsat_none rfl) (by kernel_rfl) (E_field (.pt 24 0) Try.underlying99 rfl sz3 rfl (by kernel_rfl) (by intro hh; cases hh)) 12 rfl ?_
   refine DE_0 8 (I vm2.1) (by kernel_rfl) rfl rfl rfl (gsat_none rfl) (by kernel_rfl) (Y0_load1 (c := Ti vm2.1) (cs := [Ti vm2.2.1, Ti vm2.2.2.1, Ti vm2.2.2.2]) sc3 rfl (by kernel_rfl)) 13 rfl ?_
   refine DE_0 9 (.pt 24 2) (by kernel_rfl) rfl rfl rfl (gsat_none rfl) (by kernel_rfl) (E_field (.pt 24 2) Try.underlying99 rfl sz3 rfl (by kernel_rfl) (by intro hh; cases hh)) 14 rfl ?_
   refine DE_0 10 (I vm2.2.2.1) (by kernel_rfl) rfl rfl rfl (gsat_none rfl) (by kernel_rfl) (Y0_load1 (c := Ti vm2.2.2.1) (cs := [Ti vm2.2.2.2]) sc3 rfl (by kernel_rfl)) 15 rfl ?_
   refine DE_0 11 (.pt 24 1) (by kernel_rfl) rfl rfl rfl (gsat_none rfl) (by kernel_rfl) (E_field (.pt 24 1) Try.underlying99 rfl sz3 rfl (by kernel_rfl) (by intro hh; cases hh)) 16 rfl ?_
   refine DE_0 12 (I vm2.2.1) (by kernel_rfl) rfl rfl rfl (gsat_none rfl) (by kernel_rfl) (Y0_load1 (c := Ti vm2.2.1) (cs := [Ti vm2.2.2.1, Ti vm2.2.2.2]) sc3 rfl (by kernel_rfl)) 17 rfl ?_
   refine DE_0 13 (.pt 24 3) (by kernel_rfl) rfl rfl rfl (gsat_none rfl) (by kernel_rfl) (E_field (.pt 24 3) Try.underlying99 rfl sz3 rfl (by kernel_rfl) (by intro hh; cases hh)) 18 rfl ?_
   refine DE_0 14 (I vm2.2.2.2) (by kernel_rfl) rfl rfl rfl (gsat_none rfl) (by kernel_rfl) (Y0_load1 (c := Ti vm2.2.2.2) (cs := []) sc3 rfl (by kernel_rfl)) 19 rfl ?_
   refine DE_1 15 (by kernel_rfl) rfl rfl rfl (gsat_none rfl) (Y1_call (s_impl_Form_polar hy4) cf_impl_Form_polar rfl (by kernel_rfl)) rfl rfl rfl 20 rfl ?_
   refine DE_0 16 (.ag [Ti f1.1, Ti f1.2.1, Ti f1.2.2]) (by kernel_rfl) rfl rfl rfl (gsat_none rfl) (by kernel_rfl) (E_loadn (cs := [Ti f1.1, Ti f1.2.1, Ti f1.2.2]) [Ti f1.1, Ti f1.2.1, Ti f1.2.2] wd43 rfl (by kernel_rfl) (Nat.le_of_ble_eq_true rfl) (by kernel_rfl)) 21 rfl ?_
   refine DE_0 17 (.pt 24 1) (by kernel_rfl) rfl rfl rfl (gsat_none rfl) (by kernel_rfl) (E_field (.pt 24 1) Try.underlying99 rfl sz3 rfl (by kernel_rfl) (by intro hh; cases hh)) 22 rfl ?_
   refine DE_0 18 (I vm2.2.1) (by kernel_rfl) rfl rfl rfl (gsat_none rfl) (by kernel_rfl) (Y0_load1 (c := Ti vm2.2.1) (cs := [Ti vm2.2.2.1, Ti vm2.2.2.2]) sc3 rfl (by kernel_rfl)) 23 rfl ?_
   refine DE_0 19 (.pt 24 3) (by kernel_rfl) rfl rfl rfl (gsat_none rfl) (by kernel_rfl) (E_field (.pt 24 3) Try.underlying99 rfl sz3 rfl (by kernel_rfl) (by intro hh; cases hh)) 24 rfl ?_
   refine DE_0 20 (I vm2.2.2.2) (by kernel_rfl) rfl rfl rfl (gsat_none rfl) (by kernel_rfl) (Y0_load1 (c := Ti vm2.2.2.2) (cs := []) sc3 rfl (by kernel_rfl)) 25 rfl ?_
   refine DE_1 21 (by kernel_rfl) rfl rfl rfl (gsat_none rfl) (Y1_call (s_impl_Form_at hy5) cf_impl_Form_at rfl (by kernel_rfl)) rfl rfl rfl 26 rfl ?_
   refine DE_0 22 (.ag [Ti y3, Ti y4, Ti y5]) (by kernel_rfl) rfl rfl rfl (gsat_none rfl) (by kernel_rfl) (Y0_build (cs := [Ti y3, Ti y4, Ti y5]) pl43 bt43 rfl rfl (by kernel_rfl)) 27 rfl ?_
   refine DL_nil (by kernel_rfl) ?_
   refine XL_cons rfl (E_store (id := 32) (off := 0) (cs := [Ti 0, Ti 0, Ti 0]) (vc := [Ti y3, Ti y4, Ti y5]) [Ti y3, Ti y4, Ti y5] rfl rfl (by kernel_rfl) (by kernel_rfl) (by kernel_rfl) sz43 (Nat.le_of_ble_eq_true rfl) (by kernel_rfl)) ?_
   refine XL_nil ?_
   kernel_rfl
  refine V_ret ?_
  obtain rfl := some_inj h
  show Post _ _ _ _ _
  exact ⟨.inr rfl, rfl, rfl, rfl⟩
theorem cf_impl_Matrix_times : ∀ args w, (callFunc 135 args).run Try.prog w = .ok (.enter 135 args) w := run_callFunc Try.func135 (by kernel_rfl) (by kernel_rfl)
set_option maxRecDepth 100000 in
set_option maxHeartbeats 400000 in
theorem s_impl_Matrix_times {vm1 : (Int × Int × Int × Int)} {vn2 : (Int × Int × Int × Int)} {r : (Int × Int × Int × Int)} (h : r_impl_Matrix_times vm1 vn2 = some r) : CallS Try.prog 135 [.ag [Ti vm1.1, Ti vm1.2.1, Ti vm1.2.2.1, Ti vm1.2.2.2], .ag [Ti vn2.1, Ti vn2.2.1, Ti vn2.2.2.1, Ti vn2.2.2.2]] (.ag [Ti r.1, Ti r.2.1, Ti r.2.2.1, Ti r.2.2.2]) [] := by
  refine CallS_of_text (rs := [.w 4 4]) (vs := [.cell 4 99]) Try.func135 rfl rfl (.cons ⟨rfl, wd99⟩ FitsL.nil) (by decide) 50 rfl ?_
  unfold r_impl_Matrix_times at h
  show V _ _ ⟨.ag [Ti vm1.1, Ti vm1.2.1, Ti vm1.2.2.1, Ti vm1.2.2.2] :: .ag [Ti vn2.1, Ti vn2.2.1, Ti vn2.2.2.1, Ti vn2.2.2.2] :: bt 48 [], []⟩ _
  refine V_sreg (mb 50 28) [32, 24, 16] (s1 := ⟨.bot :: .bot :: .pt 16 0 :: .pt 24 0 :: .pt 32 0 :: bt 45 [], [(32, .box [Ti 0, Ti 0, Ti 0, Ti 0]), (24, .box [Ti vn2.1, Ti vn2.2.1, Ti vn2.2.2.1, Ti vn2.2.2.2]), (16, .box [Ti vm1.1, Ti vm1.2.1, Ti vm1.2.2.1, Ti vm1.2.2.2])]⟩) ?_ ?_
  ·refine L1 rfl rfl (Y1_box (cs := [Ti vm1.1, Ti vm1.2.1, Ti vm1.2.2.1, Ti vm1.2.2.2]) rfl (by kernel_rfl)) ?_
   refine L1 rfl rfl (Y1_box (cs := [Ti vn2.1, Ti vn2.2.1, Ti vn2.2.2.1, Ti vn2.2.2.2]) rfl (by kernel_rfl)) ?_
   refine L1 rfl rfl (Y1_alloc (z := zv99) rfl zf99 rfl) ?_
   refine XL_nil ?_
   kernel_rfl
  obtain ⟨f3, hf3, h⟩ := of_sI h
  obtain ⟨f4, hf4, h⟩ := of_sI h
  obtain ⟨f5, hf5, h⟩ := of_sI h
  obtain ⟨f6, hf6, h⟩ := of_sI h
  refine V_sreg (mb 50 16) [32] (s1 := ⟨bt 4 (.pt 32 0 :: bt 45 []), [(32, .box [Ti f3, Ti f4, Ti f5, Ti f6])]⟩) ?_ ?_
  ·refine L0 rfl rfl (E_field (.pt 16 0) Try.underlying99 rfl sz3 rfl (by kernel_rfl) (by intro hh; cases hh)) ?_
   refine L0 rfl rfl (Y0_load1 (c := Ti vm1.1) (cs := [Ti vm1.2.1, Ti vm1.2.2.1, Ti vm1.2.2.2]) sc3 rfl (by kernel_rfl)) ?_
   refine L0 rfl rfl (E_field (.pt 24 0) Try.underlying99 rfl sz3 rfl (by kernel_rfl) (by intro hh; cases hh)) ?_
   refine L0 rfl rfl (Y0_load1 (c := Ti vn2.1) (cs := [Ti vn2.2.1, Ti vn2.2.2.1, Ti vn2.2.2.2]) sc3 rfl (by kernel_rfl)) ?_
   refine L0 rfl rfl (Y0_mul64 (a := vm1.1) (b := vn2.1) rfl (by kernel_rfl) (by kernel_rfl)) ?_
   refine L0 rfl rfl (E_field (.pt 16 1) Try.underlying99 rfl sz3 rfl (by kernel_rfl) (by intro hh; cases hh)) ?_
   refine L0 rfl rfl (Y0_load1 (c := Ti vm1.2.1) (cs := [Ti vm1.2.2.1, Ti vm1.2.2.2]) sc3 rfl (by kernel_rfl)) ?_
   refine L0 rfl rfl (E_field (.pt 24 2) Try.underlying99 rfl sz3 rfl (by kernel_rfl) (by intro hh; cases hh)) ?_
   refine L0 rfl rfl (Y0_load1 (c := Ti vn2.2.2.1) (cs := [Ti vn2.2.2.2]) sc3 rfl (by kernel_rfl)) ?_
   refine L0 rfl rfl (Y0_mul64 (a := vm1.2.1) (b := vn2.2.2.1) rfl (by kernel_rfl) (by kernel_rfl)) ?_
   refine L0 rfl rfl (Y0_add64 (a := w64 (vm1.1 * vn2.1)) (b := w64 (vm1.2.1 * vn2.2.2.1)) rfl (by kernel_rfl) (by kernel_rfl)) ?_
   refine L0 rfl rfl (E_field (.pt 16 0) Try.underlying99 rfl sz3 rfl (by kernel_rfl) (by intro hh; cases hh)) ?_
   refine L0 rfl rfl (Y0_load1 (c := Ti vm1.1) (cs := [Ti vm1.2.1, Ti vm1.2.2.1, Ti vm1.2.2.2]) sc3 rfl (by kernel_rfl)) ?_
   refine L0 rfl rfl (E_field (.pt 24 1) Try.underlying99 rfl sz3 rfl (by kernel_rfl) (by intro hh; cases hh)) ?_
   refine L0 rfl rfl (Y0_load1 (c := Ti vn2.2.1) (cs := [Ti vn2.2.2.1, Ti vn2.2.2.2]) sc3 rfl (by kernel_rfl)) ?_
   refine L0 rfl rfl (Y0_mul64 (a := vm1.1) (b := vn2.2.1) rfl (by kernel_rfl) (by kernel_rfl)) ?_
   refine L0 rfl rfl (E_field (.pt 16 1) Try.underlying99 rfl sz3 rfl (by kernel_rfl) (by intro hh; cases hh)) ?_
   refine L0 rfl rfl (Y0_load1 (c := Ti vm1.2.1) (cs := [Ti vm1.2.2.1, Ti vm1.2.2.2]) sc3 rfl (by kernel_rfl)) ?_
   refine L0 rfl rfl (E_field (.pt 24 3) Try.underlying99 rfl sz3 rfl (by kernel_rfl) (by intro hh; cases hh)) ?_
   refine L0 rfl rfl (Y0_load1 (c := Ti vn2.2.2.2) (cs := []) sc3 rfl (by kernel_rfl)) ?_
   refine L0 rfl rfl (Y0_mul64 (a := vm1.2.1) (b := vn2.2.2.2) rfl (by kernel_rfl) (by kernel_rfl)) ?_
   refine L0 rfl rfl (Y0_add64 (a := w64 (vm1.1 * vn2.2.1)) (b := w64 (vm1.2.1 * vn2.2.2.2)) rfl (by kernel_rfl) (by kernel_rfl)) ?_
   refine L0 rfl rfl (E_field (.pt 16 2) Try.underlying99 rfl sz3 rfl (by kernel_rfl) (by intro hh; cases hh)) ?_
   refine L0 rfl rfl (Y0_load1 (c := Ti vm1.2.2.1) (cs := [Ti vm1.2.2.2]) sc3 rfl (by kernel_rfl)) ?_
   refine L0 rfl rfl (E_field (.pt 24 0) Try.underlying99 rfl sz3 rfl (by kernel_rfl) (by intro hh; cases hh)) ?_
   refine L0 rfl rfl (Y0_load1 (c := Ti vn2.1) (cs := [Ti vn2.2.1, Ti vn2.2.2.1, Ti vn2.2.2.2]) sc3 rfl (by kernel_rfl)) ?_
   refine L0 rfl rfl (Y0_mul64 (a := vm1.2.2.1) (b := vn2.1) rfl (by kernel_rfl) (by kernel_rfl)) ?_
   refine L0 rfl rfl (E_field (.pt 16 3) Try.underlying99 rfl sz3 rfl (by kernel_rfl) (by intro hh; cases hh)) ?_
   refine L0 rfl rfl (Y0_load1 (c := Ti vm1.2.2.2) (cs := []) sc3 rfl (by kernel_rfl)) ?_
   refine L0 rfl rfl (E_field (.pt 24 2) Try.underlying99 rfl sz3 rfl (by kernel_rfl) (by intro hh; cases hh)) ?_
   refine L0 rfl rfl (Y0_load1 (c := Ti vn2.2.2.1) (cs := [Ti vn2.2.2.2]) sc3 rfl (by kernel_rfl)) ?_
   refine L0 rfl rfl (Y0_mul64 (a := vm1.2.2.2) (b := vn2.2.2.1) rfl (by kernel_rfl) (by kernel_rfl)) ?_
   refine L0 rfl rfl (Y0_add64 (a := w64 (vm1.2.2.1 * vn2.1)) (b := w64 (vm1.2.2.2 * vn2.2.2.1)) rfl (by kernel_rfl) (by kernel_rfl)) ?_
   refine L0 rfl rfl (E_field (.pt 16 2) Try.underlying99 rfl sz3 rfl (by kernel_rfl) (by intro hh; cases hh)) ?_
   refine L0 rfl rfl (Y0_load1 (c := Ti vm1.2.2.1) (cs := [Ti vm1.2.2.2]) sc3 rfl (by kernel_rfl)) ?_
   refine L0 rfl rfl (E_field (.pt 24 1) Try.underlying99 rfl sz3 rfl (by kernel_rfl) (by intro hh; cases hh)) ?_
   refine L0 rfl rfl (Y0_load1 (c := Ti vn2.2.1) (cs := [Ti vn2.2.2.1, Ti vn2.2.2.2]) sc3 rfl (by kernel_rfl)) ?_
   refine L0 rfl rfl (Y0_mul64 (a := vm1.2.2.1) (b := vn2.2.1) rfl (by kernel_rfl) (by kernel_rfl)) ?_
   refine L0 rfl rfl (E_field (.pt 16 3) Try.underlying99 rfl sz3 rfl (by kernel_rfl) (by intro hh; cases hh)) ?_
   refine L0 rfl rfl (Y0_load1 (c := Ti vm1.2.2.2) (cs := []) sc3 rfl (by kernel_rfl)) ?_
   refine L0 rfl rfl (E_field (.pt 24 3) Try.underlying99 rfl sz3 rfl (by kernel_rfl) (by intro hh; cases hh)) ?_
   refine L0 rfl rfl (Y0_load1 (c := Ti vn2.2.2.2) (cs := []) sc3 rfl (by kernel_rfl)) ?_
   refine L0 rfl rfl (Y0_mul64 (a := vm1.2.2.2) (b := vn2.2.2.2) rfl (by kernel_rfl) (by kernel_rfl)) ?_
   refine L0 rfl rfl (Y0_add64 (a := w64 (vm1.2.2.1 * vn2.2.1)) (b := w64 (vm1.2.2.2 * vn2.2.2.2)) rfl (by kernel_rfl) (by kernel_rfl)) ?_
   refine L0 rfl rfl (Y0_build (cs := [Ti (w64 ((w64 (vm1.1 * vn2.1)) + (w64 (vm1.2.1 * vn2.2.2.1)))), Ti (w64 ((w64 (vm1.1 * vn2.2.1)) + (w64 (vm1.2.1 * vn2.2.2.2)))), Ti (w64 ((w64 (vm1.2.2.1 * vn2.1)) + (w64 (vm1.2.2.2 * vn2.2.2.1)))), Ti (w64 ((w64 (vm1.2.2.1 * vn2.2.1)) + (w64 (vm1.2.2.2 * vn2.2.2.2))))]) pl99 bt99 rfl rfl (by kernel_rfl)) ?_
   refine XL_cons rfl (E_store (id := 32) (off := 0) (cs := [Ti 0, Ti 0, Ti 0, Ti 0]) (vc := [Ti (w64 ((w64 (vm1.1 * vn2.1)) + (w64 (vm1.2.1 * vn2.2.2.1)))), Ti (w64 ((w64 (vm1.1 * vn2.2.1)) + (w64 (vm1.2.1 * vn2.2.2.2)))), Ti (w64 ((w64 (vm1.2.2.1 * vn2.1)) + (w64 (vm1.2.2.2 * vn2.2.2.1)))), Ti (w64 ((w64 (vm1.2.2.1 * vn2.2.1)) + (w64 (vm1.2.2.2 * vn2.2.2.2))))]) [Ti (w64 ((w64 (vm1.1 * vn2.1)) + (w64 (vm1.2.1 * vn2.2.2.1)))), Ti (w64 ((w64 (vm1.1 * vn2.2.1)) + (w64 (vm1.2.1 * vn2.2.2.2)))), Ti (w64 ((w64 (vm1.2.2.1 * vn2.1)) + (w64 (vm1.2.2.2 * vn2.2.2.1)))), Ti (w64 ((w64 (vm1.2.2.1 * vn2.2.1)) + (w64 (vm1.2.2.2 * vn2.2.2.2))))] rfl rfl (by kernel_rfl) (by kernel_rfl) (by kernel_rfl) sz99 (Nat.le_of_ble_eq_true rfl) (by kernel_rfl)) ?_
   refine XL_nil ?_
   subst hf3 hf4 hf5 hf6
   kernel_rfl
  refine V_ret ?_
  obtain rfl := some_inj h
  show Post _ _ _ _ _
  exact ⟨.inr rfl, rfl, rfl, rfl⟩
theorem cf_impl_reduce : ∀ args w, (callFunc 115 args).run Try.prog w = .ok (.enter 115 args) w := run_callFunc Try.func115 (by kernel_rfl) (by kernel_rfl)
set_option maxRecDepth 100000 in
set_option maxHeartbeats 400000 in
theorem s_impl_reduce {f1 : (Int × Int × Int)} {r : (((Int × Int × Int)) × ((Int × Int × Int × Int)))} (h : r_impl_reduce f1 = some r) : CallS Try.prog 115 [.ag [Ti f1.1, Ti f1.2.1, Ti f1.2.2]] (.tc (.ag [Ti r.1.1, Ti r.1.2.1, Ti r.1.2.2]) (.tc (.ag [Ti r.2.1, Ti r.2.2.1, Ti r.2.2.2.1, Ti r.2.2.2.2]) .tn)) [] := by
  refine CallS_of_text (rs := [.w 2 3, .w 3 4]) (vs := [.cell 2 43, .cell 3 99]) Try.func115 rfl rfl (.cons ⟨rfl, wd43⟩ (.cons ⟨rfl, wd99⟩ FitsL.nil)) (by decide) 20 rfl ?_
  unfold r_impl_reduce at h
  show V _ _ ⟨.ag [Ti f1.1, Ti f1.2.1, Ti f1.2.2] :: bt 19 [], []⟩ _
  refine V_sreg (mb 20 14) [24, 16, 8] (s1 := ⟨.bot :: .pt 8 0 :: .pt 16 0 :: .pt 24 0 :: bt 16 [], [(24, .box [Ti 0, Ti 0, Ti 0, Ti 0]), (16, .box [Ti 0, Ti 0, Ti 0]), (8, .box [Ti f1.1, Ti f1.2.1, Ti f1.2.2])]⟩) ?_ ?_
  ·refine L1 rfl rfl (Y1_box (cs := [Ti f1.1, Ti f1.2.1, Ti f1.2.2]) rfl (by kernel_rfl)) ?_
   refine L1 rfl rfl (Y1_alloc (z := zv43) rfl zf43 rfl) ?_
   refine L1 rfl rfl (Y1_alloc (z := zv99) rfl zf99 rfl) ?_
   refine XL_nil ?_
   kernel_rfl
  obtain ⟨y2, hy2, h⟩ := of_bind h
  refine V_sreg (mb 20 30) [32, 24, 16, 8] (s1 := ⟨.bot :: .pt 8 0 :: .pt 16 0 :: .pt 24 0 :: .pt 32 0 :: bt 15 [], [(32, .box [Ti y2.1, Ti y2.2.1, Ti y2.2.2.1, Ti y2.2.2.2]), (24, .box [Ti 0, Ti 0, Ti 0, Ti 0]), (16, .box [Ti 0, Ti 0, Ti 0]), (8, .box [Ti f1.1, Ti f1.2.1, Ti f1.2.2])]⟩) ?_ ?_
  ·refine L1 rfl rfl (Y1_call (s_impl_one hy2) cf_impl_one rfl (by kernel_rfl)) ?_
   refine L1 rfl rfl (Y1_alloc (z := zv99) rfl zf99 rfl) ?_
   refine XL_cons rfl (E_store (id := 32) (off := 0) (cs := [Ti 0, Ti 0, Ti 0, Ti 0]) (vc := [Ti y2.1, Ti y2.2.1, Ti y2.2.2.1, Ti y2.2.2.2]) [Ti y2.1, Ti y2.2.1, Ti y2.2.2.1, Ti y2.2.2.2] rfl rfl (by kernel_rfl) (by kernel_rfl) (by kernel_rfl) sz99 (Nat.le_of_ble_eq_true rfl) (by kernel_rfl)) ?_
   refine XL_nil ?_
   kernel_rfl
  refine V_seq ?_
  obtain ⟨o11, hLo11, h⟩ := of_bind h
  refine V_toK (mb 20 30) [32, 24, 16, 8] (s1 := ⟨.bot :: .pt 8 0 :: .pt 16 0 :: .pt 24 0 :: .pt 32 0 :: bt 15 [], [(32, .box [Ti o11.1, Ti o11.2.1, Ti o11.2.2.1, Ti o11.2.2.2.1]), (24, .box [Ti 0, Ti 0, Ti 0, Ti 0]), (16, .box [Ti 0, Ti 0, Ti 0]), (8, .box [Ti o11.2.2.2.2.1, Ti o11.2.2.2.2.2.1, Ti o11.2.2.2.2.2.2])]⟩) ?_ ?_
  ·clear h
   refine V_block (V_loop (fun n s => ∃ (f3 : Int) (f4 : Int) (f5 : Int) (f6 : Int) (f7 : Int) (f8 : Int) (f9 : Int), s.keep (mb 20 30) [32, 24, 16, 8] = (⟨.bot :: .pt 8 0 :: .pt 16 0 :: .pt 24 0 :: .pt 32 0 :: bt 15 [], [(32, .box [Ti f3, Ti f4, Ti f5, Ti f6]), (24, .box [Ti 0, Ti 0, Ti 0, Ti 0]), (16, .box [Ti 0, Ti 0, Ti 0]), (8, .box [Ti f7, Ti f8, Ti f9])]⟩ : St) ∧ r_impl_reduce_L10 n f3 f4 f5 f6 f7 f8 f9 = some o11) FU ⟨_, _, _, _, _, _, _,  by rfl, hLo11⟩ ?_)
   clear hLo11
   rintro n s ⟨f3, f4, f5, f6, f7, f8, f9, hs, h⟩
   refine V_keep _ _ hs ?_
   clear hs
   cases n with
   | zero => cases h
   | succ n =>
    rw [r_impl_reduce_L10] at h
    refine V_seq ?_
    obtain ⟨y12, hy12, h⟩ := of_bind h
    refine V_sreg (mb 20 542) [32, 24, 16, 8] (s1 := ⟨.bot :: .pt 8 0 :: .pt 16 0 :: .pt 24 0 :: .pt 32 0 :: bt 4 (Bo (!y12) :: bt 10 []), [(32, .box [Ti f3, Ti f4, Ti f5, Ti f6]), (24, .box [Ti 0, Ti 0, Ti 0, Ti 0]), (16, .box [Ti 0, Ti 0, Ti 0]), (8, .box [Ti f7, Ti f8, Ti f9])]⟩) ?_ ?_
    ·refine L0 rfl rfl (E_loadn (cs := [Ti f7, Ti f8, Ti f9]) [Ti f7, Ti f8, Ti f9] wd43 rfl (by kernel_rfl) (Nat.le_of_ble_eq_true rfl) (by kernel_rfl)) ?_
     refine L1 rfl rfl (Y1_call (s_impl_Form_isReduced hy12) cf_impl_Form_isReduced rfl (by kernel_rfl)) ?_
     refine L0 rfl rfl (Y0_not (b := y12) rfl (by kernel_rfl)) ?_
     refine XL_nil ?_
     kernel_rfl
    refine V_cond rfl (fun hc13 => ?_) (fun hc13 => ?_)
    ·have h := of_true h hc13
     refine V_skip ?_
     show V _ _ _ _
     refine V_block ?_
     obtain ⟨y14, hy14, h⟩ := of_bind h
     refine V_sreg (mb 20 62) [40, 32, 24, 16, 8] (s1 := ⟨.bot :: .pt 8 0 :: .pt 16 0 :: .pt 24 0 :: .pt 32 0 :: .pt 40 0 :: bt 14 [], [(40, .box [Ti y14.1, Ti y14.2.1, Ti y14.2.2.1, Ti y14.2.2.2]), (32, .box [Ti f3, Ti f4, Ti f5, Ti f6]), (24, .box [Ti 0, Ti 0, Ti 0, Ti 0]), (16, .box [Ti 0, Ti 0, Ti 0]), (8, .box [Ti f7, Ti f8, Ti f9])]⟩) ?_ ?_
     ·refine L0 rfl rfl (E_loadn (cs := [Ti f7, Ti f8, Ti f9]) [Ti f7, Ti f8, Ti f9] wd43 rfl (by kernel_rfl) (Nat.le_of_ble_eq_true rfl) (by kernel_rfl)) ?_
      refine L1 rfl rfl (Y1_call (s_impl_Form_step hy14) cf_impl_Form_step rfl (by kernel_rfl)) ?_
      refine L1 rfl rfl (Y1_alloc (z := zv99) rfl zf99 rfl) ?_
      refine XL_cons rfl (E_store (id := 40) (off := 0) (cs := [Ti 0, Ti 0, Ti 0, Ti 0]) (vc := [Ti y14.1, Ti y14.2.1, Ti y14.2.2.1, Ti y14.2.2.2]) [Ti y14.1, Ti y14.2.1, Ti y14.2.2.1, Ti y14.2.2.2] rfl rfl (by kernel_rfl) (by kernel_rfl) (by kernel_rfl) sz99 (Nat.le_of_ble_eq_true rfl) (by kernel_rfl)) ?_
      refine XL_nil ?_
      kernel_rfl
     obtain ⟨y15, hy15, h⟩ := of_bind h
     refine V_sreg (mb 20 62) [40, 32, 24, 16, 8] (s1 := ⟨.bot :: .pt 8 0 :: .pt 16 0 :: .pt 24 0 :: .pt 32 0 :: .pt 40 0 :: bt 14 [], [(40, .box [Ti y14.1, Ti y14.2.1, Ti y14.2.2.1, Ti y14.2.2.2]), (32, .box [Ti f3, Ti f4, Ti f5, Ti f6]), (24, .box [Ti 0, Ti 0, Ti 0, Ti 0]), (16, .box [Ti 0, Ti 0, Ti 0]), (8, .box [Ti y15.1, Ti y15.2.1, Ti y15.2.2])]⟩) ?_ ?_
     ·refine L0 rfl rfl (E_loadn (cs := [Ti f7, Ti f8, Ti f9]) [Ti f7, Ti f8, Ti f9] wd43 rfl (by kernel_rfl) (Nat.le_of_ble_eq_true rfl) (by kernel_rfl)) ?_
      refine L0 rfl rfl (E_loadn (cs := [Ti y14.1, Ti y14.2.1, Ti y14.2.2.1, Ti y14.2.2.2]) [Ti y14.1, Ti y14.2.1, Ti y14.2.2.1, Ti y14.2.2.2] wd99 rfl (by kernel_rfl) (Nat.le_of_ble_eq_true rfl) (by kernel_rfl)) ?_
      refine L1 rfl rfl (Y1_call (s_impl_Form_substitute hy15) cf_impl_Form_substitute rfl (by kernel_rfl)) ?_
      refine XL_cons rfl (E_store (id := 8) (off := 0) (cs := [Ti f7, Ti f8, Ti f9]) (vc := [Ti y15.1, Ti y15.2.1, Ti y15.2.2]) [Ti y15.1, Ti y15.2.1, Ti y15.2.2] rfl rfl (by kernel_rfl) (by kernel_rfl) (by kernel_rfl) sz43 (Nat.le_of_ble_eq_true rfl) (by kernel_rfl)) ?_
      refine XL_nil ?_
      kernel_rfl
     obtain ⟨y16, hy16, h⟩ := of_bind h
     refine V_reg (mb 20 30) [32, 24, 16, 8] (s1 := ⟨.bot :: .pt 8 0 :: .pt 16 0 :: .pt 24 0 :: .pt 32 0 :: bt 15 [], [(32, .box [Ti y16.1, Ti y16.2.1, Ti y16.2.2.1, Ti y16.2.2.2]), (24, .box [Ti 0, Ti 0, Ti 0, Ti 0]), (16, .box [Ti 0, Ti 0, Ti 0]), (8, .box [Ti y15.1, Ti y15.2.1, Ti y15.2.2])]⟩) ?_ ?_
     ·refine L0 rfl rfl (E_loadn (cs := [Ti f3, Ti f4, Ti f5, Ti f6]) [Ti f3, Ti f4, Ti f5, Ti f6] wd99 rfl (by kernel_rfl) (Nat.le_of_ble_eq_true rfl) (by kernel_rfl)) ?_
      refine L0 rfl rfl (E_loadn (cs := [Ti y14.1, Ti y14.2.1, Ti y14.2.2.1, Ti y14.2.2.2]) [Ti y14.1, Ti y14.2.1, Ti y14.2.2.1, Ti y14.2.2.2] wd99 rfl (by kernel_rfl) (Nat.le_of_ble_eq_true rfl) (by kernel_rfl)) ?_
      refine L1 rfl rfl (Y1_call (s_impl_Matrix_times hy16) cf_impl_Matrix_times rfl (by kernel_rfl)) ?_
      refine XL_cons rfl (E_store (id := 32) (off := 0) (cs := [Ti f3, Ti f4, Ti f5, Ti f6]) (vc := [Ti y16.1, Ti y16.2.1, Ti y16.2.2.1, Ti y16.2.2.2]) [Ti y16.1, Ti y16.2.1, Ti y16.2.2.1, Ti y16.2.2.2] rfl rfl (by kernel_rfl) (by kernel_rfl) (by kernel_rfl) sz99 (Nat.le_of_ble_eq_true rfl) (by kernel_rfl)) ?_
      refine XL_nil ?_
      kernel_rfl
     exact ⟨n, Nat.lt_succ_self n, _, _, _, _, _, _, _,  by rfl, h⟩
    ·have h := of_false h hc13
     refine V_exit ?_
     obtain rfl := some_inj h
     show St.keep _ _ _ = _
     rfl
  show V _ _ _ _
  refine V_sdreg [0, 0, 1, 7] 3 [[.z, .b, .z], [.b, .z, .r 16], [.a, .b, .z]] (mb 20 12) [24, 16] (s1 := ⟨.bot :: .bot :: .pt 16 0 :: .pt 24 0 :: bt 16 [], [(24, .box [Ti o11.1, Ti o11.2.1, Ti o11.2.2.1, Ti o11.2.2.2.1]), (16, .box [Ti o11.2.2.2.2.1, Ti o11.2.2.2.2.2.1, Ti o11.2.2.2.2.2.2])]⟩) (by kernel_rfl) (by kernel_rfl) ?_ ?_
  ·refine DE_0 0 (.ag [Ti o11.2.2.2.2.1, Ti o11.2.2.2.2.2.1, Ti o11.2.2.2.2.2.2]) (by kernel_rfl) rfl rfl rfl (gsat_none rfl) (by kernel_rfl) (E_loadn (cs := [Ti o11.2.2.2.2.1, Ti o11.2.2.2.2.2.1, Ti o11.2.2.2.2.2.2]) [Ti o11.2.2.2.2.1, Ti o11.2.2.2.2.2.1, Ti o11.2.2.2.2.2.2] wd43 rfl (by kernel_rfl) (Nat.le_of_ble_eq_true rfl) (by kernel_rfl)) 18 rfl ?_
   refine DE_0 1 (.ag [Ti o11.1, Ti o11.2.1, Ti o11.2.2.1, Ti o11.2.2.2.1]) (by kernel_rfl) rfl rfl rfl (gsat_none rfl) (by kernel_rfl) (E_loadn (cs := [Ti o11.1, Ti o11.2.1, Ti o11.2.2.1, Ti o11.2.2.2.1]) [Ti o11.1, Ti o11.2.1, Ti o11.2.2.1, Ti o11.2.2.2.1] wd99 rfl (by kernel_rfl) (Nat.le_of_ble_eq_true rfl) (by kernel_rfl)) 19 rfl ?_
   refine DE_2 (off := 0) (cs := [Ti 0, Ti 0, Ti 0]) (vc := [Ti o11.2.2.2.2.1, Ti o11.2.2.2.2.2.1, Ti o11.2.2.2.2.2.2]) 2 16 [Ti o11.2.2.2.2.1, Ti o11.2.2.2.2.2.1, Ti o11.2.2.2.2.2.2] (by kernel_rfl) rfl rfl rfl (gsat_none rfl) rfl rfl (by kernel_rfl) (by kernel_rfl) (by kernel_rfl) sz43 (Nat.le_of_ble_eq_true rfl) (by kernel_rfl) (by kernel_rfl) (by kernel_rfl) (by kernel_rfl) ?_
   refine DL_nil (by kernel_rfl) ?_
   refine XL_cons rfl (E_store (id := 24) (off := 0) (cs := [Ti 0, Ti 0, Ti 0, Ti 0]) (vc := [Ti o11.1, Ti o11.2.1, Ti o11.2.2.1, Ti o11.2.2.2.1]) [Ti o11.1, Ti o11.2.1, Ti o11.2.2.1, Ti o11.2.2.2.1] rfl rfl (by kernel_rfl) (by kernel_rfl) (by kernel_rfl) sz99 (Nat.le_of_ble_eq_true rfl) (by kernel_rfl)) ?_
   refine XL_nil ?_
   kernel_rfl
  refine V_ret ?_
  obtain rfl := some_inj h
  show Post _ _ _ _ _
  exact ⟨.inr rfl, rfl, rfl, rfl⟩
theorem cf_impl_reduced : ∀ args w, (callFunc 79 args).run Try.prog w = .ok (.enter 79 args) w := run_callFunc Try.func79 (by kernel_rfl) (by kernel_rfl)
set_option maxRecDepth 100000 in
set_option maxHeartbeats 400000 in
theorem s_impl_reduced {f1 : (Int × Int × Int)} {r : (Int × Int × Int)} (h : r_impl_reduced f1 = some r) : CallS Try.prog 79 [.ag [Ti f1.1, Ti f1.2.1, Ti f1.2.2]] (.ag [Ti r.1, Ti r.2.1, Ti r.2.2]) [] := by
  refine CallS_of_text (rs := [.w 2 3]) (vs := [.cell 2 43]) Try.func79 rfl rfl (.cons ⟨rfl, wd43⟩ FitsL.nil) (by decide) 11 rfl ?_
  unfold r_impl_reduced at h
  show V _ _ ⟨.ag [Ti f1.1, Ti f1.2.1, Ti f1.2.2] :: bt 10 [], []⟩ _
  refine V_sreg (mb 11 6) [16, 8] (s1 := ⟨.bot :: .pt 8 0 :: .pt 16 0 :: bt 8 [], [(16, .box [Ti 0, Ti 0, Ti 0]), (8, .box [Ti f1.1, Ti f1.2.1, Ti f1.2.2])]⟩) ?_ ?_
  ·refine L1 rfl rfl (Y1_box (cs := [Ti f1.1, Ti f1.2.1, Ti f1.2.2]) rfl (by kernel_rfl)) ?_
   refine L1 rfl rfl (Y1_alloc (z := zv43) rfl zf43 rfl) ?_
   refine XL_nil ?_
   kernel_rfl
  obtain ⟨y2, hy2, h⟩ := of_bind h
  refine V_sreg (mb 11 12) [24, 16] (s1 := ⟨.bot :: .bot :: .pt 16 0 :: .pt 24 0 :: bt 7 [], [(24, .box [Ti y2.1.1, Ti y2.1.2.1, Ti y2.1.2.2]), (16, .box [Ti 0, Ti 0, Ti 0])]⟩) ?_ ?_
  ·refine L0 rfl rfl (E_loadn (cs := [Ti f1.1, Ti f1.2.1, Ti f1.2.2]) [Ti f1.1, Ti f1.2.1, Ti f1.2.2] wd43 rfl (by kernel_rfl) (Nat.le_of_ble_eq_true rfl) (by kernel_rfl)) ?_
   refine L1 rfl rfl (Y1_call (s_impl_reduce hy2) cf_impl_reduce rfl (by kernel_rfl)) ?_
   refine L0 rfl rfl (E_move (.tc (.ag [Ti y2.1.1, Ti y2.1.2.1, Ti y2.1.2.2]) (.tc (.ag [Ti y2.2.1, Ti y2.2.2.1, Ti y2.2.2.2.1, Ti y2.2.2.2.2]) .tn)) rfl (by kernel_rfl)) ?_
   refine L0 rfl rfl (E_ext (n := 0) (.ag [Ti y2.1.1, Ti y2.1.2.1, Ti y2.1.2.2]) (.tc (.ag [Ti y2.2.1, Ti y2.2.2.1, Ti y2.2.2.2.1, Ti y2.2.2.2.2]) .tn) (.ag [Ti y2.1.1, Ti y2.1.2.1, Ti y2.1.2.2]) rfl (by kernel_rfl) (by kernel_rfl) (by intro hh; cases hh)) ?_
   refine L0 rfl rfl (E_ext (n := 1) (.ag [Ti y2.1.1, Ti y2.1.2.1, Ti y2.1.2.2]) (.tc (.ag [Ti y2.2.1, Ti y2.2.2.1, Ti y2.2.2.2.1, Ti y2.2.2.2.2]) .tn) (.ag [Ti y2.2.1, Ti y2.2.2.1, Ti y2.2.2.2.1, Ti y2.2.2.2.2]) rfl (by kernel_rfl) (by kernel_rfl) (by intro hh; cases hh)) ?_
   refine L1 rfl rfl (Y1_alloc (z := zv43) rfl zf43 rfl) ?_
   refine L1 rfl rfl (Y1_alloc (z := zv99) rfl zf99 rfl) ?_
   refine XL_cons rfl (E_store (id := 24) (off := 0) (cs := [Ti 0, Ti 0, Ti 0]) (vc := [Ti y2.1.1, Ti y2.1.2.1, Ti y2.1.2.2]) [Ti y2.1.1, Ti y2.1.2.1, Ti y2.1.2.2] rfl rfl (by kernel_rfl) (by kernel_rfl) (by kernel_rfl) sz43 (Nat.le_of_ble_eq_true rfl) (by kernel_rfl)) ?_
   refine XL_cons rfl (E_store (id := 32) (off := 0) (cs := [Ti 0, Ti 0, Ti 0, Ti 0]) (vc := [Ti y2.2.1, Ti y2.2.2.1, Ti y2.2.2.2.1, Ti y2.2.2.2.2]) [Ti y2.2.1, Ti y2.2.2.1, Ti y2.2.2.2.1, Ti y2.2.2.2.2] rfl rfl (by kernel_rfl) (by kernel_rfl) (by kernel_rfl) sz99 (Nat.le_of_ble_eq_true rfl) (by kernel_rfl)) ?_
   refine XL_nil ?_
   kernel_rfl
  refine V_sreg (mb 11 4) [16] (s1 := ⟨.bot :: .bot :: .pt 16 0 :: bt 8 [], [(16, .box [Ti y2.1.1, Ti y2.1.2.1, Ti y2.1.2.2])]⟩) ?_ ?_
  ·refine L0 rfl rfl (E_loadn (cs := [Ti y2.1.1, Ti y2.1.2.1, Ti y2.1.2.2]) [Ti y2.1.1, Ti y2.1.2.1, Ti y2.1.2.2] wd43 rfl (by kernel_rfl) (Nat.le_of_ble_eq_true rfl) (by kernel_rfl)) ?_
   refine XL_cons rfl (E_store (id := 16) (off := 0) (cs := [Ti 0, Ti 0, Ti 0]) (vc := [Ti y2.1.1, Ti y2.1.2.1, Ti y2.1.2.2]) [Ti y2.1.1, Ti y2.1.2.1, Ti y2.1.2.2] rfl rfl (by kernel_rfl) (by kernel_rfl) (by kernel_rfl) sz43 (Nat.le_of_ble_eq_true rfl) (by kernel_rfl)) ?_
   refine XL_nil ?_
   kernel_rfl
  refine V_ret ?_
  obtain rfl := some_inj h
  show Post _ _ _ _ _
  exact ⟨.inr rfl, rfl, rfl, rfl⟩
theorem cf_impl_Form_disc : ∀ args w, (callFunc 104 args).run Try.prog w = .ok (.enter 104 args) w := run_callFunc Try.func104 (by kernel_rfl) (by kernel_rfl)
set_option maxRecDepth 100000 in
set_option maxHeartbeats 400000 in
theorem s_impl_Form_disc {f1 : (Int × Int × Int)} {r : Int} (h : r_impl_Form_disc f1 = some r) : CallS Try.prog 104 [.ag [Ti f1.1, Ti f1.2.1, Ti f1.2.2]] (I r) [] := by
  refine CallS_of_text (rs := [.t 2]) (vs := [.tmp 2]) Try.func104 rfl rfl (.cons rfl FitsL.nil) (by decide) 15 rfl ?_
  unfold r_impl_Form_disc at h
  show V _ _ ⟨.ag [Ti f1.1, Ti f1.2.1, Ti f1.2.2] :: bt 14 [], []⟩ _
  refine V_sreg (mb 15 2) [8] (s1 := ⟨.bot :: .pt 8 0 :: bt 13 [], [(8, .box [Ti f1.1, Ti f1.2.1, Ti f1.2.2])]⟩) ?_ ?_
  ·refine L1 rfl rfl (Y1_box (cs := [Ti f1.1, Ti f1.2.1, Ti f1.2.2]) rfl (by kernel_rfl)) ?_
   refine L0 rfl rfl (E_assign (I 0) rfl (by kernel_rfl)) ?_
   refine XL_nil ?_
   kernel_rfl
  obtain ⟨t2, ht2, h⟩ := of_sI h
  refine V_sreg (mb 15 4) [] (s1 := ⟨.bot :: .bot :: I t2 :: bt 12 [], []⟩) ?_ ?_
  ·refine L0 rfl rfl (E_field (.pt 8 1) Try.underlying43 rfl sz3 rfl (by kernel_rfl) (by intro hh; cases hh)) ?_
   refine L0 rfl rfl (Y0_load1 (c := Ti f1.2.1) (cs := [Ti f1.2.2]) sc3 rfl (by kernel_rfl)) ?_
   refine L0 rfl rfl (E_field (.pt 8 1) Try.underlying43 rfl sz3 rfl (by kernel_rfl) (by intro hh; cases hh)) ?_
   refine L0 rfl rfl (Y0_load1 (c := Ti f1.2.1) (cs := [Ti f1.2.2]) sc3 rfl (by kernel_rfl)) ?_
   refine L0 rfl rfl (Y0_mul64 (a := f1.2.1) (b := f1.2.1) rfl (by kernel_rfl) (by kernel_rfl)) ?_
   refine L0 rfl rfl (E_field (.pt 8 0) Try.underlying43 rfl sz3 rfl (by kernel_rfl) (by intro hh; cases hh)) ?_
   refine L0 rfl rfl (Y0_load1 (c := Ti f1.1) (cs := [Ti f1.2.1, Ti f1.2.2]) sc3 rfl (by kernel_rfl)) ?_
   refine L0 rfl rfl (Y0_mul64 (a := 4) (b := f1.1) rfl (by kernel_rfl) (by kernel_rfl)) ?_
   refine L0 rfl rfl (E_field (.pt 8 2) Try.underlying43 rfl sz3 rfl (by kernel_rfl) (by intro hh; cases hh)) ?_
   refine L0 rfl rfl (Y0_load1 (c := Ti f1.2.2) (cs := []) sc3 rfl (by kernel_rfl)) ?_
   refine L0 rfl rfl (Y0_mul64 (a := w64 (4 * f1.1)) (b := f1.2.2) rfl (by kernel_rfl) (by kernel_rfl)) ?_
   refine L0 rfl rfl (Y0_sub64 (a := w64 (f1.2.1 * f1.2.1)) (b := w64 ((w64 (4 * f1.1)) * f1.2.2)) rfl (by kernel_rfl) (by kernel_rfl)) ?_
   refine L0 rfl rfl (E_assign (I (w64 ((w64 (f1.2.1 * f1.2.1)) - (w64 ((w64 (4 * f1.1)) * f1.2.2))))) rfl (by kernel_rfl)) ?_
   refine XL_nil ?_
   subst ht2
   kernel_rfl
  refine V_ret ?_
  obtain rfl := some_inj h
  show Post _ _ _ _ _
  exact ⟨.inr rfl, rfl, rfl, rfl⟩
theorem cf_impl_root : ∀ args w, (callFunc 121 args).run Try.prog w = .ok (.enter 121 args) w := run_callFunc Try.func121 (by kernel_rfl) (by kernel_rfl)
set_option maxRecDepth 100000 in
set_option maxHeartbeats 400000 in
theorem s_impl_root {vn1 : Int} {r : Int} (h : r_impl_root vn1 = some r) : CallS Try.prog 121 [I vn1] (I r) [] := by
  refine CallS_of_text (rs := [.t 2]) (vs := [.tmp 2]) Try.func121 rfl rfl (.cons rfl FitsL.nil) (by decide) 23 rfl ?_
  unfold r_impl_root at h
  show V _ _ ⟨I vn1 :: bt 22 [], []⟩ _
  refine V_sreg (mb 23 1) [] (s1 := ⟨I vn1 :: bt 22 [], []⟩) ?_ ?_
  ·refine L0 rfl rfl (E_assign (I 0) rfl (by kernel_rfl)) ?_
   refine XL_nil ?_
   kernel_rfl
  refine V_sreg (mb 23 25) [] (s1 := ⟨I vn1 :: .bot :: .bot :: I 0 :: I 3000000000 :: bt 18 [], []⟩) ?_ ?_
  ·refine L0 rfl rfl (E_assign (I 0) rfl (by kernel_rfl)) ?_
   refine L0 rfl rfl (E_assign (I 3000000000) rfl (by kernel_rfl)) ?_
   refine XL_nil ?_
   kernel_rfl
  refine V_seq ?_
  obtain ⟨o5, hLo5, h⟩ := of_bind h
  refine V_toK (mb 23 8) [] (s1 := ⟨bt 3 (I o5 :: bt 19 []), []⟩) ?_ ?_
  ·clear h
   refine V_block (V_loop (fun n s => ∃ (low2 : Int) (high3 : Int), s.keep (mb 23 25) [] = (⟨I vn1 :: .bot :: .bot :: I low2 :: I high3 :: bt 18 [], []⟩ : St) ∧ r_impl_root_L4 vn1 n low2 high3 = some o5) FU ⟨_, _,  by rfl, hLo5⟩ ?_)
   clear hLo5
   rintro n s ⟨low2, high3, hs, h⟩
   refine V_keep _ _ hs ?_
   clear hs
   cases n with
   | zero => cases h
   | succ n =>
    rw [r_impl_root_L4] at h
    refine V_seq ?_
    refine V_sreg (mb 23 281) [] (s1 := ⟨I vn1 :: .bot :: .bot :: I low2 :: I high3 :: bt 3 (Bo (ltI low2 high3) :: bt 14 []), []⟩) ?_ ?_
    ·refine L0 rfl rfl (E_move (I low2) rfl (by kernel_rfl)) ?_
     refine L0 rfl rfl (E_move (I high3) rfl (by kernel_rfl)) ?_
     refine L0 rfl rfl (Y0_ltw (k := .i64) (a := low2) (b := high3) rfl (by kernel_rfl) (by kernel_rfl)) ?_
     refine XL_nil ?_
     kernel_rfl
    refine V_cond rfl (fun hc6 => ?_) (fun hc6 => ?_)
    ·have h := of_true h hc6
     refine V_skip ?_
     show V _ _ _ _
     refine V_block ?_
     obtain ⟨vm7, hvm7, h⟩ := of_sI h
     refine V_sreg (mb 23 57) [] (s1 := ⟨I vn1 :: .bot :: .bot :: I low2 :: I high3 :: I vm7 :: bt 17 [], []⟩) ?_ ?_
     ·refine L0 rfl rfl (E_move (I low2) rfl (by kernel_rfl)) ?_
      refine L0 rfl rfl (E_move (I high3) rfl (by kernel_rfl)) ?_
      refine L0 rfl rfl (Y0_add64 (a := low2) (b := high3) rfl (by kernel_rfl) (by kernel_rfl)) ?_
      refine L0 rfl rfl (Y0_add64 (a := w64 (low2 + high3)) (b := 1) rfl (by kernel_rfl) (by kernel_rfl)) ?_
      refine L0 rfl rfl (Y0_quo64 (a := w64 ((w64 (low2 + high3)) + 1)) (b := 2) rfl (by kernel_rfl) (by kernel_rfl) (by decide)) ?_
      refine L0 rfl rfl (E_assign (I (w64 (Int.tdiv (w64 ((w64 (low2 + high3)) + 1)) 2))) rfl (by kernel_rfl)) ?_
      refine XL_nil ?_
      subst hvm7
      kernel_rfl
     refine V_sreg (mb 23 262201) [] (s1 := ⟨I vn1 :: .bot :: .bot :: I low2 :: I high3 :: I vm7 :: bt 12 (Bo (leI (w64 (vm7 * vm7)) vn1) :: bt 4 []), []⟩) ?_ ?_
     ·refine L0 rfl rfl (E_move (I vm7) rfl (by kernel_rfl)) ?_
      refine L0 rfl rfl (E_move (I vm7) rfl (by kernel_rfl)) ?_
      refine L0 rfl rfl (Y0_mul64 (a := vm7) (b := vm7) rfl (by kernel_rfl) (by kernel_rfl)) ?_
      refine L0 rfl rfl (E_move (I vn1) rfl (by kernel_rfl)) ?_
      refine L0 rfl rfl (Y0_lew (k := .i64) (a := w64 (vm7 * vm7)) (b := vn1) rfl (by kernel_rfl) (by kernel_rfl)) ?_
      refine XL_nil ?_
      kernel_rfl
     refine V_cond rfl (fun hc8 => ?_) (fun hc8 => ?_)
     ·have h := of_true h hc8
      refine V_reg (mb 23 25) [] (s1 := ⟨I vn1 :: .bot :: .bot :: I vm7 :: I high3 :: bt 18 [], []⟩) ?_ ?_
      ·refine L0 rfl rfl (E_move (I vm7) rfl (by kernel_rfl)) ?_
       refine L0 rfl rfl (E_assign (I vm7) rfl (by kernel_rfl)) ?_
       refine XL_nil ?_
       kernel_rfl
      exact ⟨n, Nat.lt_succ_self n, _, _,  by rfl, h⟩
     ·have h := of_false h hc8
      obtain ⟨high9, hhigh9, h⟩ := of_sI h
      refine V_reg (mb 23 25) [] (s1 := ⟨I vn1 :: .bot :: .bot :: I low2 :: I high9 :: bt 18 [], []⟩) ?_ ?_
      ·refine L0 rfl rfl (E_move (I vm7) rfl (by kernel_rfl)) ?_
       refine L0 rfl rfl (Y0_sub64 (a := vm7) (b := 1) rfl (by kernel_rfl) (by kernel_rfl)) ?_
       refine L0 rfl rfl (E_assign (I (w64 (vm7 - 1))) rfl (by kernel_rfl)) ?_
       refine XL_nil ?_
       subst hhigh9
       kernel_rfl
      exact ⟨n, Nat.lt_succ_self n, _, _,  by rfl, h⟩
    ·have h := of_false h hc6
     refine V_exit ?_
     obtain rfl := some_inj h
     show St.keep _ _ _ = _
     rfl
  show V _ _ _ _
  refine V_sreg (mb 23 4) [] (s1 := ⟨.bot :: .bot :: I o5 :: bt 20 [], []⟩) ?_ ?_
  ·refine L0 rfl rfl (E_move (I o5) rfl (by kernel_rfl)) ?_
   refine L0 rfl rfl (E_assign (I o5) rfl (by kernel_rfl)) ?_
   refine XL_nil ?_
   kernel_rfl
  refine V_ret ?_
  obtain rfl := some_inj h
  show Post _ _ _ _ _
  exact ⟨.inr rfl, rfl, rfl, rfl⟩
theorem cf_impl_isSquare : ∀ args w, (callFunc 91 args).run Try.prog w = .ok (.enter 91 args) w := run_callFunc Try.func91 (by kernel_rfl) (by kernel_rfl)
set_option maxRecDepth 100000 in
set_option maxHeartbeats 400000 in
theorem s_impl_isSquare {vn1 : Int} {r : Bool} (h : r_impl_isSquare vn1 = some r) : CallS Try.prog 91 [I vn1] (Bo r) [] := by
  refine CallS_of_text (rs := [.t 2]) (vs := [.tmp 2]) Try.func91 rfl rfl (.cons rfl FitsL.nil) (by decide) 14 rfl ?_
  unfold r_impl_isSquare at h
  show V _ _ ⟨I vn1 :: bt 13 [], []⟩ _
  refine V_sreg (mb 14 1) [] (s1 := ⟨I vn1 :: bt 13 [], []⟩) ?_ ?_
  ·refine L0 rfl rfl (E_assign (Bo false) rfl (by kernel_rfl)) ?_
   refine XL_nil ?_
   kernel_rfl
  obtain ⟨b5, hb5, h⟩ := of_bind h
  refine V_sreg (mb 14 4) [] (s1 := ⟨.bot :: .bot :: Bo b5 :: bt 11 [], []⟩) ?_ ?_
  ·refine L0 rfl rfl (E_move (I vn1) rfl (by kernel_rfl)) ?_
   refine L0 rfl rfl (Y0_gew (k := .i64) (a := vn1) (b := 0) rfl (by kernel_rfl) (by kernel_rfl)) ?_
   refine L0 rfl rfl (E_move (Bo (leI 0 vn1)) rfl (by kernel_rfl)) ?_
   refine XL_split (leI 0 vn1) (fun hc2 => ?_) (fun hc2 => ?_)
   ·have hb5 := of_true hb5 hc2
    obtain ⟨y3, hy3, hb5⟩ := of_bind hb5
    obtain ⟨y4, hy4, hb5⟩ := of_bind hb5
    have hb5 := some_inj hb5
    refine XL_takeC _ rfl rfl (by kernel_rfl) hc2 (X_of_Y0 rfl (E_move (I vn1) rfl (by kernel_rfl))) ?_
    refine XL_takeC _ rfl rfl (by kernel_rfl) hc2 (X_of_Y1 rfl (Y1_call (s_impl_root hy3) cf_impl_root rfl (by kernel_rfl))) ?_
    refine XL_takeC _ rfl rfl (by kernel_rfl) hc2 (X_of_Y0 rfl (E_move (I vn1) rfl (by kernel_rfl))) ?_
    refine XL_takeC _ rfl rfl (by kernel_rfl) hc2 (X_of_Y1 rfl (Y1_call (s_impl_root hy4) cf_impl_root rfl (by kernel_rfl))) ?_
    refine XL_takeC _ rfl rfl (by kernel_rfl) hc2 (X_of_Y0 rfl (Y0_mul64 (a := y3) (b := y4) rfl (by kernel_rfl) (by kernel_rfl))) ?_
    refine XL_takeC _ rfl rfl (by kernel_rfl) hc2 (X_of_Y0 rfl (E_move (I vn1) rfl (by kernel_rfl))) ?_
    refine XL_takeC _ rfl rfl (by kernel_rfl) hc2 (X_of_Y0 rfl (Y0_eqw (k := .i64) (a := w64 (y3 * y4)) (b := vn1) rfl (by kernel_rfl) (by kernel_rfl))) ?_
    refine XL_cons rfl (X_of_Y0 rfl (Y0_pickTe (b := leI 0 vn1) (p := eqI (w64 (y3 * y4)) vn1) rfl (by kernel_rfl) hc2 (by kernel_rfl) hb5)) ?_
    refine L0 rfl rfl (E_assign (Bo b5) rfl (by kernel_rfl)) ?_
    refine XL_nil ?_
    kernel_rfl
   ·have hb5 := some_inj (of_false hb5 hc2)
    refine XL_skipT _ rfl rfl (by kernel_rfl) hc2 rfl ?_
    refine XL_skipT _ rfl rfl (by kernel_rfl) hc2 rfl ?_
    refine XL_skipT _ rfl rfl (by kernel_rfl) hc2 rfl ?_
    refine XL_skipT _ rfl rfl (by kernel_rfl) hc2 rfl ?_
    refine XL_skipT _ rfl rfl (by kernel_rfl) hc2 rfl ?_
    refine XL_skipT _ rfl rfl (by kernel_rfl) hc2 rfl ?_
    refine XL_skipT _ rfl rfl (by kernel_rfl) hc2 rfl ?_
    refine XL_cons rfl (X_of_Y0 rfl (Y0_pickFe (b := leI 0 vn1) (p := false) rfl (by kernel_rfl) hc2 (by kernel_rfl) hb5)) ?_
    refine L0 rfl rfl (E_assign (Bo b5) rfl (by kernel_rfl)) ?_
    refine XL_nil ?_
    kernel_rfl
  refine V_ret ?_
  obtain rfl := some_inj h
  show Post _ _ _ _ _
  exact ⟨.inr rfl, rfl, rfl, rfl⟩
theorem cf_impl_Form_points : ∀ args w, (callFunc 123 args).run Try.prog w = .ok (.enter 123 args) w := run_callFunc Try.func123 (by kernel_rfl) (by kernel_rfl)
set_option maxRecDepth 100000 in
set_option maxHeartbeats 400000 in
theorem s_impl_Form_points {f1 : (Int × Int × Int)} {vn2 : Int} {r : List ((Int × Int))} (h : r_impl_Form_points f1 vn2 = some r) : CallS Try.prog 123 [.ag [Ti f1.1, Ti f1.2.1, Ti f1.2.2], I vn2] (.ow 0) [(0, .arr 97 2 (r.map c97))] := by
  refine CallS_of_text (rs := [.t 4]) (vs := [.tmp 4]) Try.func123 rfl rfl (.cons rfl FitsL.nil) (by decide) 107 rfl ?_
  unfold r_impl_Form_points at h
  show V _ _ ⟨.ag [Ti f1.1, Ti f1.2.1, Ti f1.2.2] :: I vn2 :: bt 105 [], []⟩ _
  refine V_sreg (mb 107 6) [16] (s1 := ⟨.bot :: I vn2 :: .pt 16 0 :: bt 104 [], [(16, .box [Ti f1.1, Ti f1.2.1, Ti f1.2.2])]⟩) ?_ ?_
  ·refine L1 rfl rfl (Y1_box (cs := [Ti f1.1, Ti f1.2.1, Ti f1.2.2]) rfl (by kernel_rfl)) ?_
   refine L1 rfl rfl (Y1_nil (e := 97) 2 (by decide) (.inl rfl)) ?_
   refine XL_nil ?_
   kernel_rfl
  refine V_sreg (mb 107 38) [88, 16] (s1 := ⟨.bot :: I vn2 :: .pt 16 0 :: .bot :: .bot :: .ow 88 :: bt 101 [], [(88, .arr 97 2 ((([] : List ((Int × Int)))).map c97)), (16, .box [Ti f1.1, Ti f1.2.1, Ti f1.2.2])]⟩) ?_ ?_
  ·refine L1 rfl rfl (Y1_bslice0 Try.underlying73 sz97 (by decide) rfl rfl) ?_
   refine L0 rfl rfl (E_assign (.ow 88) rfl (by kernel_rfl)) ?_
   refine XL_nil ?_
   kernel_rfl
  obtain ⟨y3, hy3, h⟩ := of_bind h
  refine V_sreg (mb 107 102) [88, 16] (s1 := ⟨.bot :: I vn2 :: .pt 16 0 :: .bot :: .bot :: .ow 88 :: I y3 :: bt 100 [], [(88, .arr 97 2 ((([] : List ((Int × Int)))).map c97)), (16, .box [Ti f1.1, Ti f1.2.1, Ti f1.2.2])]⟩) ?_ ?_
  ·refine L0 rfl rfl (E_loadn (cs := [Ti f1.1, Ti f1.2.1, Ti f1.2.2]) [Ti f1.1, Ti f1.2.1, Ti f1.2.2] wd43 rfl (by kernel_rfl) (Nat.le_of_ble_eq_true rfl) (by kernel_rfl)) ?_
   refine L1 rfl rfl (Y1_call (s_impl_Form_disc hy3) cf_impl_Form_disc rfl (by kernel_rfl)) ?_
   refine L0 rfl rfl (E_assign (I y3) rfl (by kernel_rfl)) ?_
   refine XL_nil ?_
   kernel_rfl
  obtain ⟨z4, hz4, h⟩ := of_bind h
  obtain ⟨y5, hy5, h⟩ := of_bind h
  refine V_sreg (mb 107 230) [88, 16] (s1 := ⟨.bot :: I vn2 :: .pt 16 0 :: .bot :: .bot :: .ow 88 :: I y3 :: I y5 :: bt 99 [], [(88, .arr 97 2 ((([] : List ((Int × Int)))).map c97)), (16, .box [Ti f1.1, Ti f1.2.1, Ti f1.2.2])]⟩) ?_ ?_
  ·refine L0 rfl rfl (E_field (.pt 16 2) Try.underlying43 rfl sz3 rfl (by kernel_rfl) (by intro hh; cases hh)) ?_
   refine L0 rfl rfl (Y0_load1 (c := Ti f1.2.2) (cs := []) sc3 rfl (by kernel_rfl)) ?_
   refine L0 rfl rfl (Y0_mul64 (a := 4) (b := f1.2.2) rfl (by kernel_rfl) (by kernel_rfl)) ?_
   refine L0 rfl rfl (E_move (I vn2) rfl (by kernel_rfl)) ?_
   refine L0 rfl rfl (Y0_mul64 (a := w64 (4 * f1.2.2)) (b := vn2) rfl (by kernel_rfl) (by kernel_rfl)) ?_
   refine L0 rfl rfl (E_move (I y3) rfl (by kernel_rfl)) ?_
   refine L0 rfl rfl (Y0_neg64 (a := y3) rfl (by kernel_rfl)) ?_
   refine L0 rfl rfl (Y0_quo64 (a := w64 ((w64 (4 * f1.2.2)) * vn2)) (b := w64 (0 - y3)) rfl (by kernel_rfl) (by kernel_rfl) (nz_some hz4)) ?_
   refine L1 rfl rfl (Y1_call (s_impl_root hy5) cf_impl_root rfl (by kernel_rfl)) ?_
   refine L0 rfl rfl (E_assign (I y5) rfl (by kernel_rfl)) ?_
   refine XL_nil ?_
   kernel_rfl
  refine V_seq ?_
  obtain ⟨x6, hx6, h⟩ := of_sI h
  refine V_sreg (mb 107 486) [88, 16] (s1 := ⟨.bot :: I vn2 :: .pt 16 0 :: .bot :: .bot :: .ow 88 :: I y3 :: I y5 :: I x6 :: bt 98 [], [(88, .arr 97 2 ((([] : List ((Int × Int)))).map c97)), (16, .box [Ti f1.1, Ti f1.2.1, Ti f1.2.2])]⟩) ?_ ?_
  ·refine L0 rfl rfl (E_move (I y5) rfl (by kernel_rfl)) ?_
   refine L0 rfl rfl (Y0_neg64 (a := y5) rfl (by kernel_rfl)) ?_
   refine L0 rfl rfl (E_assign (I (w64 (0 - y5))) rfl (by kernel_rfl)) ?_
   refine XL_nil ?_
   subst hx6
   kernel_rfl
  obtain ⟨o10, hLo10, h⟩ := of_bind h
  refine V_toK (mb 107 32) [88] (s1 := ⟨bt 5 (.ow 88 :: bt 101 []), [(88, .arr 97 2 (o10.map c97))]⟩) ?_ ?_
  ·clear h
   refine V_block (V_loop (fun n s => ∃ (x7 : Int) (l8 : List ((Int × Int))), s.keep (mb 107 486) [88, 16] = (⟨.bot :: I vn2 :: .pt 16 0 :: .bot :: .bot :: .ow 88 :: I y3 :: I y5 :: I x7 :: bt 98 [], [(88, .arr 97 2 (l8.map c97)), (16, .box [Ti f1.1, Ti f1.2.1, Ti f1.2.2])]⟩ : St) ∧ r_impl_Form_points_L9 f1 vn2 y3 y5 n x7 l8 = some o10) FU ⟨_, _,  by rfl, hLo10⟩ ?_)
   clear hLo10
   rintro n s ⟨x7, l8, hs, h⟩
   refine V_keep _ _ hs ?_
   clear hs
   cases n with
   | zero => cases h
   | succ n =>
    rw [r_impl_Form_points_L9] at h
    refine V_seq ?_
    refine V_sreg (mb 107 134218214) [88, 16] (s1 := ⟨.bot :: I vn2 :: .pt 16 0 :: .bot :: .bot :: .ow 88 :: I y3 :: I y5 :: I x7 :: bt 18 (Bo (leI x7 y5) :: bt 79 []), [(88, .arr 97 2 (l8.map c97)), (16, .box [Ti f1.1, Ti f1.2.1, Ti f1.2.2])]⟩) ?_ ?_
    ·refine L0 rfl rfl (E_move (I x7) rfl (by kernel_rfl)) ?_
     refine L0 rfl rfl (E_move (I y5) rfl (by kernel_rfl)) ?_
     refine L0 rfl rfl (Y0_lew (k := .i64) (a := x7) (b := y5) rfl (by kernel_rfl) (by kernel_rfl)) ?_
     refine XL_nil ?_
     kernel_rfl
    refine V_cond rfl (fun hc11 => ?_) (fun hc11 => ?_)
    ·have h := of_true h hc11
     refine V_skip ?_
     show V _ _ _ _
     refine V_seq ?_
     refine V_block ?_
     obtain ⟨square12, hsquare12, h⟩ := of_sI h
     refine V_sreg (mb 107 998) [88, 16] (s1 := ⟨.bot :: I vn2 :: .pt 16 0 :: .bot :: .bot :: .ow 88 :: I y3 :: I y5 :: I x7 :: I square12 :: bt 97 [], [(88, .arr 97 2 (l8.map c97)), (16, .box [Ti f1.1, Ti f1.2.1, Ti f1.2.2])]⟩) ?_ ?_
     ·refine L0 rfl rfl (E_move (I y3) rfl (by kernel_rfl)) ?_
      refine L0 rfl rfl (E_move (I x7) rfl (by kernel_rfl)) ?_
      refine L0 rfl rfl (Y0_mul64 (a := y3) (b := x7) rfl (by kernel_rfl) (by kernel_rfl)) ?_
      refine L0 rfl rfl (E_move (I x7) rfl (by kernel_rfl)) ?_
      refine L0 rfl rfl (Y0_mul64 (a := w64 (y3 * x7)) (b := x7) rfl (by kernel_rfl) (by kernel_rfl)) ?_
      refine L0 rfl rfl (E_field (.pt 16 2) Try.underlying43 rfl sz3 rfl (by kernel_rfl) (by intro hh; cases hh)) ?_
      refine L0 rfl rfl (Y0_load1 (c := Ti f1.2.2) (cs := []) sc3 rfl (by kernel_rfl)) ?_
      refine L0 rfl rfl (Y0_mul64 (a := 4) (b := f1.2.2) rfl (by kernel_rfl) (by kernel_rfl)) ?_
      refine L0 rfl rfl (E_move (I vn2) rfl (by kernel_rfl)) ?_
      refine L0 rfl rfl (Y0_mul64 (a := w64 (4 * f1.2.2)) (b := vn2) rfl (by kernel_rfl) (by kernel_rfl)) ?_
      refine L0 rfl rfl (Y0_add64 (a := w64 ((w64 (y3 * x7)) * x7)) (b := w64 ((w64 (4 * f1.2.2)) * vn2)) rfl (by kernel_rfl) (by kernel_rfl)) ?_
      refine L0 rfl rfl (E_assign (I (w64 ((w64 ((w64 (y3 * x7)) * x7)) + (w64 ((w64 (4 * f1.2.2)) * vn2))))) rfl (by kernel_rfl)) ?_
      refine XL_nil ?_
      subst hsquare12
      kernel_rfl
     refine V_seq ?_
     obtain ⟨y13, hy13, h⟩ := of_bind h
     refine V_sreg (mb 107 8796093023206) [88, 16] (s1 := ⟨.bot :: I vn2 :: .pt 16 0 :: .bot :: .bot :: .ow 88 :: I y3 :: I y5 :: I x7 :: I square12 :: bt 33 (Bo (!y13) :: bt 63 []), [(88, .arr 97 2 (l8.map c97)), (16, .box [Ti f1.1, Ti f1.2.1, Ti f1.2.2])]⟩) ?_ ?_
     ·refine L0 rfl rfl (E_move (I square12) rfl (by kernel_rfl)) ?_
      refine L1 rfl rfl (Y1_call (s_impl_isSquare hy13) cf_impl_isSquare rfl (by kernel_rfl)) ?_
      refine L0 rfl rfl (Y0_not (b := y13) rfl (by kernel_rfl)) ?_
      refine XL_nil ?_
      kernel_rfl
     refine V_cond rfl (fun hc14 => ?_) (fun hc14 => ?_)
     ·have h := of_true h hc14
      refine V_exit ?_
      show V _ _ _ _
      obtain ⟨x15, hx15, h⟩ := of_sI h
      refine V_reg (mb 107 486) [88, 16] (s1 := ⟨.bot :: I vn2 :: .pt 16 0 :: .bot :: .bot :: .ow 88 :: I y3 :: I y5 :: I x15 :: bt 98 [], [(88, .arr 97 2 (l8.map c97)), (16, .box [Ti f1.1, Ti f1.2.1, Ti f1.2.2])]⟩) ?_ ?_
      ·refine L0 rfl rfl (E_move (I x7) rfl (by kernel_rfl)) ?_
       refine L0 rfl rfl (Y0_add64 (a := x7) (b := 1) rfl (by kernel_rfl) (by kernel_rfl)) ?_
       refine L0 rfl rfl (E_assign (I (w64 (x7 + 1))) rfl (by kernel_rfl)) ?_
       refine XL_nil ?_
       subst hx15
       kernel_rfl
      exact ⟨n, Nat.lt_succ_self n, _, _,  by rfl, h⟩
     ·have h := of_false h hc14
      refine V_skip ?_
      show V _ _ _ _
      obtain ⟨y16, hy16, h⟩ := of_bind h
      refine V_sreg (mb 107 1510) [88, 16] (s1 := ⟨.bot :: I vn2 :: .pt 16 0 :: .bot :: .bot :: .ow 88 :: I y3 :: I y5 :: I x7 :: .bot :: I y16 :: bt 96 [], [(88, .arr 97 2 (l8.map c97)), (16, .box [Ti f1.1, Ti f1.2.1, Ti f1.2.2])]⟩) ?_ ?_
      ·refine L0 rfl rfl (E_move (I square12) rfl (by kernel_rfl)) ?_
       refine L1 rfl rfl (Y1_call (s_impl_root hy16) cf_impl_root rfl (by kernel_rfl)) ?_
       refine L0 rfl rfl (E_assign (I y16) rfl (by kernel_rfl)) ?_
       refine XL_nil ?_
       kernel_rfl
      obtain ⟨j17, hj17, h⟩ := of_bind h
      refine V_cutK (mb 107 1510) [88, 16] (s1 := ⟨.bot :: I vn2 :: .pt 16 0 :: .bot :: .bot :: .ow 88 :: I y3 :: I y5 :: I x7 :: .bot :: I y16 :: bt 96 [], [(88, .arr 97 2 (j17.map c97)), (16, .box [Ti f1.1, Ti f1.2.1, Ti f1.2.2])]⟩) ?_ ?_
      ·clear h
       have h := hj17
       clear hj17
       obtain ⟨z18, hz18, h⟩ := of_bind h
       obtain ⟨t19, ht19, h⟩ := of_bind h
       have ht19 := some_inj ht19
       refine V_sreg (mb 107 144115188075857382) [88, 16] (s1 := ⟨.bot :: I vn2 :: .pt 16 0 :: .bot :: .bot :: .ow 88 :: I y3 :: I y5 :: I x7 :: .bot :: I y16 :: bt 46 (Bo t19 :: bt 49 []), [(88, .arr 97 2 (l8.map c97)), (16, .box [Ti f1.1, Ti f1.2.1, Ti f1.2.2])]⟩) ?_ ?_
       ·refine L0 rfl rfl (E_field (.pt 16 1) Try.underlying43 rfl sz3 rfl (by kernel_rfl) (by intro hh; cases hh)) ?_
        refine L0 rfl rfl (Y0_load1 (c := Ti f1.2.1) (cs := [Ti f1.2.2]) sc3 rfl (by kernel_rfl)) ?_
        refine L0 rfl rfl (Y0_neg64 (a := f1.2.1) rfl (by kernel_rfl)) ?_
        refine L0 rfl rfl (E_move (I x7) rfl (by kernel_rfl)) ?_
        refine L0 rfl rfl (Y0_mul64 (a := w64 (0 - f1.2.1)) (b := x7) rfl (by kernel_rfl) (by kernel_rfl)) ?_
        refine L0 rfl rfl (E_move (I y16) rfl (by kernel_rfl)) ?_
        refine L0 rfl rfl (Y0_sub64 (a := w64 ((w64 (0 - f1.2.1)) * x7)) (b := y16) rfl (by kernel_rfl) (by kernel_rfl)) ?_
        refine L0 rfl rfl (E_field (.pt 16 2) Try.underlying43 rfl sz3 rfl (by kernel_rfl) (by intro hh; cases hh)) ?_
        refine L0 rfl rfl (Y0_load1 (c := Ti f1.2.2) (cs := []) sc3 rfl (by kernel_rfl)) ?_
        refine L0 rfl rfl (Y0_mul64 (a := 2) (b := f1.2.2) rfl (by kernel_rfl) (by kernel_rfl)) ?_
        refine L0 rfl rfl (Y0_rem (k := .i64) (a := w64 ((w64 ((w64 (0 - f1.2.1)) * x7)) - y16)) (b := w64 (2 * f1.2.2)) rfl (by kernel_rfl) (by kernel_rfl) (nz_some hz18)) ?_
        refine L0 rfl rfl (Y0_eqw (k := .i64) (a := Int.tmod (w64 ((w64 ((w64 (0 - f1.2.1)) * x7)) - y16)) (w64 (2 * f1.2.2))) (b := 0) rfl (by kernel_rfl) (by kernel_rfl)) ?_
        refine XL_nil ?_
        subst ht19
        kernel_rfl
       refine V_cond rfl (fun hc20 => ?_) (fun hc20 => ?_)
       ·have h := of_true h hc20
        obtain ⟨z21, hz21, h⟩ := of_bind h
        obtain ⟨u22, hu22, h⟩ := of_bind h
        obtain ⟨l23, hl23, h⟩ := of_bind h
        have hl23 := some_inj hl23
        refine V_reg (mb 107 1510) [88, 16] (s1 := ⟨.bot :: I vn2 :: .pt 16 0 :: .bot :: .bot :: .ow 88 :: I y3 :: I y5 :: I x7 :: .bot :: I y16 :: bt 96 [], [(88, .arr 97 2 (l23.map c97)), (16, .box [Ti f1.1, Ti f1.2.1, Ti f1.2.2])]⟩) ?_ ?_
        ·refine L0 rfl rfl (E_move (.ow 88) rfl (by kernel_rfl)) ?_
         refine L0 rfl rfl (E_move (I x7) rfl (by kernel_rfl)) ?_
         refine L0 rfl rfl (E_field (.pt 16 1) Try.underlying43 rfl sz3 rfl (by kernel_rfl) (by intro hh; cases hh)) ?_
         refine L0 rfl rfl (Y0_load1 (c := Ti f1.2.1) (cs := [Ti f1.2.2]) sc3 rfl (by kernel_rfl)) ?_
         refine L0 rfl rfl (Y0_neg64 (a := f1.2.1) rfl (by kernel_rfl)) ?_
         refine L0 rfl rfl (E_move (I x7) rfl (by kernel_rfl)) ?_
         refine L0 rfl rfl (Y0_mul64 (a := w64 (0 - f1.2.1)) (b := x7) rfl (by kernel_rfl) (by kernel_rfl)) ?_
         refine L0 rfl rfl (E_move (I y16) rfl (by kernel_rfl)) ?_
         refine L0 rfl rfl (Y0_sub64 (a := w64 ((w64 (0 - f1.2.1)) * x7)) (b := y16) rfl (by kernel_rfl) (by kernel_rfl)) ?_
         refine L0 rfl rfl (E_field (.pt 16 2) Try.underlying43 rfl sz3 rfl (by kernel_rfl) (by intro hh; cases hh)) ?_
         refine L0 rfl rfl (Y0_load1 (c := Ti f1.2.2) (cs := []) sc3 rfl (by kernel_rfl)) ?_
         refine L0 rfl rfl (Y0_mul64 (a := 2) (b := f1.2.2) rfl (by kernel_rfl) (by kernel_rfl)) ?_
         refine L0 rfl rfl (Y0_quo64 (a := w64 ((w64 ((w64 (0 - f1.2.1)) * x7)) - y16)) (b := w64 (2 * f1.2.2)) rfl (by kernel_rfl) (by kernel_rfl) (nz_some hz21)) ?_
         refine L0 rfl rfl (Y0_build (cs := [Ti x7, Ti (w64 (Int.tdiv (w64 ((w64 ((w64 (0 - f1.2.1)) * x7)) - y16)) (w64 (2 * f1.2.2))))]) pl97 bt97 rfl rfl (by kernel_rfl)) ?_
         refine L1 rfl rfl (Y1_bslice (z := zv97) (els := [(x7, w64 (Int.tdiv (w64 ((w64 ((w64 (0 - f1.2.1)) * x7)) - y16)) (w64 (2 * f1.2.2))))].map c97) Try.underlying73 iz97 rfl (by decide) rfl (by kernel_rfl) rfl (by simp [c97]) (by decide) (by decide)) ?_
         refine XL_cons rfl (X_appendM (c := c97) (xs := l8) (ys := [(x7, w64 (Int.tdiv (w64 ((w64 ((w64 (0 - f1.2.1)) * x7)) - y16)) (w64 (2 * f1.2.2))))]) (id := 88) (z := zv97) rfl rfl Try.underlying73 izb97 rfl (by kernel_rfl) (by kernel_rfl) (by kernel_rfl) (fun _ => rfl) (by simp) (room_some hu22) (by decide)) ?_
         refine L0 rfl rfl (E_assign (.ow 88) rfl (by kernel_rfl)) ?_
         refine XL_nil ?_
         subst hl23
         kernel_rfl
        obtain rfl := some_inj h
        show St.keep _ _ _ = _
        rfl
       ·have h := of_false h hc20
        refine V_skip ?_
        obtain rfl := some_inj h
        show St.keep _ _ _ = _
        rfl
      obtain ⟨b26, hb26, h⟩ := of_bind h
      refine V_sreg (mb 107 618970019642690137449563622) [88, 16] (s1 := ⟨.bot :: I vn2 :: .pt 16 0 :: .bot :: .bot :: .ow 88 :: I y3 :: I y5 :: I x7 :: .bot :: I y16 :: bt 78 (Bo b26 :: bt 17 []), [(88, .arr 97 2 (j17.map c97)), (16, .box [Ti f1.1, Ti f1.2.1, Ti f1.2.2])]⟩) ?_ ?_
      ·refine L0 rfl rfl (E_move (I y16) rfl (by kernel_rfl)) ?_
       refine L0 rfl rfl (Y0_gtw (k := .i64) (a := y16) (b := 0) rfl (by kernel_rfl) (by kernel_rfl)) ?_
       refine L0 rfl rfl (E_move (Bo (ltI 0 y16)) rfl (by kernel_rfl)) ?_
       refine XL_split (ltI 0 y16) (fun hc24 => ?_) (fun hc24 => ?_)
       ·have hb26 := of_true hb26 hc24
        obtain ⟨z25, hz25, hb26⟩ := of_bind hb26
        have hb26 := some_inj hb26
        refine XL_takeC _ rfl rfl (by kernel_rfl) hc24 (X_of_Y0 rfl (E_field (.pt 16 1) Try.underlying43 rfl sz3 rfl (by kernel_rfl) (by intro hh; cases hh))) ?_
        refine XL_takeC _ rfl rfl (by kernel_rfl) hc24 (X_of_Y0 rfl (Y0_load1 (c := Ti f1.2.1) (cs := [Ti f1.2.2]) sc3 rfl (by kernel_rfl))) ?_
        refine XL_takeC _ rfl rfl (by kernel_rfl) hc24 (X_of_Y0 rfl (Y0_neg64 (a := f1.2.1) rfl (by kernel_rfl))) ?_
        refine XL_takeC _ rfl rfl (by kernel_rfl) hc24 (X_of_Y0 rfl (E_move (I x7) rfl (by kernel_rfl))) ?_
        refine XL_takeC _ rfl rfl (by kernel_rfl) hc24 (X_of_Y0 rfl (Y0_mul64 (a := w64 (0 - f1.2.1)) (b := x7) rfl (by kernel_rfl) (by kernel_rfl))) ?_
        refine XL_takeC _ rfl rfl (by kernel_rfl) hc24 (X_of_Y0 rfl (E_move (I y16) rfl (by kernel_rfl))) ?_
        refine XL_takeC _ rfl rfl (by kernel_rfl) hc24 (X_of_Y0 rfl (Y0_add64 (a := w64 ((w64 (0 - f1.2.1)) * x7)) (b := y16) rfl (by kernel_rfl) (by kernel_rfl))) ?_
        refine XL_takeC _ rfl rfl (by kernel_rfl) hc24 (X_of_Y0 rfl (E_field (.pt 16 2) Try.underlying43 rfl sz3 rfl (by kernel_rfl) (by intro hh; cases hh))) ?_
        refine XL_takeC _ rfl rfl (by kernel_rfl) hc24 (X_of_Y0 rfl (Y0_load1 (c := Ti f1.2.2) (cs := []) sc3 rfl (by kernel_rfl))) ?_
        refine XL_takeC _ rfl rfl (by kernel_rfl) hc24 (X_of_Y0 rfl (Y0_mul64 (a := 2) (b := f1.2.2) rfl (by kernel_rfl) (by kernel_rfl))) ?_
        refine XL_takeC _ rfl rfl (by kernel_rfl) hc24 (X_of_Y0 rfl (Y0_rem (k := .i64) (a := w64 ((w64 ((w64 (0 - f1.2.1)) * x7)) + y16)) (b := w64 (2 * f1.2.2)) rfl (by kernel_rfl) (by kernel_rfl) (nz_some hz25))) ?_
        refine XL_takeC _ rfl rfl (by kernel_rfl) hc24 (X_of_Y0 rfl (Y0_eqw (k := .i64) (a := Int.tmod (w64 ((w64 ((w64 (0 - f1.2.1)) * x7)) + y16)) (w64 (2 * f1.2.2))) (b := 0) rfl (by kernel_rfl) (by kernel_rfl))) ?_
        refine XL_cons rfl (X_of_Y0 rfl (Y0_pickTe (b := ltI 0 y16) (p := eqI (Int.tmod (w64 ((w64 ((w64 (0 - f1.2.1)) * x7)) + y16)) (w64 (2 * f1.2.2))) 0) rfl (by kernel_rfl) hc24 (by kernel_rfl) hb26)) ?_
        refine XL_nil ?_
        kernel_rfl
       ·have hb26 := some_inj (of_false hb26 hc24)
        refine XL_skipT _ rfl rfl (by kernel_rfl) hc24 rfl ?_
        refine XL_skipT _ rfl rfl (by kernel_rfl) hc24 rfl ?_
        refine XL_skipT _ rfl rfl (by kernel_rfl) hc24 rfl ?_
        refine XL_skipT _ rfl rfl (by kernel_rfl) hc24 rfl ?_
        refine XL_skipT _ rfl rfl (by kernel_rfl) hc24 rfl ?_
        refine XL_skipT _ rfl rfl (by kernel_rfl) hc24 rfl ?_
        refine XL_skipT _ rfl rfl (by kernel_rfl) hc24 rfl ?_
        refine XL_skipT _ rfl rfl (by kernel_rfl) hc24 rfl ?_
        refine XL_skipT _ rfl rfl (by kernel_rfl) hc24 rfl ?_
        refine XL_skipT _ rfl rfl (by kernel_rfl) hc24 rfl ?_
        refine XL_skipT _ rfl rfl (by kernel_rfl) hc24 rfl ?_
        refine XL_skipT _ rfl rfl (by kernel_rfl) hc24 rfl ?_
        refine XL_cons rfl (X_of_Y0 rfl (Y0_pickFe (b := ltI 0 y16) (p := false) rfl (by kernel_rfl) hc24 (by kernel_rfl) hb26)) ?_
        refine XL_nil ?_
        kernel_rfl
      refine V_cond rfl (fun hc27 => ?_) (fun hc27 => ?_)
      ·have h := of_true h hc27
       obtain ⟨z28, hz28, h⟩ := of_bind h
       obtain ⟨u29, hu29, h⟩ := of_bind h
       obtain ⟨l30, hl30, h⟩ := of_bind h
       have hl30 := some_inj hl30
       refine V_reg (mb 107 486) [88, 16] (s1 := ⟨.bot :: I vn2 :: .pt 16 0 :: .bot :: .bot :: .ow 88 :: I y3 :: I y5 :: I x7 :: bt 98 [], [(88, .arr 97 2 (l30.map c97)), (16, .box [Ti f1.1, Ti f1.2.1, Ti f1.2.2])]⟩) ?_ ?_
       ·refine L0 rfl rfl (E_move (.ow 88) rfl (by kernel_rfl)) ?_
        refine L0 rfl rfl (E_move (I x7) rfl (by kernel_rfl)) ?_
        refine L0 rfl rfl (E_field (.pt 16 1) Try.underlying43 rfl sz3 rfl (by kernel_rfl) (by intro hh; cases hh)) ?_
        refine L0 rfl rfl (Y0_load1 (c := Ti f1.2.1) (cs := [Ti f1.2.2]) sc3 rfl (by kernel_rfl)) ?_
        refine L0 rfl rfl (Y0_neg64 (a := f1.2.1) rfl (by kernel_rfl)) ?_
        refine L0 rfl rfl (E_move (I x7) rfl (by kernel_rfl)) ?_
        refine L0 rfl rfl (Y0_mul64 (a := w64 (0 - f1.2.1)) (b := x7) rfl (by kernel_rfl) (by kernel_rfl)) ?_
        refine L0 rfl rfl (E_move (I y16) rfl (by kernel_rfl)) ?_
        refine L0 rfl rfl (Y0_add64 (a := w64 ((w64 (0 - f1.2.1)) * x7)) (b := y16) rfl (by kernel_rfl) (by kernel_rfl)) ?_
        refine L0 rfl rfl (E_field (.pt 16 2) Try.underlying43 rfl sz3 rfl (by kernel_rfl) (by intro hh; cases hh)) ?_
        refine L0 rfl rfl (Y0_load1 (c := Ti f1.2.2) (cs := []) sc3 rfl (by kernel_rfl)) ?_
        refine L0 rfl rfl (Y0_mul64 (a := 2) (b := f1.2.2) rfl (by kernel_rfl) (by kernel_rfl)) ?_
        refine L0 rfl rfl (Y0_quo64 (a := w64 ((w64 ((w64 (0 - f1.2.1)) * x7)) + y16)) (b := w64 (2 * f1.2.2)) rfl (by kernel_rfl) (by kernel_rfl) (nz_some hz28)) ?_
        refine L0 rfl rfl (Y0_build (cs := [Ti x7, Ti (w64 (Int.tdiv (w64 ((w64 ((w64 (0 - f1.2.1)) * x7)) + y16)) (w64 (2 * f1.2.2))))]) pl97 bt97 rfl rfl (by kernel_rfl)) ?_
        refine L1 rfl rfl (Y1_bslice (z := zv97) (els := [(x7, w64 (Int.tdiv (w64 ((w64 ((w64 (0 - f1.2.1)) * x7)) + y16)) (w64 (2 * f1.2.2))))].map c97) Try.underlying73 iz97 rfl (by decide) rfl (by kernel_rfl) rfl (by simp [c97]) (by decide) (by decide)) ?_
        refine XL_cons rfl (X_appendM (c := c97) (xs := j17) (ys := [(x7, w64 (Int.tdiv (w64 ((w64 ((w64 (0 - f1.2.1)) * x7)) + y16)) (w64 (2 * f1.2.2))))]) (id := 88) (z := zv97) rfl rfl Try.underlying73 izb97 rfl (by kernel_rfl) (by kernel_rfl) (by kernel_rfl) (fun _ => rfl) (by simp) (room_some hu29) (by decide)) ?_
        refine L0 rfl rfl (E_assign (.ow 88) rfl (by kernel_rfl)) ?_
        refine XL_nil ?_
        subst hl30
        kernel_rfl
       show V _ _ _ _
       obtain ⟨x31, hx31, h⟩ := of_sI h
       refine V_reg (mb 107 486) [88, 16] (s1 := ⟨.bot :: I vn2 :: .pt 16 0 :: .bot :: .bot :: .ow 88 :: I y3 :: I y5 :: I x31 :: bt 98 [], [(88, .arr 97 2 (l30.map c97)), (16, .box [Ti f1.1, Ti f1.2.1, Ti f1.2.2])]⟩) ?_ ?_
       ·refine L0 rfl rfl (E_move (I x7) rfl (by kernel_rfl)) ?_
        refine L0 rfl rfl (Y0_add64 (a := x7) (b := 1) rfl (by kernel_rfl) (by kernel_rfl)) ?_
        refine L0 rfl rfl (E_assign (I (w64 (x7 + 1))) rfl (by kernel_rfl)) ?_
        refine XL_nil ?_
        subst hx31
        kernel_rfl
       exact ⟨n, Nat.lt_succ_self n, _, _,  by rfl, h⟩
      ·have h := of_false h hc27
       refine V_skip ?_
       show V _ _ _ _
       obtain ⟨x32, hx32, h⟩ := of_sI h
       refine V_reg (mb 107 486) [88, 16] (s1 := ⟨.bot :: I vn2 :: .pt 16 0 :: .bot :: .bot :: .ow 88 :: I y3 :: I y5 :: I x32 :: bt 98 [], [(88, .arr 97 2 (j17.map c97)), (16, .box [Ti f1.1, Ti f1.2.1, Ti f1.2.2])]⟩) ?_ ?_
       ·refine L0 rfl rfl (E_move (I x7) rfl (by kernel_rfl)) ?_
        refine L0 rfl rfl (Y0_add64 (a := x7) (b := 1) rfl (by kernel_rfl) (by kernel_rfl)) ?_
        refine L0 rfl rfl (E_assign (I (w64 (x7 + 1))) rfl (by kernel_rfl)) ?_
        refine XL_nil ?_
        subst hx32
        kernel_rfl
       exact ⟨n, Nat.lt_succ_self n, _, _,  by rfl, h⟩
    ·have h := of_false h hc11
     refine V_exit ?_
     obtain rfl := some_inj h
     show St.keep _ _ _ = _
     rfl
  show V _ _ _ _
  refine V_sreg (mb 107 16) [88] (s1 := ⟨bt 4 (.ow 88 :: bt 102 []), [(88, .arr 97 2 (o10.map c97))]⟩) ?_ ?_
  ·refine L0 rfl rfl (E_move (.ow 88) rfl (by kernel_rfl)) ?_
   refine L0 rfl rfl (E_assign (.ow 88) rfl (by kernel_rfl)) ?_
   refine XL_nil ?_
   kernel_rfl
  refine V_ret ?_
  obtain rfl := some_inj h
  show Post _ _ _ _ _
  exact ⟨.inr rfl, rfl, rfl, rfl⟩
theorem cf_impl_Form_theta : ∀ args w, (callFunc 96 args).run Try.prog w = .ok (.enter 96 args) w := run_callFunc Try.func96 (by kernel_rfl) (by kernel_rfl)
set_option maxRecDepth 100000 in
set_option maxHeartbeats 400000 in
theorem s_impl_Form_theta {f1 : (Int × Int × Int)} {vn2 : Int} {r : List Int} (h : r_impl_Form_theta f1 vn2 = some r) : CallS Try.prog 96 [.ag [Ti f1.1, Ti f1.2.1, Ti f1.2.2], I vn2] (.ow 0) [(0, .arr 3 1 (r.map c3))] := by
  refine CallS_of_text (rs := [.t 4]) (vs := [.tmp 4]) Try.func96 rfl rfl (.cons rfl FitsL.nil) (by decide) 24 rfl ?_
  unfold r_impl_Form_theta at h
  show V _ _ ⟨.ag [Ti f1.1, Ti f1.2.1, Ti f1.2.2] :: I vn2 :: bt 22 [], []⟩ _
  refine V_sreg (mb 24 6) [16] (s1 := ⟨.bot :: I vn2 :: .pt 16 0 :: bt 21 [], [(16, .box [Ti f1.1, Ti f1.2.1, Ti f1.2.2])]⟩) ?_ ?_
  ·refine L1 rfl rfl (Y1_box (cs := [Ti f1.1, Ti f1.2.1, Ti f1.2.2]) rfl (by kernel_rfl)) ?_
   refine L1 rfl rfl (Y1_nil (e := 3) 1 (by decide) (.inl rfl)) ?_
   refine XL_nil ?_
   kernel_rfl
  obtain ⟨y3, hy3, h⟩ := of_bind h
  refine V_sreg (mb 24 34) [40] (s1 := ⟨.bot :: I vn2 :: bt 3 (.pt 40 0 :: bt 18 []), [(40, .box [Ti y3.1, Ti y3.2.1, Ti y3.2.2])]⟩) ?_ ?_
  ·refine L0 rfl rfl (E_loadn (cs := [Ti f1.1, Ti f1.2.1, Ti f1.2.2]) [Ti f1.1, Ti f1.2.1, Ti f1.2.2] wd43 rfl (by kernel_rfl) (Nat.le_of_ble_eq_true rfl) (by kernel_rfl)) ?_
   refine L1 rfl rfl (Y1_call (s_impl_reduced hy3) cf_impl_reduced rfl (by kernel_rfl)) ?_
   refine L1 rfl rfl (Y1_alloc (z := zv43) rfl zf43 rfl) ?_
   refine XL_cons rfl (E_store (id := 40) (off := 0) (cs := [Ti 0, Ti 0, Ti 0]) (vc := [Ti y3.1, Ti y3.2.1, Ti y3.2.2]) [Ti y3.1, Ti y3.2.1, Ti y3.2.2] rfl rfl (by kernel_rfl) (by kernel_rfl) (by kernel_rfl) sz43 (Nat.le_of_ble_eq_true rfl) (by kernel_rfl)) ?_
   refine XL_nil ?_
   kernel_rfl
  refine V_sreg (mb 24 98) [80, 40] (s1 := ⟨.bot :: I vn2 :: bt 3 (.pt 40 0 :: .ow 80 :: bt 17 []), [(80, .arr 3 1 (([1]).map c3)), (40, .box [Ti y3.1, Ti y3.2.1, Ti y3.2.2])]⟩) ?_ ?_
  ·refine L1 rfl rfl (Y1_bslice (z := zv3) (els := [1].map c3) Try.underlying28 iz3 rfl (by decide) rfl (by kernel_rfl) rfl (by simp [c3]) (by decide) (by decide)) ?_
   refine L0 rfl rfl (E_assign (.ow 80) rfl (by kernel_rfl)) ?_
   refine XL_nil ?_
   kernel_rfl
  refine V_seq ?_
  refine V_sreg (mb 24 226) [80, 40] (s1 := ⟨.bot :: I vn2 :: bt 3 (.pt 40 0 :: .ow 80 :: I 1 :: bt 16 []), [(80, .arr 3 1 (([1]).map c3)), (40, .box [Ti y3.1, Ti y3.2.1, Ti y3.2.2])]⟩) ?_ ?_
  ·refine L0 rfl rfl (E_assign (I 1) rfl (by kernel_rfl)) ?_
   refine XL_nil ?_
   kernel_rfl
  obtain ⟨o7, hLo7, h⟩ := of_bind h
  refine V_toK (mb 24 64) [80] (s1 := ⟨bt 6 (.ow 80 :: bt 17 []), [(80, .arr 3 1 (o7.map c3))]⟩) ?_ ?_
  ·clear h
   refine V_block (V_loop (fun n s => ∃ (vm4 : Int) (l5 : List Int), s.keep (mb 24 226) [80, 40] = (⟨.bot :: I vn2 :: bt 3 (.pt 40 0 :: .ow 80 :: I vm4 :: bt 16 []), [(80, .arr 3 1 (l5.map c3)), (40, .box [Ti y3.1, Ti y3.2.1, Ti y3.2.2])]⟩ : St) ∧ r_impl_Form_theta_L6 vn2 y3 n vm4 l5 = some o7) FU ⟨_, _,  by rfl, hLo7⟩ ?_)
   clear hLo7
   rintro n s ⟨vm4, l5, hs, h⟩
   refine V_keep _ _ hs ?_
   clear hs
   cases n with
   | zero => cases h
   | succ n =>
    rw [r_impl_Form_theta_L6] at h
    refine V_seq ?_
    refine V_sreg (mb 24 8418) [80, 40] (s1 := ⟨.bot :: I vn2 :: bt 3 (.pt 40 0 :: .ow 80 :: I vm4 :: bt 5 (Bo (leI vm4 vn2) :: bt 10 [])), [(80, .arr 3 1 (l5.map c3)), (40, .box [Ti y3.1, Ti y3.2.1, Ti y3.2.2])]⟩) ?_ ?_
    ·refine L0 rfl rfl (E_move (I vm4) rfl (by kernel_rfl)) ?_
     refine L0 rfl rfl (E_move (I vn2) rfl (by kernel_rfl)) ?_
     refine L0 rfl rfl (Y0_lew (k := .i64) (a := vm4) (b := vn2) rfl (by kernel_rfl) (by kernel_rfl)) ?_
     refine XL_nil ?_
     kernel_rfl
    refine V_cond rfl (fun hc8 => ?_) (fun hc8 => ?_)
    ·have h := of_true h hc8
     refine V_skip ?_
     show V _ _ _ _
     refine V_seq ?_
     refine V_block ?_
     obtain ⟨y9, hy9, h⟩ := of_bind h
     obtain ⟨u10, hu10, h⟩ := of_bind h
     refine V_reg (mb 24 226) [80, 40] (s1 := ⟨.bot :: I vn2 :: bt 3 (.pt 40 0 :: .ow 80 :: I vm4 :: bt 16 []), [(80, .arr 3 1 ((l5 ++ ([(y9.length : Int)])).map c3)), (40, .box [Ti y3.1, Ti y3.2.1, Ti y3.2.2])]⟩) ?_ ?_
     ·refine L0 rfl rfl (E_move (.ow 80) rfl (by kernel_rfl)) ?_
      refine L0 rfl rfl (E_loadn (cs := [Ti y3.1, Ti y3.2.1, Ti y3.2.2]) [Ti y3.1, Ti y3.2.1, Ti y3.2.2] wd43 rfl (by kernel_rfl) (Nat.le_of_ble_eq_true rfl) (by kernel_rfl)) ?_
      refine L0 rfl rfl (E_move (I vm4) rfl (by kernel_rfl)) ?_
      refine L1 rfl rfl (Y1_call (s_impl_Form_points hy9) cf_impl_Form_points rfl (by kernel_rfl)) ?_
      refine L0 rfl rfl (Y0_lenM (c := c97) (xs := y9) Try.underlying73 rfl (by kernel_rfl)) ?_
      refine L1 rfl rfl (Y1_bslice (z := zv3) (els := [(y9.length : Int)].map c3) Try.underlying28 iz3 rfl (by decide) rfl (by kernel_rfl) rfl (by simp [c3]) (by decide) (by decide)) ?_
      refine XL_cons rfl (X_appendM (c := c3) (xs := l5) (ys := [(y9.length : Int)]) (id := 80) (z := zv3) rfl rfl Try.underlying28 izb3 rfl (by kernel_rfl) (by kernel_rfl) (by kernel_rfl) (fun _ => rfl) (by simp) (room_some hu10) (by decide)) ?_
      refine L0 rfl rfl (E_assign (.ow 80) rfl (by kernel_rfl)) ?_
      refine XL_nil ?_
      kernel_rfl
     show V _ _ _ _
     obtain ⟨vm11, hvm11, h⟩ := of_sI h
     refine V_reg (mb 24 226) [80, 40] (s1 := ⟨.bot :: I vn2 :: bt 3 (.pt 40 0 :: .ow 80 :: I vm11 :: bt 16 []), [(80, .arr 3 1 ((l5 ++ ([(y9.length : Int)])).map c3)), (40, .box [Ti y3.1, Ti y3.2.1, Ti y3.2.2])]⟩) ?_ ?_
     ·refine L0 rfl rfl (E_move (I vm4) rfl (by kernel_rfl)) ?_
      refine L0 rfl rfl (Y0_add64 (a := vm4) (b := 1) rfl (by kernel_rfl) (by kernel_rfl)) ?_
      refine L0 rfl rfl (E_assign (I (w64 (vm4 + 1))) rfl (by kernel_rfl)) ?_
      refine XL_nil ?_
      subst hvm11
      kernel_rfl
     exact ⟨n, Nat.lt_succ_self n, _, _,  by rfl, h⟩
    ·have h := of_false h hc8
     refine V_exit ?_
     obtain rfl := some_inj h
     show St.keep _ _ _ = _
     rfl
  show V _ _ _ _
  refine V_sreg (mb 24 16) [80] (s1 := ⟨bt 4 (.ow 80 :: bt 19 []), [(80, .arr 3 1 (o7.map c3))]⟩) ?_ ?_
  ·refine L0 rfl rfl (E_move (.ow 80) rfl (by kernel_rfl)) ?_
   refine L0 rfl rfl (E_assign (.ow 80) rfl (by kernel_rfl)) ?_
   refine XL_nil ?_
   kernel_rfl
  refine V_ret ?_
  obtain rfl := some_inj h
  show Post _ _ _ _ _
  exact ⟨.inr rfl, rfl, rfl, rfl⟩
theorem cf_impl_thetaSum : ∀ args w, (callFunc 57 args).run Try.prog w = .ok (.enter 57 args) w := run_callFunc Try.func57 (by kernel_rfl) (by kernel_rfl)
set_option maxRecDepth 100000 in
set_option maxHeartbeats 400000 in
theorem s_impl_thetaSum {forms1 : List ((Int × Int × Int))} {vn2 : Int} {r : List Int} (h : r_impl_thetaSum forms1 vn2 = some r) : CallS Try.prog 57 [.c (.sl (forms1.map c43)), I vn2] (.ow 0) [(0, .arr 3 1 (r.map c3))] := by
  refine CallS_of_text (rs := [.t 4]) (vs := [.tmp 4]) Try.func57 rfl rfl (.cons rfl FitsL.nil) (by decide) 38 rfl ?_
  unfold r_impl_thetaSum at h
  show V _ _ ⟨.c (.sl (forms1.map c43)) :: I vn2 :: bt 36 [], []⟩ _
  refine V_sreg (mb 38 3) [] (s1 := ⟨.c (.sl (forms1.map c43)) :: I vn2 :: bt 36 [], []⟩) ?_ ?_
  ·refine L1 rfl rfl (Y1_nil (e := 3) 1 (by decide) (.inl rfl)) ?_
   refine XL_nil ?_
   kernel_rfl
  obtain ⟨u3, hu3, h⟩ := of_bind h
  refine V_sreg (mb 38 35) [96] (s1 := ⟨.c (.sl (forms1.map c43)) :: I vn2 :: bt 3 (.ow 96 :: bt 32 []), [(96, .arr 3 1 ((List.replicate (Int.toNat (w64 (vn2 + 1))) ((0 : Int))).map c3))]⟩) ?_ ?_
  ·refine L0 rfl rfl (E_move (I vn2) rfl (by kernel_rfl)) ?_
   refine L0 rfl rfl (Y0_add64 (a := vn2) (b := 1) rfl (by kernel_rfl) (by kernel_rfl)) ?_
   refine L1 rfl rfl (Y1_make (c := c3) (zx := (0 : Int)) (z := zv3) (l := w64 (vn2 + 1)) (k := w64 (vn2 + 1)) Try.underlying28 izb3 rfl rfl (by decide) rfl rfl (by kernel_rfl) (by kernel_rfl) (mk_some hu3) (by decide)) ?_
   refine L0 rfl rfl (E_assign (.ow 96) rfl (by kernel_rfl)) ?_
   refine XL_nil ?_
   kernel_rfl
  refine V_seq ?_
  refine V_sreg (mb 38 57378) [96] (s1 := ⟨.bot :: I vn2 :: bt 3 (.ow 96 :: bt 7 (.c (.sl (forms1.map c43)) :: I ((forms1.length : Int)) :: I 0 :: bt 22 [])), [(96, .arr 3 1 ((List.replicate (Int.toNat (w64 (vn2 + 1))) ((0 : Int))).map c3))]⟩) ?_ ?_
  ·refine L0 rfl rfl (E_move (.c (.sl (forms1.map c43))) rfl (by kernel_rfl)) ?_
   refine L0 rfl rfl (Y0_lenM (c := c43) (xs := forms1) Try.underlying40 rfl (by kernel_rfl)) ?_
   refine L0 rfl rfl (E_move (I 0) rfl (by kernel_rfl)) ?_
   refine XL_nil ?_
   kernel_rfl
  obtain ⟨o7, hLo7, h⟩ := of_bind h
  refine V_toK (mb 38 32) [96] (s1 := ⟨bt 5 (.ow 96 :: bt 32 []), [(96, .arr 3 1 (o7.map c3))]⟩) ?_ ?_
  ·clear h
   refine V_block (V_loop (fun n s => ∃ (t4 : Int) (l5 : List Int), s.keep (mb 38 57378) [96] = (⟨.bot :: I vn2 :: bt 3 (.ow 96 :: bt 7 (.c (.sl (forms1.map c43)) :: I ((forms1.length : Int)) :: I t4 :: bt 22 [])), [(96, .arr 3 1 (l5.map c3))]⟩ : St) ∧ r_impl_thetaSum_L6 forms1 vn2 n t4 l5 = some o7) FU ⟨_, _,  by rfl, hLo7⟩ ?_)
   clear hLo7
   rintro n s ⟨t4, l5, hs, h⟩
   refine V_keep _ _ hs ?_
   clear hs
   cases n with
   | zero => cases h
   | succ n =>
    rw [r_impl_thetaSum_L6] at h
    refine V_sreg (mb 38 122914) [96] (s1 := ⟨.bot :: I vn2 :: bt 3 (.ow 96 :: bt 7 (.c (.sl (forms1.map c43)) :: I ((forms1.length : Int)) :: I t4 :: Bo (ltI t4 ((forms1.length : Int))) :: bt 21 [])), [(96, .arr 3 1 (l5.map c3))]⟩) ?_ ?_
    ·refine L0 rfl rfl (Y0_ltw (k := .i64) (a := t4) (b := (forms1.length : Int)) rfl (by kernel_rfl) (by kernel_rfl)) ?_
     refine XL_nil ?_
     kernel_rfl
    refine V_seq ?_
    refine V_cond rfl (fun hc8 => ?_) (fun hc8 => ?_)
    ·have h := of_true h hc8
     refine V_skip ?_
     show V _ _ _ _
     refine V_seq ?_
     refine V_block ?_
     obtain ⟨e9, he9, h⟩ := of_bind h
     refine V_sreg (mb 38 57506) [56, 96] (s1 := ⟨.bot :: I vn2 :: bt 3 (.ow 96 :: .bot :: .pt 56 0 :: bt 5 (.c (.sl (forms1.map c43)) :: I ((forms1.length : Int)) :: I t4 :: bt 22 [])), [(56, .box [Ti e9.1, Ti e9.2.1, Ti e9.2.2]), (96, .arr 3 1 (l5.map c3))]⟩) ?_ ?_
     ·refine L0 rfl rfl (Y0_idxM (c := c43) (xs := forms1) (v := e9) (n := t4) Try.underlying40 sz43 rfl (by kernel_rfl) (by kernel_rfl) he9) ?_
      refine L0 rfl rfl (E_loadn (cs := [Ti e9.1, Ti e9.2.1, Ti e9.2.2]) [Ti e9.1, Ti e9.2.1, Ti e9.2.2] wd43 rfl (by kernel_rfl) (Nat.le_of_ble_eq_true rfl) (by kernel_rfl)) ?_
      refine L1 rfl rfl (Y1_alloc (z := zv43) rfl zf43 rfl) ?_
      refine XL_cons rfl (E_store (id := 56) (off := 0) (cs := [Ti 0, Ti 0, Ti 0]) (vc := [Ti e9.1, Ti e9.2.1, Ti e9.2.2]) [Ti e9.1, Ti e9.2.1, Ti e9.2.2] rfl rfl (by kernel_rfl) (by kernel_rfl) (by kernel_rfl) sz43 (Nat.le_of_ble_eq_true rfl) (by kernel_rfl)) ?_
      refine XL_nil ?_
      kernel_rfl
     obtain ⟨y10, hy10, h⟩ := of_bind h
     refine V_sreg (mb 38 14737442) [168, 96] (s1 := ⟨.bot :: I vn2 :: bt 3 (.ow 96 :: bt 7 (.c (.sl (forms1.map c43)) :: I ((forms1.length : Int)) :: I t4 :: bt 5 (.ow 168 :: I ((y10.length : Int)) :: I 0 :: bt 14 []))), [(168, .arr 3 1 (y10.map c3)), (96, .arr 3 1 (l5.map c3))]⟩) ?_ ?_
     ·refine L0 rfl rfl (E_loadn (cs := [Ti e9.1, Ti e9.2.1, Ti e9.2.2]) [Ti e9.1, Ti e9.2.1, Ti e9.2.2] wd43 rfl (by kernel_rfl) (Nat.le_of_ble_eq_true rfl) (by kernel_rfl)) ?_
      refine L0 rfl rfl (E_move (I vn2) rfl (by kernel_rfl)) ?_
      refine L1 rfl rfl (Y1_call (s_impl_Form_theta hy10) cf_impl_Form_theta rfl (by kernel_rfl)) ?_
      refine L0 rfl rfl (Y0_lenM (c := c3) (xs := y10) Try.underlying28 rfl (by kernel_rfl)) ?_
      refine L0 rfl rfl (E_move (I 0) rfl (by kernel_rfl)) ?_
      refine XL_nil ?_
      kernel_rfl
     obtain ⟨o14, hLo14, h⟩ := of_bind h
     refine V_toK (mb 38 57378) [96] (s1 := ⟨.bot :: I vn2 :: bt 3 (.ow 96 :: bt 7 (.c (.sl (forms1.map c43)) :: I ((forms1.length : Int)) :: I t4 :: bt 22 [])), [(96, .arr 3 1 (o14.map c3))]⟩) ?_ ?_
     ·clear h
      refine V_block (V_loop (fun n s => ∃ (t11 : Int) (l12 : List Int), s.keep (mb 38 14737442) [168, 96] = (⟨.bot :: I vn2 :: bt 3 (.ow 96 :: bt 7 (.c (.sl (forms1.map c43)) :: I ((forms1.length : Int)) :: I t4 :: bt 5 (.ow 168 :: I ((y10.length : Int)) :: I t11 :: bt 14 []))), [(168, .arr 3 1 (y10.map c3)), (96, .arr 3 1 (l12.map c3))]⟩ : St) ∧ r_impl_thetaSum_L13 forms1 t4 vn2 y10 n t11 l12 = some o14) FU ⟨_, _,  by rfl, hLo14⟩ ?_)
      clear hLo14
      rintro n s ⟨t11, l12, hs, h⟩
      refine V_keep _ _ hs ?_
      clear hs
      cases n with
      | zero => cases h
      | succ n =>
       rw [r_impl_thetaSum_L13] at h
       refine V_sreg (mb 38 31514658) [168, 96] (s1 := ⟨.bot :: I vn2 :: bt 3 (.ow 96 :: bt 7 (.c (.sl (forms1.map c43)) :: I ((forms1.length : Int)) :: I t4 :: bt 5 (.ow 168 :: I ((y10.length : Int)) :: I t11 :: Bo (ltI t11 ((y10.length : Int))) :: bt 13 []))), [(168, .arr 3 1 (y10.map c3)), (96, .arr 3 1 (l12.map c3))]⟩) ?_ ?_
       ·refine L0 rfl rfl (Y0_ltw (k := .i64) (a := t11) (b := (y10.length : Int)) rfl (by kernel_rfl) (by kernel_rfl)) ?_
        refine XL_nil ?_
        kernel_rfl
       refine V_seq ?_
       refine V_cond rfl (fun hc15 => ?_) (fun hc15 => ?_)
       ·have h := of_true h hc15
        refine V_skip ?_
        show V _ _ _ _
        refine V_seq ?_
        refine V_block ?_
        obtain ⟨e16, he16, h⟩ := of_bind h
        obtain ⟨e17, he17, h⟩ := of_bind h
        refine V_sreg (mb 38 14738210) [168, 96] (s1 := ⟨.bot :: I vn2 :: bt 3 (.ow 96 :: .bot :: .bot :: I t11 :: I e17 :: bt 3 (.c (.sl (forms1.map c43)) :: I ((forms1.length : Int)) :: I t4 :: bt 5 (.ow 168 :: I ((y10.length : Int)) :: I t11 :: bt 14 []))), [(168, .arr 3 1 (y10.map c3)), (96, .arr 3 1 (l12.map c3))]⟩) ?_ ?_
        ·refine L0 rfl rfl (E_move (I t11) rfl (by kernel_rfl)) ?_
         refine L0 rfl rfl (Y0_idxoM (c := c3) (xs := y10) (v := e16) (id := 168) (T := 3) (sz := 1) (n := t11) Try.underlying28 sz3 rfl (by kernel_rfl) (by kernel_rfl) (by kernel_rfl) he16) ?_
         refine L0 rfl rfl (Y0_loado1 (c := c3) (xs := y10) (v := e17) (id := 168) (sz := 1) (T := 3) (off := 0) (n := t11) (d := Ti e17) (ds := []) sc3 rfl (by kernel_rfl) (by kernel_rfl) he17 (by kernel_rfl)) ?_
         refine L0 rfl rfl (E_assign (I t11) rfl (by kernel_rfl)) ?_
         refine L0 rfl rfl (E_assign (I e17) rfl (by kernel_rfl)) ?_
         refine XL_nil ?_
         kernel_rfl
        obtain ⟨e18, he18, h⟩ := of_bind h
        obtain ⟨e19, he19, h⟩ := of_bind h
        obtain ⟨e20, he20, h⟩ := of_bind h
        obtain ⟨e21, he21, h⟩ := of_bind h
        refine V_reg (mb 38 14737442) [168, 96] (s1 := ⟨.bot :: I vn2 :: bt 3 (.ow 96 :: bt 7 (.c (.sl (forms1.map c43)) :: I ((forms1.length : Int)) :: I t4 :: bt 5 (.ow 168 :: I ((y10.length : Int)) :: I t11 :: bt 14 []))), [(168, .arr 3 1 (y10.map c3)), (96, .arr 3 1 ((l12.set (Int.toNat (t11)) (w64 (e19 + e17))).map c3))]⟩) ?_ ?_
        ·refine L0 rfl rfl (E_move (.ow 96) rfl (by kernel_rfl)) ?_
         refine L0 rfl rfl (E_move (I t11) rfl (by kernel_rfl)) ?_
         refine L0 rfl rfl (Y0_idxoM (c := c3) (xs := l12) (v := e18) (id := 96) (T := 3) (sz := 1) (n := t11) Try.underlying28 sz3 rfl (by kernel_rfl) (by kernel_rfl) (by kernel_rfl) he18) ?_
         refine L0 rfl rfl (Y0_loado1 (c := c3) (xs := l12) (v := e19) (id := 96) (sz := 1) (T := 3) (off := 0) (n := t11) (d := Ti e19) (ds := []) sc3 rfl (by kernel_rfl) (by kernel_rfl) he19 (by kernel_rfl)) ?_
         refine L0 rfl rfl (E_move (I e17) rfl (by kernel_rfl)) ?_
         refine L0 rfl rfl (Y0_add64 (a := e19) (b := e17) rfl (by kernel_rfl) (by kernel_rfl)) ?_
         refine L0 rfl rfl (Y0_idxoM (c := c3) (xs := l12) (v := e20) (id := 96) (T := 3) (sz := 1) (n := t11) Try.underlying28 sz3 rfl (by kernel_rfl) (by kernel_rfl) (by kernel_rfl) he20) ?_
         refine XL_cons rfl (X_storeoM (c := c3) (xs := l12) (v := e21) (u := w64 (e19 + e17)) (id := 96) (sz := 1) (off := 0) (T0 := 3) (n := t11) (vc := [Ti (w64 (e19 + e17))]) rfl rfl (by kernel_rfl) (by kernel_rfl) he21 (by kernel_rfl) sz3 (Nat.le_of_ble_eq_true rfl) (by kernel_rfl)) ?_
         refine XL_nil ?_
         kernel_rfl
        show V _ _ _ _
        obtain ⟨t22, ht22, h⟩ := of_sI h
        refine V_reg (mb 38 14737442) [168, 96] (s1 := ⟨.bot :: I vn2 :: bt 3 (.ow 96 :: bt 7 (.c (.sl (forms1.map c43)) :: I ((forms1.length : Int)) :: I t4 :: bt 5 (.ow 168 :: I ((y10.length : Int)) :: I t22 :: bt 14 []))), [(168, .arr 3 1 (y10.map c3)), (96, .arr 3 1 ((l12.set (Int.toNat (t11)) (w64 (e19 + e17))).map c3))]⟩) ?_ ?_
        ·refine L0 rfl rfl (Y0_add64 (a := t11) (b := 1) rfl (by kernel_rfl) (by kernel_rfl)) ?_
         refine L0 rfl rfl (E_move (I (w64 (t11 + 1))) rfl (by kernel_rfl)) ?_
         refine XL_nil ?_
         subst ht22
         kernel_rfl
        exact ⟨n, Nat.lt_succ_self n, _, _,  by rfl, h⟩
       ·have h := of_false h hc15
        refine V_exit ?_
        obtain rfl := some_inj h
        show St.keep _ _ _ = _
        rfl
     show V _ _ _ _
     obtain ⟨t23, ht23, h⟩ := of_sI h
     refine V_reg (mb 38 57378) [96] (s1 := ⟨.bot :: I vn2 :: bt 3 (.ow 96 :: bt 7 (.c (.sl (forms1.map c43)) :: I ((forms1.length : Int)) :: I t23 :: bt 22 [])), [(96, .arr 3 1 (o14.map c3))]⟩) ?_ ?_
     ·refine L0 rfl rfl (Y0_add64 (a := t4) (b := 1) rfl (by kernel_rfl) (by kernel_rfl)) ?_
      refine L0 rfl rfl (E_move (I (w64 (t4 + 1))) rfl (by kernel_rfl)) ?_
      refine XL_nil ?_
      subst ht23
      kernel_rfl
     exact ⟨n, Nat.lt_succ_self n, _, _,  by rfl, h⟩
    ·have h := of_false h hc8
     refine V_exit ?_
     obtain rfl := some_inj h
     show St.keep _ _ _ = _
     rfl
  show V _ _ _ _
  refine V_sreg (mb 38 16) [96] (s1 := ⟨bt 4 (.ow 96 :: bt 33 []), [(96, .arr 3 1 (o7.map c3))]⟩) ?_ ?_
  ·refine L0 rfl rfl (E_move (.ow 96) rfl (by kernel_rfl)) ?_
   refine L0 rfl rfl (E_assign (.ow 96) rfl (by kernel_rfl)) ?_
   refine XL_nil ?_
   kernel_rfl
  refine V_ret ?_
  obtain rfl := some_inj h
  show Post _ _ _ _ _
  exact ⟨.inr rfl, rfl, rfl, rfl⟩
theorem cf_impl_ClassSum : ∀ args w, (callFunc 21 args).run Try.prog w = .ok (.enter 21 args) w := run_callFunc Try.func21 (by kernel_rfl) (by kernel_rfl)
set_option maxRecDepth 100000 in
set_option maxHeartbeats 400000 in
theorem s_impl_ClassSum {d1 : Int} {vn2 : Int} {r : ((List Int) × Bool)} (h : r_impl_ClassSum d1 vn2 = some r) : CallS Try.prog 21 [I d1, I vn2] (.tc (.ow 0) (.tc (Bo r.2) .tn)) [(0, .arr 3 1 (r.1.map c3))] := by
  refine CallS_of_text (rs := [.t 4, .t 5]) (vs := [.tmp 4, .tmp 5]) Try.func21 rfl rfl (.cons rfl (.cons rfl FitsL.nil)) (by decide) 19 rfl ?_
  unfold r_impl_ClassSum at h
  show V _ _ ⟨I d1 :: I vn2 :: bt 17 [], []⟩ _
  refine V_sreg (mb 19 3) [] (s1 := ⟨I d1 :: I vn2 :: bt 17 [], []⟩) ?_ ?_
  ·refine L1 rfl rfl (Y1_nil (e := 3) 1 (by decide) (.inl rfl)) ?_
   refine L0 rfl rfl (E_assign (Bo false) rfl (by kernel_rfl)) ?_
   refine XL_nil ?_
   kernel_rfl
  refine V_seq ?_
  obtain ⟨y3, hy3, h⟩ := of_bind h
  obtain ⟨b6, hb6, h⟩ := of_bind h
  refine V_sreg (mb 19 8195) [] (s1 := ⟨I d1 :: I vn2 :: bt 11 (Bo b6 :: bt 5 []), []⟩) ?_ ?_
  ·refine L0 rfl rfl (E_move (I d1) rfl (by kernel_rfl)) ?_
   refine L1 rfl rfl (Y1_call (s_impl_isNegativeDisc hy3) cf_impl_isNegativeDisc rfl (by kernel_rfl)) ?_
   refine L0 rfl rfl (Y0_not (b := y3) rfl (by kernel_rfl)) ?_
   refine L0 rfl rfl (E_move (Bo (!y3)) rfl (by kernel_rfl)) ?_
   refine XL_split (!y3) (fun hc4 => ?_) (fun hc4 => ?_)
   ·have hb6 := some_inj (of_true hb6 hc4)
    refine XL_skipF _ rfl rfl (by kernel_rfl) hc4 rfl ?_
    refine XL_skipF _ rfl rfl (by kernel_rfl) hc4 rfl ?_
    refine XL_skipF _ rfl rfl (by kernel_rfl) hc4 rfl ?_
    refine XL_cons rfl (X_of_Y0 rfl (Y0_pickTe (b := !y3) (p := true) rfl (by kernel_rfl) hc4 (by kernel_rfl) hb6)) ?_
    refine XL_nil ?_
    kernel_rfl
   ·have hb6 := of_false hb6 hc4
    obtain ⟨y5, hy5, hb6⟩ := of_bind hb6
    have hb6 := some_inj hb6
    refine XL_takeC _ rfl rfl (by kernel_rfl) hc4 (X_of_Y0 rfl (E_move (I vn2) rfl (by kernel_rfl))) ?_
    refine XL_takeC _ rfl rfl (by kernel_rfl) hc4 (X_of_Y1 rfl (Y1_call (s_impl_isTerms hy5) cf_impl_isTerms rfl (by kernel_rfl))) ?_
    refine XL_takeC _ rfl rfl (by kernel_rfl) hc4 (X_of_Y0 rfl (Y0_not (b := y5) rfl (by kernel_rfl))) ?_
    refine XL_cons rfl (X_of_Y0 rfl (Y0_pickFe (b := !y3) (p := !y5) rfl (by kernel_rfl) hc4 (by kernel_rfl) hb6)) ?_
    refine XL_nil ?_
    kernel_rfl
  refine V_cond rfl (fun hc7 => ?_) (fun hc7 => ?_)
  ·have h := of_true h hc7
   refine V_sreg (mb 19 48) [112] (s1 := ⟨bt 4 (.ow 112 :: Bo false :: bt 13 []), [(112, .arr 3 1 ((([] : List Int)).map c3))]⟩) ?_ ?_
   ·refine L1 rfl rfl (Y1_bslice0 Try.underlying28 sz3 (by decide) rfl rfl) ?_
    refine L0 rfl rfl (E_assign (.ow 112) rfl (by kernel_rfl)) ?_
    refine L0 rfl rfl (E_assign (Bo false) rfl (by kernel_rfl)) ?_
    refine XL_nil ?_
    kernel_rfl
   refine V_ret ?_
   obtain rfl := some_inj h
   show Post _ _ _ _ _
   exact ⟨.inr rfl, rfl, rfl, rfl⟩
  ·have h := of_false h hc7
   refine V_skip ?_
   show V _ _ _ _
   obtain ⟨y8, hy8, h⟩ := of_bind h
   obtain ⟨y9, hy9, h⟩ := of_bind h
   refine V_sreg (mb 19 48) [144] (s1 := ⟨bt 4 (.ow 144 :: Bo true :: bt 13 []), [(144, .arr 3 1 (y9.map c3))]⟩) ?_ ?_
   ·refine L0 rfl rfl (E_move (I d1) rfl (by kernel_rfl)) ?_
    refine L1 rfl rfl (Y1_call (s_impl_reducedForms hy8) cf_impl_reducedForms rfl (by kernel_rfl)) ?_
    refine L0 rfl rfl (E_move (I vn2) rfl (by kernel_rfl)) ?_
    refine L1 rfl rfl (Y1_callS (s_impl_thetaSum hy9) cf_impl_thetaSum rfl (by kernel_rfl) rfl (flatE_cons (fun _ => rfl) rfl)) ?_
    refine L0 rfl rfl (E_assign (.ow 144) rfl (by kernel_rfl)) ?_
    refine L0 rfl rfl (E_assign (Bo true) rfl (by kernel_rfl)) ?_
    refine XL_nil ?_
    kernel_rfl
   refine V_ret ?_
   obtain rfl := some_inj h
   show Post _ _ _ _ _
   exact ⟨.inr rfl, rfl, rfl, rfl⟩
theorem cf_spec_l1In : ∀ args w, (callFunc 99 args).run Try.prog w = .ok (.enter 99 args) w := run_callFunc Try.func99 (by kernel_rfl) (by kernel_rfl)
set_option maxRecDepth 100000 in
set_option maxHeartbeats 400000 in
theorem s_spec_l1In {vn1 : Int} {lo2 : Int} {hi3 : Int} {r : Bool} (h : r_spec_l1In vn1 lo2 hi3 = some r) : CallS Try.prog 99 [I vn1, I lo2, I hi3] (Bo r) [] := by
  refine CallS_of_text (rs := [.t 6]) (vs := [.tmp 6]) Try.func99 rfl rfl (.cons rfl FitsL.nil) (by decide) 15 rfl ?_
  unfold r_spec_l1In at h
  show V _ _ ⟨I vn1 :: I lo2 :: I hi3 :: bt 12 [], []⟩ _
  refine V_sreg (mb 15 7) [] (s1 := ⟨I vn1 :: I lo2 :: I hi3 :: bt 12 [], []⟩) ?_ ?_
  ·refine L0 rfl rfl (E_assign (Bo false) rfl (by kernel_rfl)) ?_
   refine XL_nil ?_
   kernel_rfl
  refine V_sreg (mb 15 64) [] (s1 := ⟨bt 6 (Bo (bif (leI lo2 vn1) then (leI vn1 hi3) else false) :: bt 8 []), []⟩) ?_ ?_
  ·refine L0 rfl rfl (E_move (I vn1) rfl (by kernel_rfl)) ?_
   refine L0 rfl rfl (E_move (I lo2) rfl (by kernel_rfl)) ?_
   refine L0 rfl rfl (Y0_gew (k := .i64) (a := vn1) (b := lo2) rfl (by kernel_rfl) (by kernel_rfl)) ?_
   refine L0 rfl rfl (E_move (Bo (leI lo2 vn1)) rfl (by kernel_rfl)) ?_
   refine XL_split (leI lo2 vn1) (fun hc4 => ?_) (fun hc4 => ?_)
   ·refine XL_takeC _ rfl rfl (by kernel_rfl) hc4 (X_of_Y0 rfl (E_move (I vn1) rfl (by kernel_rfl))) ?_
    refine XL_takeC _ rfl rfl (by kernel_rfl) hc4 (X_of_Y0 rfl (E_move (I hi3) rfl (by kernel_rfl))) ?_
    refine XL_takeC _ rfl rfl (by kernel_rfl) hc4 (X_of_Y0 rfl (Y0_lew (k := .i64) (a := vn1) (b := hi3) rfl (by kernel_rfl) (by kernel_rfl))) ?_
    refine XL_cons rfl (X_of_Y0 rfl (Y0_pick1 (b := leI lo2 vn1) (p := leI vn1 hi3) (q := false) rfl (by kernel_rfl) hc4 (by kernel_rfl))) ?_
    refine L0 rfl rfl (E_assign (Bo (bif (leI lo2 vn1) then (leI vn1 hi3) else false)) rfl (by kernel_rfl)) ?_
    refine XL_nil ?_
    kernel_rfl
   ·refine XL_skipT _ rfl rfl (by kernel_rfl) hc4 rfl ?_
    refine XL_skipT _ rfl rfl (by kernel_rfl) hc4 rfl ?_
    refine XL_skipT _ rfl rfl (by kernel_rfl) hc4 rfl ?_
    refine XL_cons rfl (X_of_Y0 rfl (Y0_pick0 (b := leI lo2 vn1) (p := leI vn1 hi3) (q := false) rfl (by kernel_rfl) hc4 (by kernel_rfl))) ?_
    refine L0 rfl rfl (E_assign (Bo (bif (leI lo2 vn1) then (leI vn1 hi3) else false)) rfl (by kernel_rfl)) ?_
    refine XL_nil ?_
    kernel_rfl
  refine V_ret ?_
  obtain rfl := some_inj h
  show Post _ _ _ _ _
  exact ⟨.inr rfl, rfl, rfl, rfl⟩
theorem cf_spec_reDisc : ∀ args w, (callFunc 59 args).run Try.prog w = .ok (.enter 59 args) w := run_callFunc Try.func59 (by kernel_rfl) (by kernel_rfl)
set_option maxRecDepth 100000 in
set_option maxHeartbeats 400000 in
theorem s_spec_reDisc {d1 : Int} {r : Bool} (h : r_spec_reDisc d1 = some r) : CallS Try.prog 59 [I d1] (Bo r) [] := by
  refine CallS_of_text (rs := [.t 2]) (vs := [.tmp 2]) Try.func59 rfl rfl (.cons rfl FitsL.nil) (by decide) 10 rfl ?_
  unfold r_spec_reDisc at h
  show V _ _ ⟨I d1 :: bt 9 [], []⟩ _
  refine V_sreg (mb 10 1) [] (s1 := ⟨I d1 :: bt 9 [], []⟩) ?_ ?_
  ·refine L0 rfl rfl (E_assign (Bo false) rfl (by kernel_rfl)) ?_
   refine XL_nil ?_
   kernel_rfl
  obtain ⟨y2, hy2, h⟩ := of_bind h
  obtain ⟨b5, hb5, h⟩ := of_bind h
  refine V_sreg (mb 10 4) [] (s1 := ⟨.bot :: .bot :: Bo b5 :: bt 7 [], []⟩) ?_ ?_
  ·refine L0 rfl rfl (E_move (I d1) rfl (by kernel_rfl)) ?_
   refine L1 rfl rfl (Y1_call (s_spec_l1In hy2) cf_spec_l1In rfl (by kernel_rfl)) ?_
   refine L0 rfl rfl (E_move (Bo y2) rfl (by kernel_rfl)) ?_
   refine XL_split y2 (fun hc3 => ?_) (fun hc3 => ?_)
   ·have hb5 := of_true hb5 hc3
    obtain ⟨y4, hy4, hb5⟩ := of_bind hb5
    have hb5 := some_inj hb5
    refine XL_takeC _ rfl rfl (by kernel_rfl) hc3 (X_of_Y0 rfl (E_move (I d1) rfl (by kernel_rfl))) ?_
    refine XL_takeC _ rfl rfl (by kernel_rfl) hc3 (X_of_Y1 rfl (Y1_call (s_spec_nuMod hy4) cf_spec_nuMod rfl (by kernel_rfl))) ?_
    refine XL_takeC _ rfl rfl (by kernel_rfl) hc3 (X_of_Y0 rfl (Y0_ltw (k := .i64) (a := y4) (b := 2) rfl (by kernel_rfl) (by kernel_rfl))) ?_
    refine XL_cons rfl (X_of_Y0 rfl (Y0_pickTe (b := y2) (p := ltI y4 2) rfl (by kernel_rfl) hc3 (by kernel_rfl) hb5)) ?_
    refine L0 rfl rfl (E_assign (Bo b5) rfl (by kernel_rfl)) ?_
    refine XL_nil ?_
    kernel_rfl
   ·have hb5 := some_inj (of_false hb5 hc3)
    refine XL_skipT _ rfl rfl (by kernel_rfl) hc3 rfl ?_
    refine XL_skipT _ rfl rfl (by kernel_rfl) hc3 rfl ?_
    refine XL_skipT _ rfl rfl (by kernel_rfl) hc3 rfl ?_
    refine XL_cons rfl (X_of_Y0 rfl (Y0_pickFe (b := y2) (p := false) rfl (by kernel_rfl) hc3 (by kernel_rfl) hb5)) ?_
    refine L0 rfl rfl (E_assign (Bo b5) rfl (by kernel_rfl)) ?_
    refine XL_nil ?_
    kernel_rfl
  refine V_ret ?_
  obtain rfl := some_inj h
  show Post _ _ _ _ _
  exact ⟨.inr rfl, rfl, rfl, rfl⟩
theorem cf_spec_thTerms : ∀ args w, (callFunc 60 args).run Try.prog w = .ok (.enter 60 args) w := run_callFunc Try.func60 (by kernel_rfl) (by kernel_rfl)
set_option maxRecDepth 100000 in
set_option maxHeartbeats 400000 in
theorem s_spec_thTerms {vn1 : Int} {r : Bool} (h : r_spec_thTerms vn1 = some r) : CallS Try.prog 60 [I vn1] (Bo r) [] := by
  refine CallS_of_text (rs := [.t 2]) (vs := [.tmp 2]) Try.func60 rfl rfl (.cons rfl FitsL.nil) (by decide) 5 rfl ?_
  unfold r_spec_thTerms at h
  show V _ _ ⟨I vn1 :: bt 4 [], []⟩ _
  refine V_sreg (mb 5 1) [] (s1 := ⟨I vn1 :: bt 4 [], []⟩) ?_ ?_
  ·refine L0 rfl rfl (E_assign (Bo false) rfl (by kernel_rfl)) ?_
   refine XL_nil ?_
   kernel_rfl
  obtain ⟨y2, hy2, h⟩ := of_bind h
  refine V_sreg (mb 5 4) [] (s1 := ⟨.bot :: .bot :: Bo y2 :: .bot :: .bot :: [], []⟩) ?_ ?_
  ·refine L0 rfl rfl (E_move (I vn1) rfl (by kernel_rfl)) ?_
   refine L1 rfl rfl (Y1_call (s_spec_l1In hy2) cf_spec_l1In rfl (by kernel_rfl)) ?_
   refine L0 rfl rfl (E_assign (Bo y2) rfl (by kernel_rfl)) ?_
   refine XL_nil ?_
   kernel_rfl
  refine V_ret ?_
  obtain rfl := some_inj h
  show Post _ _ _ _ _
  exact ⟨.inr rfl, rfl, rfl, rfl⟩
theorem cf_spec_foDisc : ∀ args w, (callFunc 127 args).run Try.prog w = .ok (.enter 127 args) w := run_callFunc Try.func127 (by kernel_rfl) (by kernel_rfl)
set_option maxRecDepth 100000 in
set_option maxHeartbeats 400000 in
theorem s_spec_foDisc {f1 : (Int × Int × Int)} {r : Int} (h : r_spec_foDisc f1 = some r) : CallS Try.prog 127 [.ag [Ti f1.1, Ti f1.2.1, Ti f1.2.2]] (I r) [] := by
  refine CallS_of_text (rs := [.t 2]) (vs := [.tmp 2]) Try.func127 rfl rfl (.cons rfl FitsL.nil) (by decide) 15 rfl ?_
  unfold r_spec_foDisc at h
  show V _ _ ⟨.ag [Ti f1.1, Ti f1.2.1, Ti f1.2.2] :: bt 14 [], []⟩ _
  refine V_sreg (mb 15 2) [8] (s1 := ⟨.bot :: .pt 8 0 :: bt 13 [], [(8, .box [Ti f1.1, Ti f1.2.1, Ti f1.2.2])]⟩) ?_ ?_
  ·refine L1 rfl rfl (Y1_box (cs := [Ti f1.1, Ti f1.2.1, Ti f1.2.2]) rfl (by kernel_rfl)) ?_
   refine L0 rfl rfl (E_assign (I 0) rfl (by kernel_rfl)) ?_
   refine XL_nil ?_
   kernel_rfl
  obtain ⟨t2, ht2, h⟩ := of_sI h
  refine V_sreg (mb 15 4) [] (s1 := ⟨.bot :: .bot :: I t2 :: bt 12 [], []⟩) ?_ ?_
  ·refine L0 rfl rfl (E_field (.pt 8 1) Try.underlying43 rfl sz3 rfl (by kernel_rfl) (by intro hh; cases hh)) ?_
   refine L0 rfl rfl (Y0_load1 (c := Ti f1.2.1) (cs := [Ti f1.2.2]) sc3 rfl (by kernel_rfl)) ?_
   refine L0 rfl rfl (E_field (.pt 8 1) Try.underlying43 rfl sz3 rfl (by kernel_rfl) (by intro hh; cases hh)) ?_
   refine L0 rfl rfl (Y0_load1 (c := Ti f1.2.1) (cs := [Ti f1.2.2]) sc3 rfl (by kernel_rfl)) ?_
   refine L0 rfl rfl (Y0_mul64 (a := f1.2.1) (b := f1.2.1) rfl (by kernel_rfl) (by kernel_rfl)) ?_
   refine L0 rfl rfl (E_field (.pt 8 0) Try.underlying43 rfl sz3 rfl (by kernel_rfl) (by intro hh; cases hh)) ?_
   refine L0 rfl rfl (Y0_load1 (c := Ti f1.1) (cs := [Ti f1.2.1, Ti f1.2.2]) sc3 rfl (by kernel_rfl)) ?_
   refine L0 rfl rfl (Y0_mul64 (a := 4) (b := f1.1) rfl (by kernel_rfl) (by kernel_rfl)) ?_
   refine L0 rfl rfl (E_field (.pt 8 2) Try.underlying43 rfl sz3 rfl (by kernel_rfl) (by intro hh; cases hh)) ?_
   refine L0 rfl rfl (Y0_load1 (c := Ti f1.2.2) (cs := []) sc3 rfl (by kernel_rfl)) ?_
   refine L0 rfl rfl (Y0_mul64 (a := w64 (4 * f1.1)) (b := f1.2.2) rfl (by kernel_rfl) (by kernel_rfl)) ?_
   refine L0 rfl rfl (Y0_sub64 (a := w64 (f1.2.1 * f1.2.1)) (b := w64 ((w64 (4 * f1.1)) * f1.2.2)) rfl (by kernel_rfl) (by kernel_rfl)) ?_
   refine L0 rfl rfl (E_assign (I (w64 ((w64 (f1.2.1 * f1.2.1)) - (w64 ((w64 (4 * f1.1)) * f1.2.2))))) rfl (by kernel_rfl)) ?_
   refine XL_nil ?_
   subst ht2
   kernel_rfl
  refine V_ret ?_
  obtain rfl := some_inj h
  show Post _ _ _ _ _
  exact ⟨.inr rfl, rfl, rfl, rfl⟩
theorem cf_spec_reIs : ∀ args w, (callFunc 128 args).run Try.prog w = .ok (.enter 128 args) w := run_callFunc Try.func128 (by kernel_rfl) (by kernel_rfl)
set_option maxRecDepth 100000 in
set_option maxHeartbeats 400000 in
theorem s_spec_reIs {f1 : (Int × Int × Int)} {r : Bool} (h : r_spec_reIs f1 = some r) : CallS Try.prog 128 [.ag [Ti f1.1, Ti f1.2.1, Ti f1.2.2]] (Bo r) [] := by
  refine CallS_of_text (rs := [.t 2]) (vs := [.tmp 2]) Try.func128 rfl rfl (.cons rfl FitsL.nil) (by decide) 35 rfl ?_
  unfold r_spec_reIs at h
  show V _ _ ⟨.ag [Ti f1.1, Ti f1.2.1, Ti f1.2.2] :: bt 34 [], []⟩ _
  refine V_sreg (mb 35 2) [8] (s1 := ⟨.bot :: .pt 8 0 :: bt 33 [], [(8, .box [Ti f1.1, Ti f1.2.1, Ti f1.2.2])]⟩) ?_ ?_
  ·refine L1 rfl rfl (Y1_box (cs := [Ti f1.1, Ti f1.2.1, Ti f1.2.2]) rfl (by kernel_rfl)) ?_
   refine L0 rfl rfl (E_assign (Bo false) rfl (by kernel_rfl)) ?_
   refine XL_nil ?_
   kernel_rfl
  obtain ⟨t6, ht6, h⟩ := of_bind h
  have ht6 := some_inj ht6
  refine V_sreg (mb 35 4) [] (s1 := ⟨.bot :: .bot :: Bo t6 :: bt 32 [], []⟩) ?_ ?_
  ·refine L0 rfl rfl (E_field (.pt 8 0) Try.underlying43 rfl sz3 rfl (by kernel_rfl) (by intro hh; cases hh)) ?_
   refine L0 rfl rfl (Y0_load1 (c := Ti f1.1) (cs := [Ti f1.2.1, Ti f1.2.2]) sc3 rfl (by kernel_rfl)) ?_
   refine L0 rfl rfl (Y0_neg64 (a := f1.1) rfl (by kernel_rfl)) ?_
   refine L0 rfl rfl (E_field (.pt 8 1) Try.underlying43 rfl sz3 rfl (by kernel_rfl) (by intro hh; cases hh)) ?_
   refine L0 rfl rfl (Y0_load1 (c := Ti f1.2.1) (cs := [Ti f1.2.2]) sc3 rfl (by kernel_rfl)) ?_
   refine L0 rfl rfl (Y0_ltw (k := .i64) (a := w64 (0 - f1.1)) (b := f1.2.1) rfl (by kernel_rfl) (by kernel_rfl)) ?_
   refine L0 rfl rfl (E_move (Bo (ltI (w64 (0 - f1.1)) f1.2.1)) rfl (by kernel_rfl)) ?_
   refine XL_split (ltI (w64 (0 - f1.1)) f1.2.1) (fun hc2 => ?_) (fun hc2 => ?_)
   ·refine XL_takeC _ rfl rfl (by kernel_rfl) hc2 (X_of_Y0 rfl (E_field (.pt 8 1) Try.underlying43 rfl sz3 rfl (by kernel_rfl) (by intro hh; cases hh))) ?_
    refine XL_takeC _ rfl rfl (by kernel_rfl) hc2 (X_of_Y0 rfl (Y0_load1 (c := Ti f1.2.1) (cs := [Ti f1.2.2]) sc3 rfl (by kernel_rfl))) ?_
    refine XL_takeC _ rfl rfl (by kernel_rfl) hc2 (X_of_Y0 rfl (E_field (.pt 8 0) Try.underlying43 rfl sz3 rfl (by kernel_rfl) (by intro hh; cases hh))) ?_
    refine XL_takeC _ rfl rfl (by kernel_rfl) hc2 (X_of_Y0 rfl (Y0_load1 (c := Ti f1.1) (cs := [Ti f1.2.1, Ti f1.2.2]) sc3 rfl (by kernel_rfl))) ?_
    refine XL_takeC _ rfl rfl (by kernel_rfl) hc2 (X_of_Y0 rfl (Y0_lew (k := .i64) (a := f1.2.1) (b := f1.1) rfl (by kernel_rfl) (by kernel_rfl))) ?_
    refine XL_cons rfl (X_of_Y0 rfl (Y0_pick1 (b := ltI (w64 (0 - f1.1)) f1.2.1) (p := leI f1.2.1 f1.1) (q := false) rfl (by kernel_rfl) hc2 (by kernel_rfl))) ?_
    refine L0 rfl rfl (E_move (Bo (bif (ltI (w64 (0 - f1.1)) f1.2.1) then (leI f1.2.1 f1.1) else false)) rfl (by kernel_rfl)) ?_
    refine XL_split (bif (ltI (w64 (0 - f1.1)) f1.2.1) then (leI f1.2.1 f1.1) else false) (fun hc3 => ?_) (fun hc3 => ?_)
    ·refine XL_takeC _ rfl rfl (by kernel_rfl) hc3 (X_of_Y0 rfl (E_field (.pt 8 0) Try.underlying43 rfl sz3 rfl (by kernel_rfl) (by intro hh; cases hh))) ?_
     refine XL_takeC _ rfl rfl (by kernel_rfl) hc3 (X_of_Y0 rfl (Y0_load1 (c := Ti f1.1) (cs := [Ti f1.2.1, Ti f1.2.2]) sc3 rfl (by kernel_rfl))) ?_
     refine XL_takeC _ rfl rfl (by kernel_rfl) hc3 (X_of_Y0 rfl (E_field (.pt 8 2) Try.underlying43 rfl sz3 rfl (by kernel_rfl) (by intro hh; cases hh))) ?_
     refine XL_takeC _ rfl rfl (by kernel_rfl) hc3 (X_of_Y0 rfl (Y0_load1 (c := Ti f1.2.2) (cs := []) sc3 rfl (by kernel_rfl))) ?_
     refine XL_takeC _ rfl rfl (by kernel_rfl) hc3 (X_of_Y0 rfl (Y0_ltw (k := .i64) (a := f1.1) (b := f1.2.2) rfl (by kernel_rfl) (by kernel_rfl))) ?_
     refine XL_takeC _ rfl rfl (by kernel_rfl) hc3 (X_of_Y0 rfl (E_move (Bo (ltI f1.1 f1.2.2)) rfl (by kernel_rfl))) ?_
     refine XL_split (ltI f1.1 f1.2.2) (fun hc4 => ?_) (fun hc4 => ?_)
     ·refine XL_skipF _ rfl rfl (by kernel_rfl) hc4 rfl ?_
      refine XL_skipF _ rfl rfl (by kernel_rfl) hc4 rfl ?_
      refine XL_skipF _ rfl rfl (by kernel_rfl) hc4 rfl ?_
      refine XL_skipF _ rfl rfl (by kernel_rfl) hc4 rfl ?_
      refine XL_skipF _ rfl rfl (by kernel_rfl) hc4 rfl ?_
      refine XL_skipF _ rfl rfl (by kernel_rfl) hc4 rfl ?_
      refine XL_skip2 rfl rfl (by kernel_rfl) rfl ?_
      refine XL_skip2 rfl rfl (by kernel_rfl) rfl ?_
      refine XL_skip2 rfl rfl (by kernel_rfl) rfl ?_
      refine XL_skipF _ rfl rfl (by kernel_rfl) hc4 rfl ?_
      refine XL_takeC _ rfl rfl (by kernel_rfl) hc3 (X_of_Y0 rfl (Y0_pick1 (b := ltI f1.1 f1.2.2) (p := true) (q := bif (eqI f1.1 f1.2.2) then (leI 0 f1.2.1) else false) rfl (by kernel_rfl) hc4 (by kernel_rfl))) ?_
      refine XL_cons rfl (X_of_Y0 rfl (Y0_pick1 (b := bif (ltI (w64 (0 - f1.1)) f1.2.1) then (leI f1.2.1 f1.1) else false) (p := bif (ltI f1.1 f1.2.2) then true else (bif (eqI f1.1 f1.2.2) then (leI 0 f1.2.1) else false)) (q := false) rfl (by kernel_rfl) hc3 (by kernel_rfl))) ?_
      refine L0 rfl rfl (E_assign (Bo (bif (bif (ltI (w64 (0 - f1.1)) f1.2.1) then (leI f1.2.1 f1.1) else false) then (bif (ltI f1.1 f1.2.2) then true else (bif (eqI f1.1 f1.2.2) then (leI 0 f1.2.1) else false)) else false)) rfl (by kernel_rfl)) ?_
      refine XL_nil ?_
      subst ht6
      kernel_rfl
     ·refine XL_takeC _ rfl rfl (by kernel_rfl) hc4 (X_of_Y0 rfl (E_field (.pt 8 0) Try.underlying43 rfl sz3 rfl (by kernel_rfl) (by intro hh; cases hh))) ?_
      refine XL_takeC _ rfl rfl (by kernel_rfl) hc4 (X_of_Y0 rfl (Y0_load1 (c := Ti f1.1) (cs := [Ti f1.2.1, Ti f1.2.2]) sc3 rfl (by kernel_rfl))) ?_
      refine XL_takeC _ rfl rfl (by kernel_rfl) hc4 (X_of_Y0 rfl (E_field (.pt 8 2) Try.underlying43 rfl sz3 rfl (by kernel_rfl) (by intro hh; cases hh))) ?_
      refine XL_takeC _ rfl rfl (by kernel_rfl) hc4 (X_of_Y0 rfl (Y0_load1 (c := Ti f1.2.2) (cs := []) sc3 rfl (by kernel_rfl))) ?_
      refine XL_takeC _ rfl rfl (by kernel_rfl) hc4 (X_of_Y0 rfl (Y0_eqw (k := .i64) (a := f1.1) (b := f1.2.2) rfl (by kernel_rfl) (by kernel_rfl))) ?_
      refine XL_takeC _ rfl rfl (by kernel_rfl) hc4 (X_of_Y0 rfl (E_move (Bo (eqI f1.1 f1.2.2)) rfl (by kernel_rfl))) ?_
      refine XL_split (eqI f1.1 f1.2.2) (fun hc5 => ?_) (fun hc5 => ?_)
      ·refine XL_takeC _ rfl rfl (by kernel_rfl) hc5 (X_of_Y0 rfl (E_field (.pt 8 1) Try.underlying43 rfl sz3 rfl (by kernel_rfl) (by intro hh; cases hh))) ?_
       refine XL_takeC _ rfl rfl (by kernel_rfl) hc5 (X_of_Y0 rfl (Y0_load1 (c := Ti f1.2.1) (cs := [Ti f1.2.2]) sc3 rfl (by kernel_rfl))) ?_
       refine XL_takeC _ rfl rfl (by kernel_rfl) hc5 (X_of_Y0 rfl (Y0_gew (k := .i64) (a := f1.2.1) (b := 0) rfl (by kernel_rfl) (by kernel_rfl))) ?_
       refine XL_takeC _ rfl rfl (by kernel_rfl) hc4 (X_of_Y0 rfl (Y0_pick1 (b := eqI f1.1 f1.2.2) (p := leI 0 f1.2.1) (q := false) rfl (by kernel_rfl) hc5 (by kernel_rfl))) ?_
       refine XL_takeC _ rfl rfl (by kernel_rfl) hc3 (X_of_Y0 rfl (Y0_pick0 (b := ltI f1.1 f1.2.2) (p := true) (q := bif (eqI f1.1 f1.2.2) then (leI 0 f1.2.1) else false) rfl (by kernel_rfl) hc4 (by kernel_rfl))) ?_
       refine XL_cons rfl (X_of_Y0 rfl (Y0_pick1 (b := bif (ltI (w64 (0 - f1.1)) f1.2.1) then (leI f1.2.1 f1.1) else false) (p := bif (ltI f1.1 f1.2.2) then true else (bif (eqI f1.1 f1.2.2) then (leI 0 f1.2.1) else false)) (q := false) rfl (by kernel_rfl) hc3 (by kernel_rfl))) ?_
       refine L0 rfl rfl (E_assign (Bo (bif (bif (ltI (w64 (0 - f1.1)) f1.2.1) then (leI f1.2.1 f1.1) else false) then (bif (ltI f1.1 f1.2.2) then true else (bif (eqI f1.1 f1.2.2) then (leI 0 f1.2.1) else false)) else false)) rfl (by kernel_rfl)) ?_
       refine XL_nil ?_
       subst ht6
       kernel_rfl
      ·refine XL_skipT _ rfl rfl (by kernel_rfl) hc5 rfl ?_
       refine XL_skipT _ rfl rfl (by kernel_rfl) hc5 rfl ?_
       refine XL_skipT _ rfl rfl (by kernel_rfl) hc5 rfl ?_
       refine XL_takeC _ rfl rfl (by kernel_rfl) hc4 (X_of_Y0 rfl (Y0_pick0 (b := eqI f1.1 f1.2.2) (p := leI 0 f1.2.1) (q := false) rfl (by kernel_rfl) hc5 (by kernel_rfl))) ?_
       refine XL_takeC _ rfl rfl (by kernel_rfl) hc3 (X_of_Y0 rfl (Y0_pick0 (b := ltI f1.1 f1.2.2) (p := true) (q := bif (eqI f1.1 f1.2.2) then (leI 0 f1.2.1) else false) rfl (by kernel_rfl) hc4 (by kernel_rfl))) ?_
       refine XL_cons rfl (X_of_Y0 rfl (Y0_pick1 (b := bif (ltI (w64 (0 - f1.1)) f1.2.1) then (leI f1.2.1 f1.1) else false) (p := bif (ltI f1.1 f1.2.2) then true else (bif (eqI f1.1 f1.2.2) then (leI 0 f1.2.1) else false)) (q := false) rfl (by kernel_rfl) hc3 (by kernel_rfl))) ?_
       refine L0 rfl rfl (E_assign (Bo (bif (bif (ltI (w64 (0 - f1.1)) f1.2.1) then (leI f1.2.1 f1.1) else false) then (bif (ltI f1.1 f1.2.2) then true else (bif (eqI f1.1 f1.2.2) then (leI 0 f1.2.1) else false)) else false)) rfl (by kernel_rfl)) ?_
       refine XL_nil ?_
       subst ht6
       kernel_rfl
    ·refine XL_skipT _ rfl rfl (by kernel_rfl) hc3 rfl ?_
     refine XL_skipT _ rfl rfl (by kernel_rfl) hc3 rfl ?_
     refine XL_skipT _ rfl rfl (by kernel_rfl) hc3 rfl ?_
     refine XL_skipT _ rfl rfl (by kernel_rfl) hc3 rfl ?_
     refine XL_skipT _ rfl rfl (by kernel_rfl) hc3 rfl ?_
     refine XL_skipT _ rfl rfl (by kernel_rfl) hc3 rfl ?_
     refine XL_skip2 rfl rfl (by kernel_rfl) rfl ?_
     refine XL_skip2 rfl rfl (by kernel_rfl) rfl ?_
     refine XL_skip2 rfl rfl (by kernel_rfl) rfl ?_
     refine XL_skip2 rfl rfl (by kernel_rfl) rfl ?_
     refine XL_skip2 rfl rfl (by kernel_rfl) rfl ?_
     refine XL_skip2 rfl rfl (by kernel_rfl) rfl ?_
     refine XL_skip2 rfl rfl (by kernel_rfl) rfl ?_
     refine XL_skip2 rfl rfl (by kernel_rfl) rfl ?_
     refine XL_skip2 rfl rfl (by kernel_rfl) rfl ?_
     refine XL_skip2 rfl rfl (by kernel_rfl) rfl ?_
     refine XL_skipT _ rfl rfl (by kernel_rfl) hc3 rfl ?_
     refine XL_cons rfl (X_of_Y0 rfl (Y0_pick0 (b := bif (ltI (w64 (0 - f1.1)) f1.2.1) then (leI f1.2.1 f1.1) else false) (p := bif (ltI f1.1 f1.2.2) then true else (bif (eqI f1.1 f1.2.2) then (leI 0 f1.2.1) else false)) (q := false) rfl (by kernel_rfl) hc3 (by kernel_rfl))) ?_
     refine L0 rfl rfl (E_assign (Bo (bif (bif (ltI (w64 (0 - f1.1)) f1.2.1) then (leI f1.2.1 f1.1) else false) then (bif (ltI f1.1 f1.2.2) then true else (bif (eqI f1.1 f1.2.2) then (leI 0 f1.2.1) else false)) else false)) rfl (by kernel_rfl)) ?_
     refine XL_nil ?_
     subst ht6
     kernel_rfl
   ·refine XL_skipT _ rfl rfl (by kernel_rfl) hc2 rfl ?_
    refine XL_skipT _ rfl rfl (by kernel_rfl) hc2 rfl ?_
    refine XL_skipT _ rfl rfl (by kernel_rfl) hc2 rfl ?_
    refine XL_skipT _ rfl rfl (by kernel_rfl) hc2 rfl ?_
    refine XL_skipT _ rfl rfl (by kernel_rfl) hc2 rfl ?_
    refine XL_cons rfl (X_of_Y0 rfl (Y0_pick0 (b := ltI (w64 (0 - f1.1)) f1.2.1) (p := leI f1.2.1 f1.1) (q := false) rfl (by kernel_rfl) hc2 (by kernel_rfl))) ?_
    refine L0 rfl rfl (E_move (Bo (bif (ltI (w64 (0 - f1.1)) f1.2.1) then (leI f1.2.1 f1.1) else false)) rfl (by kernel_rfl)) ?_
    refine XL_split (bif (ltI (w64 (0 - f1.1)) f1.2.1) then (leI f1.2.1 f1.1) else false) (fun hc3 => ?_) (fun hc3 => ?_)
    ·refine XL_takeC _ rfl rfl (by kernel_rfl) hc3 (X_of_Y0 rfl (E_field (.pt 8 0) Try.underlying43 rfl sz3 rfl (by kernel_rfl) (by intro hh; cases hh))) ?_
     refine XL_takeC _ rfl rfl (by kernel_rfl) hc3 (X_of_Y0 rfl (Y0_load1 (c := Ti f1.1) (cs := [Ti f1.2.1, Ti f1.2.2]) sc3 rfl (by kernel_rfl))) ?_
     refine XL_takeC _ rfl rfl (by kernel_rfl) hc3 (X_of_Y0 rfl (E_field (.pt 8 2) Try.underlying43 rfl sz3 rfl (by kernel_rfl) (by intro hh; cases hh))) ?_
     refine XL_takeC _ rfl rfl (by kernel_rfl) hc3 (X_of_Y0 rfl (Y0_load1 (c := Ti f1.2.2) (cs := []) sc3 rfl (by kernel_rfl))) ?_
     refine XL_takeC _ rfl rfl (by kernel_rfl) hc3 (X_of_Y0 rfl (Y0_ltw (k := .i64) (a := f1.1) (b := f1.2.2) rfl (by kernel_rfl) (by kernel_rfl))) ?_
     refine XL_takeC _ rfl rfl (by kernel_rfl) hc3 (X_of_Y0 rfl (E_move (Bo (ltI f1.1 f1.2.2)) rfl (by kernel_rfl))) ?_
     refine XL_split (ltI f1.1 f1.2.2) (fun hc4 => ?_) (fun hc4 => ?_)
     ·refine XL_skipF _ rfl rfl (by kernel_rfl) hc4 rfl ?_
      refine XL_skipF _ rfl rfl (by kernel_rfl) hc4 rfl ?_
      refine XL_skipF _ rfl rfl (by kernel_rfl) hc4 rfl ?_
      refine XL_skipF _ rfl rfl (by kernel_rfl) hc4 rfl ?_
      refine XL_skipF _ rfl rfl (by kernel_rfl) hc4 rfl ?_
      refine XL_skipF _ rfl rfl (by kernel_rfl) hc4 rfl ?_
      refine XL_skip2 rfl rfl (by kernel_rfl) rfl ?_
      refine XL_skip2 rfl rfl (by kernel_rfl) rfl ?_
      refine XL_skip2 rfl rfl (by kernel_rfl) rfl ?_
      refine XL_skipF _ rfl rfl (by kernel_rfl) hc4 rfl ?_
      refine XL_takeC _ rfl rfl (by kernel_rfl) hc3 (X_of_Y0 rfl (Y0_pick1 (b := ltI f1.1 f1.2.2) (p := true) (q := bif (eqI f1.1 f1.2.2) then (leI 0 f1.2.1) else false) rfl (by kernel_rfl) hc4 (by kernel_rfl))) ?_
      refine XL_cons rfl (X_of_Y0 rfl (Y0_pick1 (b := bif (ltI (w64 (0 - f1.1)) f1.2.1) then (leI f1.2.1 f1.1) else false) (p := bif (ltI f1.1 f1.2.2) then true else (bif (eqI f1.1 f1.2.2) then (leI 0 f1.2.1) else false)) (q := false) rfl (by kernel_rfl) hc3 (by kernel_rfl))) ?_
      refine L0 rfl rfl (E_assign (Bo (bif (bif (ltI (w64 (0 - f1.1)) f1.2.1) then (leI f1.2.1 f1.1) else false) then (bif (ltI f1.1 f1.2.2) then true else (bif (eqI f1.1 f1.2.2) then (leI 0 f1.2.1) else false)) else false)) rfl (by kernel_rfl)) ?_
      refine XL_nil ?_
      subst ht6
      kernel_rfl
     ·refine XL_takeC _ rfl rfl (by kernel_rfl) hc4 (X_of_Y0 rfl (E_field (.pt 8 0) Try.underlying43 rfl sz3 rfl (by kernel_rfl) (by intro hh; cases hh))) ?_
      refine XL_takeC _ rfl rfl (by kernel_rfl) hc4 (X_of_Y0 rfl (Y0_load1 (c := Ti f1.1) (cs := [Ti f1.2.1, Ti f1.2.2]) sc3 rfl (by kernel_rfl))) ?_
      refine XL_takeC _ rfl rfl (by kernel_rfl) hc4 (X_of_Y0 rfl (E_field (.pt 8 2) Try.underlying43 rfl sz3 rfl (by kernel_rfl) (by intro hh; cases hh))) ?_
      refine XL_takeC _ rfl rfl (by kernel_rfl) hc4 (X_of_Y0 rfl (Y0_load1 (c := Ti f1.2.2) (cs := []) sc3 rfl (by kernel_rfl))) ?_
      refine XL_takeC _ rfl rfl (by kernel_rfl) hc4 (X_of_Y0 rfl (Y0_eqw (k := .i64) (a := f1.1) (b := f1.2.2) rfl (by kernel_rfl) (by kernel_rfl))) ?_
      refine XL_takeC _ rfl rfl (by kernel_rfl) hc4 (X_of_Y0 rfl (E_move (Bo (eqI f1.1 f1.2.2)) rfl (by kernel_rfl))) ?_
      refine XL_split (eqI f1.1 f1.2.2) (fun hc5 => ?_) (fun hc5 => ?_)
      ·refine XL_takeC _ rfl rfl (by kernel_rfl) hc5 (X_of_Y0 rfl (E_field (.pt 8 1) Try.underlying43 rfl sz3 rfl (by kernel_rfl) (by intro hh; cases hh))) ?_
       refine XL_takeC _ rfl rfl (by kernel_rfl) hc5 (X_of_Y0 rfl (Y0_load1 (c := Ti f1.2.1) (cs := [Ti f1.2.2]) sc3 rfl (by kernel_rfl))) ?_
       refine XL_takeC _ rfl rfl (by kernel_rfl) hc5 (X_of_Y0 rfl (Y0_gew (k := .i64) (a := f1.2.1) (b := 0) rfl (by kernel_rfl) (by kernel_rfl))) ?_
       refine XL_takeC _ rfl rfl (by kernel_rfl) hc4 (X_of_Y0 rfl (Y0_pick1 (b := eqI f1.1 f1.2.2) (p := leI 0 f1.2.1) (q := false) rfl (by kernel_rfl) hc5 (by kernel_rfl))) ?_
       refine XL_takeC _ rfl rfl (by kernel_rfl) hc3 (X_of_Y0 rfl (Y0_pick0 (b := ltI f1.1 f1.2.2) (p := true) (q := bif (eqI f1.1 f1.2.2) then (leI 0 f1.2.1) else false) rfl (by kernel_rfl) hc4 (by kernel_rfl))) ?_
       refine XL_cons rfl (X_of_Y0 rfl (Y0_pick1 (b := bif (ltI (w64 (0 - f1.1)) f1.2.1) then (leI f1.2.1 f1.1) else false) (p := bif (ltI f1.1 f1.2.2) then true else (bif (eqI f1.1 f1.2.2) then (leI 0 f1.2.1) else false)) (q := false) rfl (by kernel_rfl) hc3 (by kernel_rfl))) ?_
       refine L0 rfl rfl (E_assign (Bo (bif (bif (ltI (w64 (0 - f1.1)) f1.2.1) then (leI f1.2.1 f1.1) else false) then (bif (ltI f1.1 f1.2.2) then true else (bif (eqI f1.1 f1.2.2) then (leI 0 f1.2.1) else false)) else false)) rfl (by kernel_rfl)) ?_
       refine XL_nil ?_
       subst ht6
       kernel_rfl
      ·refine XL_skipT _ rfl rfl (by kernel_rfl) hc5 rfl ?_
       refine XL_skipT _ rfl rfl (by kernel_rfl) hc5 rfl ?_
       refine XL_skipT _ rfl rfl (by kernel_rfl) hc5 rfl ?_
       refine XL_takeC _ rfl rfl (by kernel_rfl) hc4 (X_of_Y0 rfl (Y0_pick0 (b := eqI f1.1 f1.2.2) (p := leI 0 f1.2.1) (q := false) rfl (by kernel_rfl) hc5 (by kernel_rfl))) ?_
       refine XL_takeC _ rfl rfl (by kernel_rfl) hc3 (X_of_Y0 rfl (Y0_pick0 (b := ltI f1.1 f1.2.2) (p := true) (q := bif (eqI f1.1 f1.2.2) then (leI 0 f1.2.1) else false) rfl (by kernel_rfl) hc4 (by kernel_rfl))) ?_
       refine XL_cons rfl (X_of_Y0 rfl (Y0_pick1 (b := bif (ltI (w64 (0 - f1.1)) f1.2.1) then (leI f1.2.1 f1.1) else false) (p := bif (ltI f1.1 f1.2.2) then true else (bif (eqI f1.1 f1.2.2) then (leI 0 f1.2.1) else false)) (q := false) rfl (by kernel_rfl) hc3 (by kernel_rfl))) ?_
       refine L0 rfl rfl (E_assign (Bo (bif (bif (ltI (w64 (0 - f1.1)) f1.2.1) then (leI f1.2.1 f1.1) else false) then (bif (ltI f1.1 f1.2.2) then true else (bif (eqI f1.1 f1.2.2) then (leI 0 f1.2.1) else false)) else false)) rfl (by kernel_rfl)) ?_
       refine XL_nil ?_
       subst ht6
       kernel_rfl
    ·refine XL_skipT _ rfl rfl (by kernel_rfl) hc3 rfl ?_
     refine XL_skipT _ rfl rfl (by kernel_rfl) hc3 rfl ?_
     refine XL_skipT _ rfl rfl (by kernel_rfl) hc3 rfl ?_
     refine XL_skipT _ rfl rfl (by kernel_rfl) hc3 rfl ?_
     refine XL_skipT _ rfl rfl (by kernel_rfl) hc3 rfl ?_
     refine XL_skipT _ rfl rfl (by kernel_rfl) hc3 rfl ?_
     refine XL_skip2 rfl rfl (by kernel_rfl) rfl ?_
     refine XL_skip2 rfl rfl (by kernel_rfl) rfl ?_
     refine XL_skip2 rfl rfl (by kernel_rfl) rfl ?_
     refine XL_skip2 rfl rfl (by kernel_rfl) rfl ?_
     refine XL_skip2 rfl rfl (by kernel_rfl) rfl ?_
     refine XL_skip2 rfl rfl (by kernel_rfl) rfl ?_
     refine XL_skip2 rfl rfl (by kernel_rfl) rfl ?_
     refine XL_skip2 rfl rfl (by kernel_rfl) rfl ?_
     refine XL_skip2 rfl rfl (by kernel_rfl) rfl ?_
     refine XL_skip2 rfl rfl (by kernel_rfl) rfl ?_
     refine XL_skipT _ rfl rfl (by kernel_rfl) hc3 rfl ?_
     refine XL_cons rfl (X_of_Y0 rfl (Y0_pick0 (b := bif (ltI (w64 (0 - f1.1)) f1.2.1) then (leI f1.2.1 f1.1) else false) (p := bif (ltI f1.1 f1.2.2) then true else (bif (eqI f1.1 f1.2.2) then (leI 0 f1.2.1) else false)) (q := false) rfl (by kernel_rfl) hc3 (by kernel_rfl))) ?_
     refine L0 rfl rfl (E_assign (Bo (bif (bif (ltI (w64 (0 - f1.1)) f1.2.1) then (leI f1.2.1 f1.1) else false) then (bif (ltI f1.1 f1.2.2) then true else (bif (eqI f1.1 f1.2.2) then (leI 0 f1.2.1) else false)) else false)) rfl (by kernel_rfl)) ?_
     refine XL_nil ?_
     subst ht6
     kernel_rfl
  refine V_ret ?_
  obtain rfl := some_inj h
  show Post _ _ _ _ _
  exact ⟨.inr rfl, rfl, rfl, rfl⟩
theorem cf_spec_reAll : ∀ args w, (callFunc 101 args).run Try.prog w = .ok (.enter 101 args) w := run_callFunc Try.func101 (by kernel_rfl) (by kernel_rfl)
set_option maxRecDepth 100000 in
set_option maxHeartbeats 400000 in
theorem s_spec_reAll {d1 : Int} {r : List ((Int × Int × Int))} (h : r_spec_reAll d1 = some r) : CallS Try.prog 101 [I d1] (.ow 0) [(0, .arr 43 3 (r.map c43))] := by
  refine CallS_of_text (rs := [.t 2]) (vs := [.tmp 2]) Try.func101 rfl rfl (.cons rfl FitsL.nil) (by decide) 47 rfl ?_
  unfold r_spec_reAll at h
  show V _ _ ⟨I d1 :: bt 46 [], []⟩ _
  refine V_sreg (mb 47 1) [] (s1 := ⟨I d1 :: bt 46 [], []⟩) ?_ ?_
  ·refine L1 rfl rfl (Y1_nil (e := 43) 3 (by decide) (.inl rfl)) ?_
   refine XL_nil ?_
   kernel_rfl
  refine V_sreg (mb 47 9) [24] (s1 := ⟨I d1 :: .bot :: .bot :: .ow 24 :: bt 43 [], [(24, .arr 43 3 ((([] : List ((Int × Int × Int)))).map c43))]⟩) ?_ ?_
  ·refine L1 rfl rfl (Y1_nil (e := 43) 3 (by decide) (.inl rfl)) ?_
   refine XL_nil ?_
   kernel_rfl
  refine V_seq ?_
  refine V_sreg (mb 47 25) [24] (s1 := ⟨I d1 :: .bot :: .bot :: .ow 24 :: I 1 :: bt 42 [], [(24, .arr 43 3 ((([] : List ((Int × Int × Int)))).map c43))]⟩) ?_ ?_
  ·refine L0 rfl rfl (E_assign (I 1) rfl (by kernel_rfl)) ?_
   refine XL_nil ?_
   kernel_rfl
  obtain ⟨o5, hLo5, h⟩ := of_bind h
  refine V_toK (mb 47 8) [24] (s1 := ⟨bt 3 (.ow 24 :: bt 43 []), [(24, .arr 43 3 (o5.map c43))]⟩) ?_ ?_
  ·clear h
   refine V_block (V_loop (fun n s => ∃ (a2 : Int) (l3 : List ((Int × Int × Int))), s.keep (mb 47 25) [24] = (⟨I d1 :: .bot :: .bot :: .ow 24 :: I a2 :: bt 42 [], [(24, .arr 43 3 (l3.map c43))]⟩ : St) ∧ r_spec_reAll_L4 d1 n a2 l3 = some o5) FU ⟨_, _,  by rfl, hLo5⟩ ?_)
   clear hLo5
   rintro n s ⟨a2, l3, hs, h⟩
   refine V_keep _ _ hs ?_
   clear hs
   cases n with
   | zero => cases h
   | succ n =>
    rw [r_spec_reAll_L4] at h
    refine V_seq ?_
    refine V_sreg (mb 47 8217) [24] (s1 := ⟨I d1 :: .bot :: .bot :: .ow 24 :: I a2 :: bt 8 (Bo (leI (w64 ((w64 (3 * a2)) * a2)) (w64 (0 - d1))) :: bt 33 []), [(24, .arr 43 3 (l3.map c43))]⟩) ?_ ?_
    ·refine L0 rfl rfl (E_move (I a2) rfl (by kernel_rfl)) ?_
     refine L0 rfl rfl (Y0_mul64 (a := 3) (b := a2) rfl (by kernel_rfl) (by kernel_rfl)) ?_
     refine L0 rfl rfl (E_move (I a2) rfl (by kernel_rfl)) ?_
     refine L0 rfl rfl (Y0_mul64 (a := w64 (3 * a2)) (b := a2) rfl (by kernel_rfl) (by kernel_rfl)) ?_
     refine L0 rfl rfl (E_move (I d1) rfl (by kernel_rfl)) ?_
     refine L0 rfl rfl (Y0_neg64 (a := d1) rfl (by kernel_rfl)) ?_
     refine L0 rfl rfl (Y0_lew (k := .i64) (a := w64 ((w64 (3 * a2)) * a2)) (b := w64 (0 - d1)) rfl (by kernel_rfl) (by kernel_rfl)) ?_
     refine XL_nil ?_
     kernel_rfl
    refine V_cond rfl (fun hc6 => ?_) (fun hc6 => ?_)
    ·have h := of_true h hc6
     refine V_skip ?_
     show V _ _ _ _
     refine V_seq ?_
     refine V_block ?_
     obtain ⟨b7, hb7, h⟩ := of_sI h
     refine V_sreg (mb 47 57) [24] (s1 := ⟨I d1 :: .bot :: .bot :: .ow 24 :: I a2 :: I b7 :: bt 41 [], [(24, .arr 43 3 (l3.map c43))]⟩) ?_ ?_
     ·refine L0 rfl rfl (E_move (I a2) rfl (by kernel_rfl)) ?_
      refine L0 rfl rfl (Y0_sub64 (a := 1) (b := a2) rfl (by kernel_rfl) (by kernel_rfl)) ?_
      refine L0 rfl rfl (E_assign (I (w64 (1 - a2))) rfl (by kernel_rfl)) ?_
      refine XL_nil ?_
      subst hb7
      kernel_rfl
     obtain ⟨o11, hLo11, h⟩ := of_bind h
     refine V_toK (mb 47 25) [24] (s1 := ⟨I d1 :: .bot :: .bot :: .ow 24 :: I a2 :: bt 42 [], [(24, .arr 43 3 (o11.map c43))]⟩) ?_ ?_
     ·clear h
      refine V_block (V_loop (fun n s => ∃ (b8 : Int) (l9 : List ((Int × Int × Int))), s.keep (mb 47 57) [24] = (⟨I d1 :: .bot :: .bot :: .ow 24 :: I a2 :: I b8 :: bt 41 [], [(24, .arr 43 3 (l9.map c43))]⟩ : St) ∧ r_spec_reAll_L10 a2 d1 n b8 l9 = some o11) FU ⟨_, _,  by rfl, hLo11⟩ ?_)
      clear hLo11
      rintro n s ⟨b8, l9, hs, h⟩
      refine V_keep _ _ hs ?_
      clear hs
      cases n with
      | zero => cases h
      | succ n =>
       rw [r_spec_reAll_L10] at h
       refine V_seq ?_
       refine V_sreg (mb 47 1048633) [24] (s1 := ⟨I d1 :: .bot :: .bot :: .ow 24 :: I a2 :: I b8 :: bt 14 (Bo (leI b8 a2) :: bt 26 []), [(24, .arr 43 3 (l9.map c43))]⟩) ?_ ?_
       ·refine L0 rfl rfl (E_move (I b8) rfl (by kernel_rfl)) ?_
        refine L0 rfl rfl (E_move (I a2) rfl (by kernel_rfl)) ?_
        refine L0 rfl rfl (Y0_lew (k := .i64) (a := b8) (b := a2) rfl (by kernel_rfl) (by kernel_rfl)) ?_
        refine XL_nil ?_
        kernel_rfl
       refine V_cond rfl (fun hc12 => ?_) (fun hc12 => ?_)
       ·have h := of_true h hc12
        refine V_skip ?_
        show V _ _ _ _
        refine V_seq ?_
        refine V_block ?_
        obtain ⟨z13, hz13, h⟩ := of_bind h
        obtain ⟨f14, hf14, h⟩ := of_sI h
        refine V_sreg (mb 47 121) [48, 24] (s1 := ⟨I d1 :: .bot :: .bot :: .ow 24 :: I a2 :: I b8 :: .pt 48 0 :: bt 40 [], [(48, .box [Ti a2, Ti b8, Ti f14]), (24, .arr 43 3 (l9.map c43))]⟩) ?_ ?_
        ·refine L0 rfl rfl (E_move (I a2) rfl (by kernel_rfl)) ?_
         refine L0 rfl rfl (E_move (I b8) rfl (by kernel_rfl)) ?_
         refine L0 rfl rfl (E_move (I b8) rfl (by kernel_rfl)) ?_
         refine L0 rfl rfl (E_move (I b8) rfl (by kernel_rfl)) ?_
         refine L0 rfl rfl (Y0_mul64 (a := b8) (b := b8) rfl (by kernel_rfl) (by kernel_rfl)) ?_
         refine L0 rfl rfl (E_move (I d1) rfl (by kernel_rfl)) ?_
         refine L0 rfl rfl (Y0_sub64 (a := w64 (b8 * b8)) (b := d1) rfl (by kernel_rfl) (by kernel_rfl)) ?_
         refine L0 rfl rfl (E_move (I a2) rfl (by kernel_rfl)) ?_
         refine L0 rfl rfl (Y0_mul64 (a := 4) (b := a2) rfl (by kernel_rfl) (by kernel_rfl)) ?_
         refine L0 rfl rfl (Y0_quo64 (a := w64 ((w64 (b8 * b8)) - d1)) (b := w64 (4 * a2)) rfl (by kernel_rfl) (by kernel_rfl) (nz_some hz13)) ?_
         refine L0 rfl rfl (Y0_build (cs := [Ti a2, Ti b8, Ti (w64 (Int.tdiv (w64 ((w64 (b8 * b8)) - d1)) (w64 (4 * a2))))]) pl43 bt43 rfl rfl (by kernel_rfl)) ?_
         refine L1 rfl rfl (Y1_alloc (z := zv43) rfl zf43 rfl) ?_
         refine XL_cons rfl (E_store (id := 48) (off := 0) (cs := [Ti 0, Ti 0, Ti 0]) (vc := [Ti a2, Ti b8, Ti (w64 (Int.tdiv (w64 ((w64 (b8 * b8)) - d1)) (w64 (4 * a2))))]) [Ti a2, Ti b8, Ti (w64 (Int.tdiv (w64 ((w64 (b8 * b8)) - d1)) (w64 (4 * a2))))] rfl rfl (by kernel_rfl) (by kernel_rfl) (by kernel_rfl) sz43 (Nat.le_of_ble_eq_true rfl) (by kernel_rfl)) ?_
         refine XL_nil ?_
         subst hf14
         kernel_rfl
        obtain ⟨y15, hy15, h⟩ := of_bind h
        obtain ⟨b18, hb18, h⟩ := of_bind h
        refine V_sreg (mb 47 2199023255673) [48, 24] (s1 := ⟨I d1 :: .bot :: .bot :: .ow 24 :: I a2 :: I b8 :: .pt 48 0 :: bt 34 (Bo b18 :: bt 5 []), [(48, .box [Ti a2, Ti b8, Ti f14]), (24, .arr 43 3 (l9.map c43))]⟩) ?_ ?_
        ·refine L0 rfl rfl (E_loadn (cs := [Ti a2, Ti b8, Ti f14]) [Ti a2, Ti b8, Ti f14] wd43 rfl (by kernel_rfl) (Nat.le_of_ble_eq_true rfl) (by kernel_rfl)) ?_
         refine L1 rfl rfl (Y1_call (s_spec_foDisc hy15) cf_spec_foDisc rfl (by kernel_rfl)) ?_
         refine L0 rfl rfl (E_move (I d1) rfl (by kernel_rfl)) ?_
         refine L0 rfl rfl (Y0_eqw (k := .i64) (a := y15) (b := d1) rfl (by kernel_rfl) (by kernel_rfl)) ?_
         refine L0 rfl rfl (E_move (Bo (eqI y15 d1)) rfl (by kernel_rfl)) ?_
         refine XL_split (eqI y15 d1) (fun hc16 => ?_) (fun hc16 => ?_)
         ·have hb18 := of_true hb18 hc16
          obtain ⟨y17, hy17, hb18⟩ := of_bind hb18
          have hb18 := some_inj hb18
          refine XL_takeC _ rfl rfl (by kernel_rfl) hc16 (X_of_Y0 rfl (E_loadn (cs := [Ti a2, Ti b8, Ti f14]) [Ti a2, Ti b8, Ti f14] wd43 rfl (by kernel_rfl) (Nat.le_of_ble_eq_true rfl) (by kernel_rfl))) ?_
          refine XL_takeC _ rfl rfl (by kernel_rfl) hc16 (X_of_Y1 rfl (Y1_call (s_spec_reIs hy17) cf_spec_reIs rfl (by kernel_rfl))) ?_
          refine XL_cons rfl (X_of_Y0 rfl (Y0_pickTe (b := eqI y15 d1) (p := y17) rfl (by kernel_rfl) hc16 (by kernel_rfl) hb18)) ?_
          refine XL_nil ?_
          kernel_rfl
         ·have hb18 := some_inj (of_false hb18 hc16)
          refine XL_skipT _ rfl rfl (by kernel_rfl) hc16 rfl ?_
          refine XL_skipT _ rfl rfl (by kernel_rfl) hc16 rfl ?_
          refine XL_cons rfl (X_of_Y0 rfl (Y0_pickFe (b := eqI y15 d1) (p := false) rfl (by kernel_rfl) hc16 (by kernel_rfl) hb18)) ?_
          refine XL_nil ?_
          kernel_rfl
        refine V_cond rfl (fun hc19 => ?_) (fun hc19 => ?_)
        ·have h := of_true h hc19
         obtain ⟨u20, hu20, h⟩ := of_bind h
         refine V_reg (mb 47 57) [24] (s1 := ⟨I d1 :: .bot :: .bot :: .ow 24 :: I a2 :: I b8 :: bt 41 [], [(24, .arr 43 3 ((l9 ++ ([(a2, b8, f14)])).map c43))]⟩) ?_ ?_
         ·refine L0 rfl rfl (E_move (.ow 24) rfl (by kernel_rfl)) ?_
          refine L0 rfl rfl (E_loadn (cs := [Ti a2, Ti b8, Ti f14]) [Ti a2, Ti b8, Ti f14] wd43 rfl (by kernel_rfl) (Nat.le_of_ble_eq_true rfl) (by kernel_rfl)) ?_
          refine L1 rfl rfl (Y1_bslice (z := zv43) (els := [(a2, b8, f14)].map c43) Try.underlying40 iz43 rfl (by decide) rfl (by kernel_rfl) rfl (by simp [c43]) (by decide) (by decide)) ?_
          refine XL_cons rfl (X_appendM (c := c43) (xs := l9) (ys := [(a2, b8, f14)]) (id := 24) (z := zv43) rfl rfl Try.underlying40 izb43 rfl (by kernel_rfl) (by kernel_rfl) (by kernel_rfl) (fun _ => rfl) (by simp) (room_some hu20) (by decide)) ?_
          refine L0 rfl rfl (E_assign (.ow 24) rfl (by kernel_rfl)) ?_
          refine XL_nil ?_
          kernel_rfl
         show V _ _ _ _
         obtain ⟨b21, hb21, h⟩ := of_sI h
         refine V_reg (mb 47 57) [24] (s1 := ⟨I d1 :: .bot :: .bot :: .ow 24 :: I a2 :: I b21 :: bt 41 [], [(24, .arr 43 3 ((l9 ++ ([(a2, b8, f14)])).map c43))]⟩) ?_ ?_
         ·refine L0 rfl rfl (E_move (I b8) rfl (by kernel_rfl)) ?_
          refine L0 rfl rfl (Y0_add64 (a := b8) (b := 1) rfl (by kernel_rfl) (by kernel_rfl)) ?_
          refine L0 rfl rfl (E_assign (I (w64 (b8 + 1))) rfl (by kernel_rfl)) ?_
          refine XL_nil ?_
          subst hb21
          kernel_rfl
         exact ⟨n, Nat.lt_succ_self n, _, _,  by rfl, h⟩
        ·have h := of_false h hc19
         refine V_skip ?_
         show V _ _ _ _
         obtain ⟨b22, hb22, h⟩ := of_sI h
         refine V_reg (mb 47 57) [24] (s1 := ⟨I d1 :: .bot :: .bot :: .ow 24 :: I a2 :: I b22 :: bt 41 [], [(24, .arr 43 3 (l9.map c43))]⟩) ?_ ?_
         ·refine L0 rfl rfl (E_move (I b8) rfl (by kernel_rfl)) ?_
          refine L0 rfl rfl (Y0_add64 (a := b8) (b := 1) rfl (by kernel_rfl) (by kernel_rfl)) ?_
          refine L0 rfl rfl (E_assign (I (w64 (b8 + 1))) rfl (by kernel_rfl)) ?_
          refine XL_nil ?_
          subst hb22
          kernel_rfl
         exact ⟨n, Nat.lt_succ_self n, _, _,  by rfl, h⟩
       ·have h := of_false h hc12
        refine V_exit ?_
        obtain rfl := some_inj h
        show St.keep _ _ _ = _
        rfl
     show V _ _ _ _
     obtain ⟨a23, ha23, h⟩ := of_sI h
     refine V_reg (mb 47 25) [24] (s1 := ⟨I d1 :: .bot :: .bot :: .ow 24 :: I a23 :: bt 42 [], [(24, .arr 43 3 (o11.map c43))]⟩) ?_ ?_
     ·refine L0 rfl rfl (E_move (I a2) rfl (by kernel_rfl)) ?_
      refine L0 rfl rfl (Y0_add64 (a := a2) (b := 1) rfl (by kernel_rfl) (by kernel_rfl)) ?_
      refine L0 rfl rfl (E_assign (I (w64 (a2 + 1))) rfl (by kernel_rfl)) ?_
      refine XL_nil ?_
      subst ha23
      kernel_rfl
     exact ⟨n, Nat.lt_succ_self n, _, _,  by rfl, h⟩
    ·have h := of_false h hc6
     refine V_exit ?_
     obtain rfl := some_inj h
     show St.keep _ _ _ = _
     rfl
  show V _ _ _ _
  refine V_sreg (mb 47 4) [24] (s1 := ⟨.bot :: .bot :: .ow 24 :: bt 44 [], [(24, .arr 43 3 (o5.map c43))]⟩) ?_ ?_
  ·refine L0 rfl rfl (E_move (.ow 24) rfl (by kernel_rfl)) ?_
   refine L0 rfl rfl (E_assign (.ow 24) rfl (by kernel_rfl)) ?_
   refine XL_nil ?_
   kernel_rfl
  refine V_ret ?_
  obtain rfl := some_inj h
  show Post _ _ _ _ _
  exact ⟨.inr rfl, rfl, rfl, rfl⟩
theorem cf_spec_l1Abs : ∀ args w, (callFunc 51 args).run Try.prog w = .ok (.enter 51 args) w := run_callFunc Try.func51 (by kernel_rfl) (by kernel_rfl)
set_option maxRecDepth 100000 in
set_option maxHeartbeats 400000 in
theorem s_spec_l1Abs {vn1 : Int} {r : Int} (h : r_spec_l1Abs vn1 = some r) : CallS Try.prog 51 [I vn1] (I r) [] := by
  refine CallS_of_text (rs := [.t 2]) (vs := [.tmp 2]) Try.func51 rfl rfl (.cons rfl FitsL.nil) (by decide) 7 rfl ?_
  unfold r_spec_l1Abs at h
  show V _ _ ⟨I vn1 :: bt 6 [], []⟩ _
  refine V_sreg (mb 7 1) [] (s1 := ⟨I vn1 :: bt 6 [], []⟩) ?_ ?_
  ·refine L0 rfl rfl (E_assign (I 0) rfl (by kernel_rfl)) ?_
   refine XL_nil ?_
   kernel_rfl
  obtain ⟨y2, hy2, h⟩ := of_bind h
  refine V_sreg (mb 7 4) [] (s1 := ⟨.bot :: .bot :: I y2 :: bt 4 [], []⟩) ?_ ?_
  ·refine L0 rfl rfl (E_move (I vn1) rfl (by kernel_rfl)) ?_
   refine L0 rfl rfl (E_move (I vn1) rfl (by kernel_rfl)) ?_
   refine L0 rfl rfl (Y0_neg64 (a := vn1) rfl (by kernel_rfl)) ?_
   refine L1 rfl rfl (Y1_call (s_spec_l1Most hy2) cf_spec_l1Most rfl (by kernel_rfl)) ?_
   refine L0 rfl rfl (E_assign (I y2) rfl (by kernel_rfl)) ?_
   refine XL_nil ?_
   kernel_rfl
  refine V_ret ?_
  obtain rfl := some_inj h
  show Post _ _ _ _ _
  exact ⟨.inr rfl, rfl, rfl, rfl⟩
theorem cf_spec_nuGcd : ∀ args w, (callFunc 71 args).run Try.prog w = .ok (.enter 71 args) w := run_callFunc Try.func71 (by kernel_rfl) (by kernel_rfl)
set_option maxRecDepth 100000 in
set_option maxHeartbeats 400000 in
theorem s_spec_nuGcd {a1 : Int} {b2 : Int} {r : Int} (h : r_spec_nuGcd a1 b2 = some r) : CallS Try.prog 71 [I a1, I b2] (I r) [] := by
  refine CallS_of_text (rs := [.t 4]) (vs := [.tmp 4]) Try.func71 rfl rfl (.cons rfl FitsL.nil) (by decide) 16 rfl ?_
  unfold r_spec_nuGcd at h
  show V _ _ ⟨I a1 :: I b2 :: bt 14 [], []⟩ _
  refine V_sreg (mb 16 3) [] (s1 := ⟨I a1 :: I b2 :: bt 14 [], []⟩) ?_ ?_
  ·refine L0 rfl rfl (E_assign (I 0) rfl (by kernel_rfl)) ?_
   refine XL_nil ?_
   kernel_rfl
  obtain ⟨y3, hy3, h⟩ := of_bind h
  obtain ⟨y4, hy4, h⟩ := of_bind h
  refine V_sreg (mb 16 3) [] (s1 := ⟨I y3 :: I y4 :: bt 14 [], []⟩) ?_ ?_
  ·refine L0 rfl rfl (E_move (I a1) rfl (by kernel_rfl)) ?_
   refine L1 rfl rfl (Y1_call (s_spec_l1Abs hy3) cf_spec_l1Abs rfl (by kernel_rfl)) ?_
   refine L0 rfl rfl (E_move (I b2) rfl (by kernel_rfl)) ?_
   refine L1 rfl rfl (Y1_call (s_spec_l1Abs hy4) cf_spec_l1Abs rfl (by kernel_rfl)) ?_
   refine L0 rfl rfl (E_assign (I y3) rfl (by kernel_rfl)) ?_
   refine L0 rfl rfl (E_assign (I y4) rfl (by kernel_rfl)) ?_
   refine XL_nil ?_
   kernel_rfl
  refine V_seq ?_
  obtain ⟨o8, hLo8, h⟩ := of_bind h
  refine V_toK (mb 16 1) [] (s1 := ⟨I o8 :: bt 15 [], []⟩) ?_ ?_
  ·clear h
   refine V_block (V_loop (fun n s => ∃ (a5 : Int) (b6 : Int), s.keep (mb 16 3) [] = (⟨I a5 :: I b6 :: bt 14 [], []⟩ : St) ∧ r_spec_nuGcd_L7 n a5 b6 = some o8) FU ⟨_, _,  by rfl, hLo8⟩ ?_)
   clear hLo8
   rintro n s ⟨a5, b6, hs, h⟩
   refine V_keep _ _ hs ?_
   clear hs
   cases n with
   | zero => cases h
   | succ n =>
    rw [r_spec_nuGcd_L7] at h
    refine V_seq ?_
    refine V_sreg (mb 16 1027) [] (s1 := ⟨I a5 :: I b6 :: bt 8 (Bo (!eqI b6 0) :: bt 5 []), []⟩) ?_ ?_
    ·refine L0 rfl rfl (E_move (I b6) rfl (by kernel_rfl)) ?_
     refine L0 rfl rfl (Y0_new (k := .i64) (a := b6) (b := 0) rfl (by kernel_rfl) (by kernel_rfl)) ?_
     refine XL_nil ?_
     kernel_rfl
    refine V_cond rfl (fun hc9 => ?_) (fun hc9 => ?_)
    ·have h := of_true h hc9
     refine V_skip ?_
     show V _ _ _ _
     refine V_block ?_
     obtain ⟨z10, hz10, h⟩ := of_bind h
     obtain ⟨b11, hb11, h⟩ := of_sI h
     refine V_dreg [0, 0, 0, 6, 3, 31] 6 [[.z, .b, .b, .b, .z, .z], [.b, .z, .b, .z, .z, .z], [.b, .b, .z, .z, .b, .z], [.b, .a, .a, .z, .b, .z], [.a, .a, .b, .b, .z, .z], [.a, .a, .a, .a, .a, .z]] (mb 16 3) [] (s1 := ⟨I b6 :: I b11 :: bt 14 [], []⟩) (by kernel_rfl) (by kernel_rfl) ?_ ?_
     ·refine DE_0 0 (I b6) (by kernel_rfl) rfl rfl rfl (gsat_none rfl) (by kernel_rfl) (E_move (I b6) rfl (by kernel_rfl)) 11 rfl ?_
      refine DE_0 1 (I a5) (by kernel_rfl) rfl rfl rfl (gsat_none rfl) (by kernel_rfl) (E_move (I a5) rfl (by kernel_rfl)) 12 rfl ?_
      refine DE_0 2 (I b6) (by kernel_rfl) rfl rfl rfl (gsat_none rfl) (by kernel_rfl) (E_move (I b6) rfl (by kernel_rfl)) 13 rfl ?_
      refine DE_0 3 (I (Int.tmod a5 b6)) (by kernel_rfl) rfl rfl rfl (gsat_none rfl) (by kernel_rfl) (Y0_rem (k := .i64) (a := a5) (b := b6) rfl (by kernel_rfl) (by kernel_rfl) (nz_some hz10)) 14 rfl ?_
      refine DE_0 4 (I b6) (by kernel_rfl) rfl rfl rfl (gsat_none rfl) (by kernel_rfl) (E_assign (I b6) rfl (by kernel_rfl)) 0 rfl ?_
      refine DE_0 5 (I (Int.tmod a5 b6)) (by kernel_rfl) rfl rfl rfl (gsat_none rfl) (by kernel_rfl) (E_assign (I (Int.tmod a5 b6)) rfl (by kernel_rfl)) 1 rfl ?_
      refine DL_nil (by kernel_rfl) ?_
      refine XL_nil ?_
      subst hb11
      kernel_rfl
     exact ⟨n, Nat.lt_succ_self n, _, _,  by rfl, h⟩
    ·have h := of_false h hc9
     refine V_exit ?_
     obtain rfl := some_inj h
     show St.keep _ _ _ = _
     rfl
  show V _ _ _ _
  refine V_sreg (mb 16 16) [] (s1 := ⟨bt 4 (I o8 :: bt 11 []), []⟩) ?_ ?_
  ·refine L0 rfl rfl (E_move (I o8) rfl (by kernel_rfl)) ?_
   refine L0 rfl rfl (E_assign (I o8) rfl (by kernel_rfl)) ?_
   refine XL_nil ?_
   kernel_rfl
  refine V_ret ?_
  obtain rfl := some_inj h
  show Post _ _ _ _ _
  exact ⟨.inr rfl, rfl, rfl, rfl⟩
theorem cf_spec_foContent : ∀ args w, (callFunc 102 args).run Try.prog w = .ok (.enter 102 args) w := run_callFunc Try.func102 (by kernel_rfl) (by kernel_rfl)
set_option maxRecDepth 100000 in
set_option maxHeartbeats 400000 in
theorem s_spec_foContent {f1 : (Int × Int × Int)} {r : Int} (h : r_spec_foContent f1 = some r) : CallS Try.prog 102 [.ag [Ti f1.1, Ti f1.2.1, Ti f1.2.2]] (I r) [] := by
  refine CallS_of_text (rs := [.t 2]) (vs := [.tmp 2]) Try.func102 rfl rfl (.cons rfl FitsL.nil) (by decide) 11 rfl ?_
  unfold r_spec_foContent at h
  show V _ _ ⟨.ag [Ti f1.1, Ti f1.2.1, Ti f1.2.2] :: bt 10 [], []⟩ _
  refine V_sreg (mb 11 2) [8] (s1 := ⟨.bot :: .pt 8 0 :: bt 9 [], [(8, .box [Ti f1.1, Ti f1.2.1, Ti f1.2.2])]⟩) ?_ ?_
  ·refine L1 rfl rfl (Y1_box (cs := [Ti f1.1, Ti f1.2.1, Ti f1.2.2]) rfl (by kernel_rfl)) ?_
   refine L0 rfl rfl (E_assign (I 0) rfl (by kernel_rfl)) ?_
   refine XL_nil ?_
   kernel_rfl
  obtain ⟨y2, hy2, h⟩ := of_bind h
  obtain ⟨y3, hy3, h⟩ := of_bind h
  refine V_sdreg [0, 1, 0, 4, 15, 0, 32, 127, 255] 9 [[.z, .z, .b, .b, .z, .b, .b, .z, .z], [.a, .z, .b, .b, .z, .b, .b, .z, .z], [.b, .b, .z, .z, .z, .b, .b, .z, .z], [.b, .b, .a, .z, .z, .b, .b, .z, .z], [.a, .a, .a, .a, .z, .b, .b, .z, .z], [.b, .b, .b, .b, .b, .z, .z, .z, .z], [.b, .b, .b, .b, .b, .a, .z, .z, .z], [.a, .a, .a, .a, .a, .a, .a, .z, .z], [.a, .a, .a, .a, .a, .a, .a, .a, .z]] (mb 11 4) [] (s1 := ⟨.bot :: .bot :: I y3 :: bt 8 [], []⟩) (by kernel_rfl) (by kernel_rfl) ?_ ?_
  ·refine DE_0 0 (.pt 8 0) (by kernel_rfl) rfl rfl rfl (gsat_none rfl) (by kernel_rfl) (E_field (.pt 8 0) Try.underlying43 rfl sz3 rfl (by kernel_rfl) (by intro hh; cases hh)) 3 rfl ?_
   refine DE_0 1 (I f1.1) (by kernel_rfl) rfl rfl rfl (gsat_none rfl) (by kernel_rfl) (Y0_load1 (c := Ti f1.1) (cs := [Ti f1.2.1, Ti f1.2.2]) sc3 rfl (by kernel_rfl)) 4 rfl ?_
   refine DE_0 2 (.pt 8 1) (by kernel_rfl) rfl rfl rfl (gsat_none rfl) (by kernel_rfl) (E_field (.pt 8 1) Try.underlying43 rfl sz3 rfl (by kernel_rfl) (by intro hh; cases hh)) 5 rfl ?_
   refine DE_0 3 (I f1.2.1) (by kernel_rfl) rfl rfl rfl (gsat_none rfl) (by kernel_rfl) (Y0_load1 (c := Ti f1.2.1) (cs := [Ti f1.2.2]) sc3 rfl (by kernel_rfl)) 6 rfl ?_
   refine DE_1 4 (by kernel_rfl) rfl rfl rfl (gsat_none rfl) (Y1_call (s_spec_nuGcd hy2) cf_spec_nuGcd rfl (by kernel_rfl)) rfl rfl rfl 7 rfl ?_
   refine DE_0 5 (.pt 8 2) (by kernel_rfl) rfl rfl rfl (gsat_none rfl) (by kernel_rfl) (E_field (.pt 8 2) Try.underlying43 rfl sz3 rfl (by kernel_rfl) (by intro hh; cases hh)) 8 rfl ?_
   refine DE_0 6 (I f1.2.2) (by kernel_rfl) rfl rfl rfl (gsat_none rfl) (by kernel_rfl) (Y0_load1 (c := Ti f1.2.2) (cs := []) sc3 rfl (by kernel_rfl)) 9 rfl ?_
   refine DE_1 7 (by kernel_rfl) rfl rfl rfl (gsat_none rfl) (Y1_call (s_spec_nuGcd hy3) cf_spec_nuGcd rfl (by kernel_rfl)) rfl rfl rfl 10 rfl ?_
   refine DE_0 8 (I y3) (by kernel_rfl) rfl rfl rfl (gsat_none rfl) (by kernel_rfl) (E_assign (I y3) rfl (by kernel_rfl)) 2 rfl ?_
   refine DL_nil (by kernel_rfl) ?_
   refine XL_nil ?_
   kernel_rfl
  refine V_ret ?_
  obtain rfl := some_inj h
  show Post _ _ _ _ _
  exact ⟨.inr rfl, rfl, rfl, rfl⟩
theorem cf_spec_reList : ∀ args w, (callFunc 62 args).run Try.prog w = .ok (.enter 62 args) w := run_callFunc Try.func62 (by kernel_rfl) (by kernel_rfl)
set_option maxRecDepth 100000 in
set_option maxHeartbeats 400000 in
theorem s_spec_reList {d1 : Int} {r : List ((Int × Int × Int))} (h : r_spec_reList d1 = some r) : CallS Try.prog 62 [I d1] (.ow 0) [(0, .arr 43 3 (r.map c43))] := by
  refine CallS_of_text (rs := [.t 2]) (vs := [.tmp 2]) Try.func62 rfl rfl (.cons rfl FitsL.nil) (by decide) 22 rfl ?_
  unfold r_spec_reList at h
  show V _ _ ⟨I d1 :: bt 21 [], []⟩ _
  refine V_sreg (mb 22 1) [] (s1 := ⟨I d1 :: bt 21 [], []⟩) ?_ ?_
  ·refine L1 rfl rfl (Y1_nil (e := 43) 3 (by decide) (.inl rfl)) ?_
   refine XL_nil ?_
   kernel_rfl
  refine V_sreg (mb 22 9) [24] (s1 := ⟨I d1 :: .bot :: .bot :: .ow 24 :: bt 18 [], [(24, .arr 43 3 ((([] : List ((Int × Int × Int)))).map c43))]⟩) ?_ ?_
  ·refine L1 rfl rfl (Y1_nil (e := 43) 3 (by decide) (.inl rfl)) ?_
   refine XL_nil ?_
   kernel_rfl
  refine V_seq ?_
  obtain ⟨y2, hy2, h⟩ := of_bind h
  refine V_sreg (mb 22 904) [56, 24] (s1 := ⟨bt 3 (.ow 24 :: bt 3 (.ow 56 :: I ((y2.length : Int)) :: I 0 :: bt 12 [])), [(56, .arr 43 3 (y2.map c43)), (24, .arr 43 3 ((([] : List ((Int × Int × Int)))).map c43))]⟩) ?_ ?_
  ·refine L0 rfl rfl (E_move (I d1) rfl (by kernel_rfl)) ?_
   refine L1 rfl rfl (Y1_call (s_spec_reAll hy2) cf_spec_reAll rfl (by kernel_rfl)) ?_
   refine L0 rfl rfl (Y0_lenM (c := c43) (xs := y2) Try.underlying40 rfl (by kernel_rfl)) ?_
   refine L0 rfl rfl (E_move (I 0) rfl (by kernel_rfl)) ?_
   refine XL_nil ?_
   kernel_rfl
  obtain ⟨o6, hLo6, h⟩ := of_bind h
  refine V_toK (mb 22 8) [24] (s1 := ⟨bt 3 (.ow 24 :: bt 18 []), [(24, .arr 43 3 (o6.map c43))]⟩) ?_ ?_
  ·clear h
   refine V_block (V_loop (fun n s => ∃ (t3 : Int) (l4 : List ((Int × Int × Int))), s.keep (mb 22 904) [56, 24] = (⟨bt 3 (.ow 24 :: bt 3 (.ow 56 :: I ((y2.length : Int)) :: I t3 :: bt 12 [])), [(56, .arr 43 3 (y2.map c43)), (24, .arr 43 3 (l4.map c43))]⟩ : St) ∧ r_spec_reList_L5 y2 n t3 l4 = some o6) FU ⟨_, _,  by rfl, hLo6⟩ ?_)
   clear hLo6
   rintro n s ⟨t3, l4, hs, h⟩
   refine V_keep _ _ hs ?_
   clear hs
   cases n with
   | zero => cases h
   | succ n =>
    rw [r_spec_reList_L5] at h
    refine V_sreg (mb 22 1928) [56, 24] (s1 := ⟨bt 3 (.ow 24 :: bt 3 (.ow 56 :: I ((y2.length : Int)) :: I t3 :: Bo (ltI t3 ((y2.length : Int))) :: bt 11 [])), [(56, .arr 43 3 (y2.map c43)), (24, .arr 43 3 (l4.map c43))]⟩) ?_ ?_
    ·refine L0 rfl rfl (Y0_ltw (k := .i64) (a := t3) (b := (y2.length : Int)) rfl (by kernel_rfl) (by kernel_rfl)) ?_
     refine XL_nil ?_
     kernel_rfl
    refine V_seq ?_
    refine V_cond rfl (fun hc7 => ?_) (fun hc7 => ?_)
    ·have h := of_true h hc7
     refine V_skip ?_
     show V _ _ _ _
     refine V_seq ?_
     refine V_block ?_
     obtain ⟨e8, he8, h⟩ := of_bind h
     obtain ⟨e9, he9, h⟩ := of_bind h
     refine V_sreg (mb 22 936) [40, 56, 24] (s1 := ⟨bt 3 (.ow 24 :: .bot :: .pt 40 0 :: .bot :: .ow 56 :: I ((y2.length : Int)) :: I t3 :: bt 12 []), [(40, .box [Ti e9.1, Ti e9.2.1, Ti e9.2.2]), (56, .arr 43 3 (y2.map c43)), (24, .arr 43 3 (l4.map c43))]⟩) ?_ ?_
     ·refine L0 rfl rfl (Y0_idxoM (c := c43) (xs := y2) (v := e8) (id := 56) (T := 43) (sz := 3) (n := t3) Try.underlying40 sz43 rfl (by kernel_rfl) (by kernel_rfl) (by kernel_rfl) he8) ?_
      refine L0 rfl rfl (E_loadon (c := c43) (xs := y2) (v := e9) (id := 56) (sz := 3) (T := 43) (off := 0) (n := t3) [Ti e9.1, Ti e9.2.1, Ti e9.2.2] wd43 rfl (by kernel_rfl) (by kernel_rfl) he9 (Nat.le_of_ble_eq_true rfl) (by kernel_rfl)) ?_
      refine L1 rfl rfl (Y1_alloc (z := zv43) rfl zf43 rfl) ?_
      refine XL_cons rfl (E_store (id := 40) (off := 0) (cs := [Ti 0, Ti 0, Ti 0]) (vc := [Ti e9.1, Ti e9.2.1, Ti e9.2.2]) [Ti e9.1, Ti e9.2.1, Ti e9.2.2] rfl rfl (by kernel_rfl) (by kernel_rfl) (by kernel_rfl) sz43 (Nat.le_of_ble_eq_true rfl) (by kernel_rfl)) ?_
      refine XL_nil ?_
      kernel_rfl
     obtain ⟨y10, hy10, h⟩ := of_bind h
     refine V_sreg (mb 22 33704) [40, 56, 24] (s1 := ⟨bt 3 (.ow 24 :: .bot :: .pt 40 0 :: .bot :: .ow 56 :: I ((y2.length : Int)) :: I t3 :: bt 5 (Bo (eqI y10 1) :: bt 6 [])), [(40, .box [Ti e9.1, Ti e9.2.1, Ti e9.2.2]), (56, .arr 43 3 (y2.map c43)), (24, .arr 43 3 (l4.map c43))]⟩) ?_ ?_
     ·refine L0 rfl rfl (E_loadn (cs := [Ti e9.1, Ti e9.2.1, Ti e9.2.2]) [Ti e9.1, Ti e9.2.1, Ti e9.2.2] wd43 rfl (by kernel_rfl) (Nat.le_of_ble_eq_true rfl) (by kernel_rfl)) ?_
      refine L1 rfl rfl (Y1_call (s_spec_foContent hy10) cf_spec_foContent rfl (by kernel_rfl)) ?_
      refine L0 rfl rfl (Y0_eqw (k := .i64) (a := y10) (b := 1) rfl (by kernel_rfl) (by kernel_rfl)) ?_
      refine XL_nil ?_
      kernel_rfl
     refine V_cond rfl (fun hc11 => ?_) (fun hc11 => ?_)
     ·have h := of_true h hc11
      obtain ⟨u12, hu12, h⟩ := of_bind h
      refine V_reg (mb 22 904) [56, 24] (s1 := ⟨bt 3 (.ow 24 :: bt 3 (.ow 56 :: I ((y2.length : Int)) :: I t3 :: bt 12 [])), [(56, .arr 43 3 (y2.map c43)), (24, .arr 43 3 ((l4 ++ ([e9])).map c43))]⟩) ?_ ?_
      ·refine L0 rfl rfl (E_move (.ow 24) rfl (by kernel_rfl)) ?_
       refine L0 rfl rfl (E_loadn (cs := [Ti e9.1, Ti e9.2.1, Ti e9.2.2]) [Ti e9.1, Ti e9.2.1, Ti e9.2.2] wd43 rfl (by kernel_rfl) (Nat.le_of_ble_eq_true rfl) (by kernel_rfl)) ?_
       refine L1 rfl rfl (Y1_bslice (z := zv43) (els := [e9].map c43) Try.underlying40 iz43 rfl (by decide) rfl (by kernel_rfl) rfl (by simp [c43]) (by decide) (by decide)) ?_
       refine XL_cons rfl (X_appendM (c := c43) (xs := l4) (ys := [e9]) (id := 24) (z := zv43) rfl rfl Try.underlying40 izb43 rfl (by kernel_rfl) (by kernel_rfl) (by kernel_rfl) (fun _ => rfl) (by simp) (room_some hu12) (by decide)) ?_
       refine L0 rfl rfl (E_assign (.ow 24) rfl (by kernel_rfl)) ?_
       refine XL_nil ?_
       kernel_rfl
      show V _ _ _ _
      obtain ⟨t13, ht13, h⟩ := of_sI h
      refine V_reg (mb 22 904) [56, 24] (s1 := ⟨bt 3 (.ow 24 :: bt 3 (.ow 56 :: I ((y2.length : Int)) :: I t13 :: bt 12 [])), [(56, .arr 43 3 (y2.map c43)), (24, .arr 43 3 ((l4 ++ ([e9])).map c43))]⟩) ?_ ?_
      ·refine L0 rfl rfl (Y0_add64 (a := t3) (b := 1) rfl (by kernel_rfl) (by kernel_rfl)) ?_
       refine L0 rfl rfl (E_move (I (w64 (t3 + 1))) rfl (by kernel_rfl)) ?_
       refine XL_nil ?_
       subst ht13
       kernel_rfl
      exact ⟨n, Nat.lt_succ_self n, _, _,  by rfl, h⟩
     ·have h := of_false h hc11
      refine V_skip ?_
      show V _ _ _ _
      obtain ⟨t14, ht14, h⟩ := of_sI h
      refine V_reg (mb 22 904) [56, 24] (s1 := ⟨bt 3 (.ow 24 :: bt 3 (.ow 56 :: I ((y2.length : Int)) :: I t14 :: bt 12 [])), [(56, .arr 43 3 (y2.map c43)), (24, .arr 43 3 (l4.map c43))]⟩) ?_ ?_
      ·refine L0 rfl rfl (Y0_add64 (a := t3) (b := 1) rfl (by kernel_rfl) (by kernel_rfl)) ?_
       refine L0 rfl rfl (E_move (I (w64 (t3 + 1))) rfl (by kernel_rfl)) ?_
       refine XL_nil ?_
       subst ht14
       kernel_rfl
      exact ⟨n, Nat.lt_succ_self n, _, _,  by rfl, h⟩
    ·have h := of_false h hc7
     refine V_exit ?_
     obtain rfl := some_inj h
     show St.keep _ _ _ = _
     rfl
  show V _ _ _ _
  refine V_sreg (mb 22 4) [24] (s1 := ⟨.bot :: .bot :: .ow 24 :: bt 19 [], [(24, .arr 43 3 (o6.map c43))]⟩) ?_ ?_
  ·refine L0 rfl rfl (E_move (.ow 24) rfl (by kernel_rfl)) ?_
   refine L0 rfl rfl (E_assign (.ow 24) rfl (by kernel_rfl)) ?_
   refine XL_nil ?_
   kernel_rfl
  refine V_ret ?_
  obtain rfl := some_inj h
  show Post _ _ _ _ _
  exact ⟨.inr rfl, rfl, rfl, rfl⟩
theorem cf_spec_reNormal : ∀ args w, (callFunc 148 args).run Try.prog w = .ok (.enter 148 args) w := run_callFunc Try.func148 (by kernel_rfl) (by kernel_rfl)
set_option maxRecDepth 100000 in
set_option maxHeartbeats 400000 in
theorem s_spec_reNormal {f1 : (Int × Int × Int)} {r : Int} (h : r_spec_reNormal f1 = some r) : CallS Try.prog 148 [.ag [Ti f1.1, Ti f1.2.1, Ti f1.2.2]] (I r) [] := by
  refine CallS_of_text (rs := [.t 2]) (vs := [.tmp 2]) Try.func148 rfl rfl (.cons rfl FitsL.nil) (by decide) 22 rfl ?_
  unfold r_spec_reNormal at h
  show V _ _ ⟨.ag [Ti f1.1, Ti f1.2.1, Ti f1.2.2] :: bt 21 [], []⟩ _
  refine V_sreg (mb 22 2) [8] (s1 := ⟨.bot :: .pt 8 0 :: bt 20 [], [(8, .box [Ti f1.1, Ti f1.2.1, Ti f1.2.2])]⟩) ?_ ?_
  ·refine L1 rfl rfl (Y1_box (cs := [Ti f1.1, Ti f1.2.1, Ti f1.2.2]) rfl (by kernel_rfl)) ?_
   refine L0 rfl rfl (E_assign (I 0) rfl (by kernel_rfl)) ?_
   refine XL_nil ?_
   kernel_rfl
  obtain ⟨y2, hy2, h⟩ := of_bind h
  obtain ⟨z3, hz3, h⟩ := of_bind h
  obtain ⟨t4, ht4, h⟩ := of_sI h
  refine V_sdreg [0, 1, 0, 4, 15, 0, 32, 0, 128, 480, 0, 1024, 3072, 8160, 16383, 0, 32768, 98304, 262143, 524287] 20 [[.z, .z, .b, .b, .z, .b, .b, .b, .b, .b, .b, .b, .b, .b, .z, .b, .b, .b, .z, .z], [.a, .z, .b, .b, .z, .b, .b, .b, .b, .b, .b, .b, .b, .b, .z, .b, .b, .b, .z, .z], [.b, .b, .z, .z, .z, .b, .b, .b, .b, .b, .b, .b, .b, .b, .z, .b, .b, .b, .z, .z], [.b, .b, .a, .z, .z, .b, .b, .b, .b, .b, .b, .b, .b, .b, .z, .b, .b, .b, .z, .z], [.a, .a, .a, .a, .z, .b, .b, .b, .b, .b, .b, .b, .b, .b, .z, .b, .b, .b, .z, .z], [.b, .b, .b, .b, .b, .z, .z, .b, .b, .z, .b, .b, .b, .z, .z, .b, .b, .b, .z, .z], [.b, .b, .b, .b, .b, .a, .z, .b, .b, .z, .b, .b, .b, .z, .z, .b, .b, .b, .z, .z], [.b, .b, .b, .b, .b, .b, .b, .z, .z, .z, .b, .b, .b, .z, .z, .b, .b, .b, .z, .z], [.b, .b, .b, .b, .b, .b, .b, .a, .z, .z, .b, .b, .b, .z, .z, .b, .b, .b, .z, .z], [.b, .b, .b, .b, .b, .a, .a, .a, .a, .z, .b, .b, .b, .z, .z, .b, .b, .b, .z, .z], [.b, .b, .b, .b, .b, .b, .b, .b, .b, .b, .z, .z, .z, .z, .z, .b, .b, .b, .z, .z], [.b, .b, .b, .b, .b, .b, .b, .b, .b, .b, .a, .z, .z, .z, .z, .b, .b, .b, .z, .z], [.b, .b, .b, .b, .b, .b, .b, .b, .b, .b, .a, .a, .z, .z, .z, .b, .b, .b, .z, .z], [.b, .b, .b, .b, .b, .a, .a, .a, .a, .a, .a, .a, .a, .z, .z, .b, .b, .b, .z, .z], [.a, .a, .a, .a, .a, .a, .a, .a, .a, .a, .a, .a, .a, .a, .z, .b, .b, .b, .z, .z], [.b, .b, .b, .b, .b, .b, .b, .b, .b, .b, .b, .b, .b, .b, .b, .z, .z, .z, .z, .z], [.b, .b, .b, .b, .b, .b, .b, .b, .b, .b, .b, .b, .b, .b, .b, .a, .z, .z, .z, .z], [.b, .b, .b, .b, .b, .b, .b, .b, .b, .b, .b, .b, .b, .b, .b, .a, .a, .z, .z, .z], [.a, .a, .a, .a, .a, .a, .a, .a, .a, .a, .a, .a, .a, .a, .a, .a, .a, .a, .z, .z], [.a, .a, .a, .a, .a, .a, .a, .a, .a, .a, .a, .a, .a, .a, .a, .a, .a, .a, .a, .z]] (mb 22 4) [] (s1 := ⟨.bot :: .bot :: I t4 :: bt 19 [], []⟩) (by kernel_rfl) (by kernel_rfl) ?_ ?_
  ·refine DE_0 0 (.pt 8 0) (by kernel_rfl) rfl rfl rfl (gsat_none rfl) (by kernel_rfl) (E_field (.pt 8 0) Try.underlying43 rfl sz3 rfl (by kernel_rfl) (by intro hh; cases hh)) 3 rfl ?_
   refine DE_0 1 (I f1.1) (by kernel_rfl) rfl rfl rfl (gsat_none rfl) (by kernel_rfl) (Y0_load1 (c := Ti f1.1) (cs := [Ti f1.2.1, Ti f1.2.2]) sc3 rfl (by kernel_rfl)) 4 rfl ?_
   refine DE_0 2 (.pt 8 1) (by kernel_rfl) rfl rfl rfl (gsat_none rfl) (by kernel_rfl) (E_field (.pt 8 1) Try.underlying43 rfl sz3 rfl (by kernel_rfl) (by intro hh; cases hh)) 5 rfl ?_
   refine DE_0 3 (I f1.2.1) (by kernel_rfl) rfl rfl rfl (gsat_none rfl) (by kernel_rfl) (Y0_load1 (c := Ti f1.2.1) (cs := [Ti f1.2.2]) sc3 rfl (by kernel_rfl)) 6 rfl ?_
   refine DE_0 4 (I (w64 (f1.1 - f1.2.1))) (by kernel_rfl) rfl rfl rfl (gsat_none rfl) (by kernel_rfl) (Y0_sub64 (a := f1.1) (b := f1.2.1) rfl (by kernel_rfl) (by kernel_rfl)) 7 rfl ?_
   refine DE_0 5 (.pt 8 0) (by kernel_rfl) rfl rfl rfl (gsat_none rfl) (by kernel_rfl) (E_field (.pt 8 0) Try.underlying43 rfl sz3 rfl (by kernel_rfl) (by intro hh; cases hh)) 8 rfl ?_
   refine DE_0 6 (I f1.1) (by kernel_rfl) rfl rfl rfl (gsat_none rfl) (by kernel_rfl) (Y0_load1 (c := Ti f1.1) (cs := [Ti f1.2.1, Ti f1.2.2]) sc3 rfl (by kernel_rfl)) 9 rfl ?_
   refine DE_0 7 (.pt 8 1) (by kernel_rfl) rfl rfl rfl (gsat_none rfl) (by kernel_rfl) (E_field (.pt 8 1) Try.underlying43 rfl sz3 rfl (by kernel_rfl) (by intro hh; cases hh)) 10 rfl ?_
   refine DE_0 8 (I f1.2.1) (by kernel_rfl) rfl rfl rfl (gsat_none rfl) (by kernel_rfl) (Y0_load1 (c := Ti f1.2.1) (cs := [Ti f1.2.2]) sc3 rfl (by kernel_rfl)) 11 rfl ?_
   refine DE_0 9 (I (w64 (f1.1 - f1.2.1))) (by kernel_rfl) rfl rfl rfl (gsat_none rfl) (by kernel_rfl) (Y0_sub64 (a := f1.1) (b := f1.2.1) rfl (by kernel_rfl) (by kernel_rfl)) 12 rfl ?_
   refine DE_0 10 (.pt 8 0) (by kernel_rfl) rfl rfl rfl (gsat_none rfl) (by kernel_rfl) (E_field (.pt 8 0) Try.underlying43 rfl sz3 rfl (by kernel_rfl) (by intro hh; cases hh)) 13 rfl ?_
   refine DE_0 11 (I f1.1) (by kernel_rfl) rfl rfl rfl (gsat_none rfl) (by kernel_rfl) (Y0_load1 (c := Ti f1.1) (cs := [Ti f1.2.1, Ti f1.2.2]) sc3 rfl (by kernel_rfl)) 14 rfl ?_
   refine DE_0 12 (I (w64 (2 * f1.1))) (by kernel_rfl) rfl rfl rfl (gsat_none rfl) (by kernel_rfl) (Y0_mul64 (a := 2) (b := f1.1) rfl (by kernel_rfl) (by kernel_rfl)) 15 rfl ?_
   refine DE_1 13 (by kernel_rfl) rfl rfl rfl (gsat_none rfl) (Y1_call (s_spec_nuMod hy2) cf_spec_nuMod rfl (by kernel_rfl)) rfl rfl rfl 16 rfl ?_
   refine DE_0 14 (I (w64 ((w64 (f1.1 - f1.2.1)) - y2))) (by kernel_rfl) rfl rfl rfl (gsat_none rfl) (by kernel_rfl) (Y0_sub64 (a := w64 (f1.1 - f1.2.1)) (b := y2) rfl (by kernel_rfl) (by kernel_rfl)) 17 rfl ?_
   refine DE_0 15 (.pt 8 0) (by kernel_rfl) rfl rfl rfl (gsat_none rfl) (by kernel_rfl) (E_field (.pt 8 0) Try.underlying43 rfl sz3 rfl (by kernel_rfl) (by intro hh; cases hh)) 18 rfl ?_
   refine DE_0 16 (I f1.1) (by kernel_rfl) rfl rfl rfl (gsat_none rfl) (by kernel_rfl) (Y0_load1 (c := Ti f1.1) (cs := [Ti f1.2.1, Ti f1.2.2]) sc3 rfl (by kernel_rfl)) 19 rfl ?_
   refine DE_0 17 (I (w64 (2 * f1.1))) (by kernel_rfl) rfl rfl rfl (gsat_none rfl) (by kernel_rfl) (Y0_mul64 (a := 2) (b := f1.1) rfl (by kernel_rfl) (by kernel_rfl)) 20 rfl ?_
   refine DE_0 18 (I (w64 (Int.tdiv (w64 ((w64 (f1.1 - f1.2.1)) - y2)) (w64 (2 * f1.1))))) (by kernel_rfl) rfl rfl rfl (gsat_none rfl) (by kernel_rfl) (Y0_quo64 (a := w64 ((w64 (f1.1 - f1.2.1)) - y2)) (b := w64 (2 * f1.1)) rfl (by kernel_rfl) (by kernel_rfl) (nz_some hz3)) 21 rfl ?_
   refine DE_0 19 (I (w64 (Int.tdiv (w64 ((w64 (f1.1 - f1.2.1)) - y2)) (w64 (2 * f1.1))))) (by kernel_rfl) rfl rfl rfl (gsat_none rfl) (by kernel_rfl) (E_assign (I (w64 (Int.tdiv (w64 ((w64 (f1.1 - f1.2.1)) - y2)) (w64 (2 * f1.1))))) rfl (by kernel_rfl)) 2 rfl ?_
   refine DL_nil (by kernel_rfl) ?_
   refine XL_nil ?_
   subst ht4
   kernel_rfl
  refine V_ret ?_
  obtain rfl := some_inj h
  show Post _ _ _ _ _
  exact ⟨.inr rfl, rfl, rfl, rfl⟩
end Go.Proofs.Ytpfnhgpepgeaiaa
