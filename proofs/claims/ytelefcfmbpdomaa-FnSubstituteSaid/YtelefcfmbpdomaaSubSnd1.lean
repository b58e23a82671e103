/-
  The functions of the program compute what the plain functions say.
  Conditions: none.
-/
import Derived.Test.YtelefcfmbpdomaaShV
import Derived.Test.YtelefcfmbpdomaaSubRaw
import Derived.Test.YtelefcfmbpdomaaRows
namespace Go.Proofs.Ytelefcfmbpdomaa
open Go.RowKit
set_option linter.unusedVariables false
set_option linter.unusedSimpArgs false
def c5 (x : Int) : List Tr := [.v (.int .u8 x)]
def c3 (x : Int) : List Tr := [Ti x]
def zv3 : Value := .int .i64 0
theorem zf3 : (Try.prog.info? 3).bind (·.zero) = some zv3 := by kernel_rfl
def zv25 : Value := .agg #[.int .i64 0, .int .i64 0, .int .i64 0]
theorem zf25 : (Try.prog.info? 25).bind (·.zero) = some zv25 := by kernel_rfl
def zv27 : Value := .agg #[.int .i64 0, .int .i64 0, .int .i64 0, .int .i64 0]
theorem zf27 : (Try.prog.info? 27).bind (·.zero) = some zv27 := by kernel_rfl
theorem iz3 : (Try.prog.info? 3).map (fun i => (i.zero, i.size)) = some (some zv3, 1) := by kernel_rfl
theorem sc3 : scalar Try.prog 3 := ⟨_, Try.underlying3, rfl⟩
theorem sc5 : scalar Try.prog 5 := ⟨_, Try.underlying5, rfl⟩
theorem sc22 : scalar Try.prog 22 := ⟨_, Try.underlying22, rfl⟩
theorem sc98 : scalar Try.prog 98 := ⟨_, Try.underlying98, rfl⟩
theorem sz3 : (Try.prog.info? 3).map (·.size) = some 1 := by kernel_rfl
theorem sz5 : (Try.prog.info? 5).map (·.size) = some 1 := by kernel_rfl
theorem sz22 : (Try.prog.info? 22).map (·.size) = some 1 := by kernel_rfl
theorem sz25 : (Try.prog.info? 25).map (·.size) = some 3 := by kernel_rfl
theorem sz27 : (Try.prog.info? 27).map (·.size) = some 4 := by kernel_rfl
theorem sz98 : (Try.prog.info? 98).map (·.size) = some 1 := by kernel_rfl
theorem wd25 : wide Try.prog 25 3 := ⟨⟨_, Try.underlying25, rfl⟩, by kernel_rfl⟩
theorem wd27 : wide Try.prog 27 4 := ⟨⟨_, Try.underlying27, rfl⟩, by kernel_rfl⟩
def pl25 : Nat → Option (Nat × Nat) := fun i => (#[(0, 1), (1, 1), (2, 1)] : Array (Nat × Nat))[i]?
theorem bt25 : ∀ ps, Try.prog.built 25 ps = Instr.fill pl25 #[.int .i64 0, .int .i64 0, .int .i64 0] ps := fun ps => by kernel_rfl
def pl27 : Nat → Option (Nat × Nat) := fun i => (#[(0, 1), (1, 1), (2, 1), (3, 1)] : Array (Nat × Nat))[i]?
theorem bt27 : ∀ ps, Try.prog.built 27 ps = Instr.fill pl27 #[.int .i64 0, .int .i64 0, .int .i64 0, .int .i64 0] ps := fun ps => by kernel_rfl
def pl100 : Nat → Option (Nat × Nat) := fun i => (#[(0, 1), (1, 1), (2, 1)] : Array (Nat × Nat))[i]?
theorem bt100 : ∀ ps, Try.prog.built 100 ps = Instr.fill pl100 #[.slice none 0 0, .int .i64 0, .int .u64 0] ps := fun ps => by kernel_rfl
theorem eqg25 : EqAg3 Try.prog .eql 25 := by
  intro a0 a1 a2 b0 b1 b2 x y w
  have hg : (eqGuard .eql 25 x y (.agg #[.int .i64 a0, .int .i64 a1, .int .i64 a2]) (.agg #[.int .i64 b0, .int .i64 b1, .int .i64 b2])).run Try.prog w = .ok () w := by simp [eqGuard, (by kernel_rfl : Try.prog.eqGuardType Try.prog.depth 25 = false)]
  have hf : (Try.prog.fieldsOf 25).toList = (match Try.prog.underlying 25 with | some (.struct fs) => fs.toList | _ => []) := by kernel_rfl
  refine ⟨hg, ?_⟩
  rw [run_eql_struct, run_equalIn_agg (d := 9999) (ht := by kernel_rfl) (hp := by kernel_rfl), hf, Try.underlying25]
  by_cases h0 : a0 = b0 <;> by_cases h1 : a1 = b1 <;> by_cases h2 : a2 = b2 <;> simp [Op.eqFields, part, go_sem, h0, h1, h2]
theorem neg25 : EqAg3 Try.prog .neq 25 := by
  intro a0 a1 a2 b0 b1 b2 x y w
  have hg : (eqGuard .neq 25 x y (.agg #[.int .i64 a0, .int .i64 a1, .int .i64 a2]) (.agg #[.int .i64 b0, .int .i64 b1, .int .i64 b2])).run Try.prog w = .ok () w := by simp [eqGuard, (by kernel_rfl : Try.prog.eqGuardType Try.prog.depth 25 = false)]
  have hf : (Try.prog.fieldsOf 25).toList = (match Try.prog.underlying 25 with | some (.struct fs) => fs.toList | _ => []) := by kernel_rfl
  refine ⟨hg, ?_⟩
  rw [run_neq_struct, run_equalIn_agg (d := 9999) (ht := by kernel_rfl) (hp := by kernel_rfl), hf, Try.underlying25]
  by_cases h0 : a0 = b0 <;> by_cases h1 : a1 = b1 <;> by_cases h2 : a2 = b2 <;> simp [Op.eqFields, part, go_sem, h0, h1, h2]
theorem cf_laws_big : ∀ args w, (callFunc 15 args).run Try.prog w = .ok (.enter 15 args) w := run_callFunc Try.func15 (by kernel_rfl) (by kernel_rfl)
set_option maxRecDepth 100000 in
set_option maxHeartbeats 400000 in
theorem s_laws_big {code1 : List Int} {more2 : List Int} {r : Bool} (h : r_laws_big code1 more2 = some r) : CallS Try.prog 15 [.c (.sl (code1.map c5)), .c (.sl (more2.map c5))] (Bo r) [] := by
  refine CallS_of_text (rs := [.t 4]) (vs := [.tmp 4]) Try.func15 rfl rfl (.cons rfl FitsL.nil) (by decide) 16 rfl ?_
  unfold r_laws_big at h
  show V _ _ ⟨[.c (.sl (code1.map c5)), .c (.sl (more2.map c5)), .bot, .bot, .bot, .bot, .bot, .bot, .bot, .bot, .bot, .bot, .bot, .bot, .bot, .bot], []⟩ _
  refine V_sreg [true, true, false, false, false, false, false, false, false, false, false, false, false, false, false, false] [] (s1 := ⟨[.c (.sl (code1.map c5)), .c (.sl (more2.map c5)), .bot, .bot, .bot, .bot, .bot, .bot, .bot, .bot, .bot, .bot, .bot, .bot, .bot, .bot], []⟩) ?_ ?_
  · refine XL_cons rfl (X_of_Y0 rfl (E_assign (Bo false) rfl (by kernel_rfl))) ?_
    refine XL_nil ?_
    kernel_rfl
  obtain ⟨t4, ht4, h⟩ := of_bind h
  have ht4 := some_inj ht4
  refine V_sreg [false, false, false, false, true, false, false, false, false, false, false, false, false, false, false, false] [] (s1 := ⟨[.bot, .bot, .bot, .bot, Bo t4, .bot, .bot, .bot, .bot, .bot, .bot, .bot, .bot, .bot, .bot, .bot], []⟩) ?_ ?_
  · refine XL_cons rfl (X_of_Y0 rfl (E_move (.c (.sl (code1.map c5))) rfl (by kernel_rfl))) ?_
    refine XL_cons rfl (X_of_Y0 rfl (Y0_lenM (c := c5) (xs := code1) Try.underlying22 rfl (by kernel_rfl))) ?_
    refine XL_cons rfl (X_of_Y0 rfl (Y0_gtw (k := .i64) (a := (code1.length : Int)) (b := 1048576) rfl (by kernel_rfl) (by kernel_rfl))) ?_
    refine XL_cons rfl (X_of_Y0 rfl (E_move (Bo (ltI 1048576 ((code1.length : Int)))) rfl (by kernel_rfl))) ?_
    refine XL_split (ltI 1048576 ((code1.length : Int))) (fun hc3 => ?_) (fun hc3 => ?_)
    · refine XL_skipF (ltI 1048576 ((code1.length : Int))) rfl rfl (by kernel_rfl) hc3 rfl ?_
      refine XL_skipF (ltI 1048576 ((code1.length : Int))) rfl rfl (by kernel_rfl) hc3 rfl ?_
      refine XL_skipF (ltI 1048576 ((code1.length : Int))) rfl rfl (by kernel_rfl) hc3 rfl ?_
      refine XL_skipF (ltI 1048576 ((code1.length : Int))) rfl rfl (by kernel_rfl) hc3 rfl ?_
      refine XL_skipF (ltI 1048576 ((code1.length : Int))) rfl rfl (by kernel_rfl) hc3 rfl ?_
      refine XL_skipF (ltI 1048576 ((code1.length : Int))) rfl rfl (by kernel_rfl) hc3 rfl ?_
      refine XL_cons rfl (X_of_Y0 rfl (Y0_pick1 (b := ltI 1048576 ((code1.length : Int))) (p := true) (q := ltI (w64 (1048576 - ((code1.length : Int)))) ((more2.length : Int))) rfl (by kernel_rfl) hc3 (by kernel_rfl))) ?_
      refine XL_cons rfl (X_of_Y0 rfl (E_assign (Bo (bif (ltI 1048576 ((code1.length : Int))) then true else (ltI (w64 (1048576 - ((code1.length : Int)))) ((more2.length : Int))))) rfl (by kernel_rfl))) ?_
      refine XL_nil ?_
      subst ht4
      kernel_rfl
    · refine XL_takeC (ltI 1048576 ((code1.length : Int))) rfl rfl (by kernel_rfl) hc3 (X_of_Y0 rfl (E_move (.c (.sl (more2.map c5))) rfl (by kernel_rfl))) ?_
      refine XL_takeC (ltI 1048576 ((code1.length : Int))) rfl rfl (by kernel_rfl) hc3 (X_of_Y0 rfl (Y0_lenM (c := c5) (xs := more2) Try.underlying22 rfl (by kernel_rfl))) ?_
      refine XL_takeC (ltI 1048576 ((code1.length : Int))) rfl rfl (by kernel_rfl) hc3 (X_of_Y0 rfl (E_move (.c (.sl (code1.map c5))) rfl (by kernel_rfl))) ?_
      refine XL_takeC (ltI 1048576 ((code1.length : Int))) rfl rfl (by kernel_rfl) hc3 (X_of_Y0 rfl (Y0_lenM (c := c5) (xs := code1) Try.underlying22 rfl (by kernel_rfl))) ?_
      refine XL_takeC (ltI 1048576 ((code1.length : Int))) rfl rfl (by kernel_rfl) hc3 (X_of_Y0 rfl (Y0_sub64 (a := 1048576) (b := (code1.length : Int)) rfl (by kernel_rfl) (by kernel_rfl))) ?_
      refine XL_takeC (ltI 1048576 ((code1.length : Int))) rfl rfl (by kernel_rfl) hc3 (X_of_Y0 rfl (Y0_gtw (k := .i64) (a := (more2.length : Int)) (b := w64 (1048576 - ((code1.length : Int)))) rfl (by kernel_rfl) (by kernel_rfl))) ?_
      refine XL_cons rfl (X_of_Y0 rfl (Y0_pick0 (b := ltI 1048576 ((code1.length : Int))) (p := true) (q := ltI (w64 (1048576 - ((code1.length : Int)))) ((more2.length : Int))) rfl (by kernel_rfl) hc3 (by kernel_rfl))) ?_
      refine XL_cons rfl (X_of_Y0 rfl (E_assign (Bo (bif (ltI 1048576 ((code1.length : Int))) then true else (ltI (w64 (1048576 - ((code1.length : Int)))) ((more2.length : Int))))) rfl (by kernel_rfl))) ?_
      refine XL_nil ?_
      subst ht4
      kernel_rfl
  refine V_ret ?_
  obtain rfl := some_inj h
  show Post _ _ _ _ _
  exact ⟨.inr rfl, rfl, rfl, rfl⟩
theorem cf_spec_l1Cur_next : ∀ args w, (callFunc 272 args).run Try.prog w = .ok (.enter 272 args) w := run_callFunc Try.func272 (by kernel_rfl) (by kernel_rfl)
set_option maxRecDepth 100000 in
set_option maxHeartbeats 400000 in
theorem s_spec_l1Cur_next {c1 : ((List Int) × Int × Int)} {r : (Int × (((List Int) × Int × Int)))} (h : r_spec_l1Cur_next c1 = some r) : CallR Try.prog 272 [.pt 80000 0] [(80000, .box [.sl (c1.1.map c5), Ti c1.2.1, .v (.int .u64 c1.2.2)])] (I r.1) [] [(80000, .box [.sl (r.2.1.map c5), Ti r.2.2.1, .v (.int .u64 r.2.2.2)])] := by
  refine CallR_of_text (rs := [.t 2]) (vs := [.tmp 2]) Try.func272 rfl rfl (.cons rfl FitsL.nil) (by decide) 62 rfl rfl fun σ => ?_
  unfold r_spec_l1Cur_next at h
  show V _ _ ⟨[.pt 80000 0, .bot, .bot, .bot, .bot, .bot, .bot, .bot, .bot, .bot, .bot, .bot, .bot, .bot, .bot, .bot, .bot, .bot, .bot, .bot, .bot, .bot, .bot, .bot, .bot, .bot, .bot, .bot, .bot, .bot, .bot, .bot, .bot, .bot, .bot, .bot, .bot, .bot, .bot, .bot, .bot, .bot, .bot, .bot, .bot, .bot, .bot, .bot, .bot, .bot, .bot, .bot, .bot, .bot, .bot, .bot, .bot, .bot, .bot, .bot, .bot, .bot], [(80000, .pbox (σ 80000) [.sl (c1.1.map c5), Ti c1.2.1, .v (.int .u64 c1.2.2)])]⟩ _
  refine V_sreg [true, false, false, false, false, false, false, false, false, false, false, false, false, false, false, false, false, false, false, false, false, false, false, false, false, false, false, false, false, false, false, false, false, false, false, false, false, false, false, false, false, false, false, false, false, false, false, false, false, false, false, false, false, false, false, false, false, false, false, false, false, false] [80000] (s1 := ⟨[.pt 80000 0, .bot, .bot, .bot, .bot, .bot, .bot, .bot, .bot, .bot, .bot, .bot, .bot, .bot, .bot, .bot, .bot, .bot, .bot, .bot, .bot, .bot, .bot, .bot, .bot, .bot, .bot, .bot, .bot, .bot, .bot, .bot, .bot, .bot, .bot, .bot, .bot, .bot, .bot, .bot, .bot, .bot, .bot, .bot, .bot, .bot, .bot, .bot, .bot, .bot, .bot, .bot, .bot, .bot, .bot, .bot, .bot, .bot, .bot, .bot, .bot, .bot], [(80000, .pbox (σ 80000) [.sl (c1.1.map c5), Ti c1.2.1, .v (.int .u64 c1.2.2)])]⟩) ?_ ?_
  · refine XL_cons rfl (X_of_Y0 rfl (E_assign (I 0) rfl (by kernel_rfl))) ?_
    refine XL_nil ?_
    kernel_rfl
  refine V_sreg [true, false, false, true, false, false, false, false, false, false, false, false, false, false, false, false, false, false, false, false, false, false, false, false, false, false, false, false, false, false, false, false, false, false, false, false, false, false, false, false, false, false, false, false, false, false, false, false, false, false, false, false, false, false, false, false, false, false, false, false, false, false] [80000] (s1 := ⟨[.pt 80000 0, .bot, .bot, I 0, .bot, .bot, .bot, .bot, .bot, .bot, .bot, .bot, .bot, .bot, .bot, .bot, .bot, .bot, .bot, .bot, .bot, .bot, .bot, .bot, .bot, .bot, .bot, .bot, .bot, .bot, .bot, .bot, .bot, .bot, .bot, .bot, .bot, .bot, .bot, .bot, .bot, .bot, .bot, .bot, .bot, .bot, .bot, .bot, .bot, .bot, .bot, .bot, .bot, .bot, .bot, .bot, .bot, .bot, .bot, .bot, .bot, .bot], [(80000, .pbox (σ 80000) [.sl (c1.1.map c5), Ti c1.2.1, .v (.int .u64 c1.2.2)])]⟩) ?_ ?_
  · refine XL_cons rfl (X_of_Y0 rfl (E_assign (I 0) rfl (by kernel_rfl))) ?_
    refine XL_nil ?_
    kernel_rfl
  obtain ⟨j2, hj2, h⟩ := of_bind h
  refine V_cutK [true, false, false, true, false, false, false, false, false, false, false, false, false, false, false, false, false, false, false, false, false, false, false, false, false, false, false, false, false, false, false, false, false, false, false, false, false, false, false, false, false, false, false, false, false, false, false, false, false, false, false, false, false, false, false, false, false, false, false, false, false, false] [80000] (s1 := ⟨[.pt 80000 0, .bot, .bot, I j2, .bot, .bot, .bot, .bot, .bot, .bot, .bot, .bot, .bot, .bot, .bot, .bot, .bot, .bot, .bot, .bot, .bot, .bot, .bot, .bot, .bot, .bot, .bot, .bot, .bot, .bot, .bot, .bot, .bot, .bot, .bot, .bot, .bot, .bot, .bot, .bot, .bot, .bot, .bot, .bot, .bot, .bot, .bot, .bot, .bot, .bot, .bot, .bot, .bot, .bot, .bot, .bot, .bot, .bot, .bot, .bot, .bot, .bot], [(80000, .pbox (σ 80000) [.sl (c1.1.map c5), Ti c1.2.1, .v (.int .u64 c1.2.2)])]⟩) ?_ ?_
  · clear h
    have h := hj2
    clear hj2
    refine V_sdreg [0, 1, 3, 7, 0, 16, 48, 112, 240, 511] 10 [[.z, .z, .z, .z, .b, .b, .b, .b, .b, .z], [.a, .z, .z, .z, .b, .b, .b, .b, .b, .z], [.a, .a, .z, .z, .b, .b, .b, .b, .b, .z], [.a, .a, .a, .z, .b, .b, .b, .b, .b, .z], [.b, .b, .b, .b, .z, .z, .z, .z, .z, .z], [.b, .b, .b, .b, .a, .z, .z, .z, .z, .z], [.b, .b, .b, .b, .a, .a, .z, .z, .z, .z], [.b, .b, .b, .b, .a, .a, .a, .z, .z, .z], [.b, .b, .b, .b, .a, .a, .a, .a, .z, .z], [.a, .a, .a, .a, .a, .a, .a, .a, .a, .z]] [true, false, false, true, false, false, false, false, false, false, false, false, false, true, false, false, false, false, false, false, false, false, false, false, false, false, false, false, false, false, false, false, false, false, false, false, false, false, false, false, false, false, false, false, false, false, false, false, false, false, false, false, false, false, false, false, false, false, false, false, false, false] [80000] (s1 := ⟨[.pt 80000 0, .bot, .bot, I 0, .bot, .bot, .bot, .bot, .bot, .bot, .bot, .bot, .bot, Bo (ltI c1.2.1 ((c1.1.length : Int))), .bot, .bot, .bot, .bot, .bot, .bot, .bot, .bot, .bot, .bot, .bot, .bot, .bot, .bot, .bot, .bot, .bot, .bot, .bot, .bot, .bot, .bot, .bot, .bot, .bot, .bot, .bot, .bot, .bot, .bot, .bot, .bot, .bot, .bot, .bot, .bot, .bot, .bot, .bot, .bot, .bot, .bot, .bot, .bot, .bot, .bot, .bot, .bot], [(80000, .pbox (σ 80000) [.sl (c1.1.map c5), Ti c1.2.1, .v (.int .u64 c1.2.2)])]⟩) (by kernel_rfl) (by kernel_rfl) ?_ ?_
    · refine DE_0 0 (.pt 80000 0) (by kernel_rfl) rfl rfl rfl (gsat_none rfl) (by kernel_rfl) (E_move (.pt 80000 0) rfl (by kernel_rfl)) 4 rfl ?_
      refine DE_0 1 (.pt 80000 0) (by kernel_rfl) rfl rfl rfl (gsat_none rfl) (by kernel_rfl) (E_nil (.pt 80000 0) rfl (by kernel_rfl) (by intro hh; cases hh)) 5 rfl ?_
      refine DE_0 2 (.pt 80000 1) (by kernel_rfl) rfl rfl rfl (gsat_none rfl) (by kernel_rfl) (E_field (.pt 80000 1) Try.underlying100 rfl sz3 rfl (by kernel_rfl) (by intro hh; cases hh)) 6 rfl ?_
      refine DE_0 3 (I c1.2.1) (by kernel_rfl) rfl rfl rfl (gsat_none rfl) (by kernel_rfl) (Y0_load1 (c := Ti c1.2.1) (cs := [.v (.int .u64 c1.2.2)]) sc3 rfl (by kernel_rfl)) 7 rfl ?_
      refine DE_0 4 (.pt 80000 0) (by kernel_rfl) rfl rfl rfl (gsat_none rfl) (by kernel_rfl) (E_move (.pt 80000 0) rfl (by kernel_rfl)) 8 rfl ?_
      refine DE_0 5 (.pt 80000 0) (by kernel_rfl) rfl rfl rfl (gsat_none rfl) (by kernel_rfl) (E_nil (.pt 80000 0) rfl (by kernel_rfl) (by intro hh; cases hh)) 9 rfl ?_
      refine DE_0 6 (.pt 80000 0) (by kernel_rfl) rfl rfl rfl (gsat_none rfl) (by kernel_rfl) (E_field (.pt 80000 0) Try.underlying100 rfl sz22 rfl (by kernel_rfl) (by intro hh; cases hh)) 10 rfl ?_
      refine DE_0 7 (.c (.sl (c1.1.map c5))) (by kernel_rfl) rfl rfl rfl (gsat_none rfl) (by kernel_rfl) (Y0_load1 (c := .sl (c1.1.map c5)) (cs := [Ti c1.2.1, .v (.int .u64 c1.2.2)]) sc22 rfl (by kernel_rfl)) 11 rfl ?_
      refine DE_0 8 (I ((c1.1.length : Int))) (by kernel_rfl) rfl rfl rfl (gsat_none rfl) (by kernel_rfl) (Y0_lenM (c := c5) (xs := c1.1) Try.underlying22 rfl (by kernel_rfl)) 12 rfl ?_
      refine DE_0 9 (Bo (ltI c1.2.1 ((c1.1.length : Int)))) (by kernel_rfl) rfl rfl rfl (gsat_none rfl) (by kernel_rfl) (Y0_ltw (k := .i64) (a := c1.2.1) (b := (c1.1.length : Int)) rfl (by kernel_rfl) (by kernel_rfl)) 13 rfl ?_
      refine DL_nil (by kernel_rfl) ?_
      refine XL_nil ?_
      kernel_rfl
    refine V_cond rfl (fun hc3 => ?_) (fun hc3 => ?_)
    · have h := of_true h hc3
      obtain ⟨e4, he4, h⟩ := of_bind h
      obtain ⟨b5, hb5, h⟩ := of_sI h
      refine V_dreg [0, 1, 3, 7, 0, 16, 48, 112, 255, 511, 1023, 2047] 12 [[.z, .z, .z, .z, .b, .b, .b, .b, .z, .z, .z, .z], [.a, .z, .z, .z, .b, .b, .b, .b, .z, .z, .z, .z], [.a, .a, .z, .z, .b, .b, .b, .b, .z, .z, .z, .z], [.a, .a, .a, .z, .b, .b, .b, .b, .z, .z, .z, .z], [.b, .b, .b, .b, .z, .z, .z, .z, .z, .z, .z, .z], [.b, .b, .b, .b, .a, .z, .z, .z, .z, .z, .z, .z], [.b, .b, .b, .b, .a, .a, .z, .z, .z, .z, .z, .z], [.b, .b, .b, .b, .a, .a, .a, .z, .z, .z, .z, .z], [.a, .a, .a, .a, .a, .a, .a, .a, .z, .z, .z, .z], [.a, .a, .a, .a, .a, .a, .a, .a, .a, .z, .z, .z], [.a, .a, .a, .a, .a, .a, .a, .a, .a, .a, .z, .z], [.a, .a, .a, .a, .a, .a, .a, .a, .a, .a, .a, .z]] [true, false, false, true, false, false, false, false, false, false, false, false, false, false, false, false, false, false, false, false, false, false, false, false, false, false, false, false, false, false, false, false, false, false, false, false, false, false, false, false, false, false, false, false, false, false, false, false, false, false, false, false, false, false, false, false, false, false, false, false, false, false] [80000] (s1 := ⟨[.pt 80000 0, .bot, .bot, I b5, .bot, .bot, .bot, .bot, .bot, .bot, .bot, .bot, .bot, .bot, .bot, .bot, .bot, .bot, .bot, .bot, .bot, .bot, .bot, .bot, .bot, .bot, .bot, .bot, .bot, .bot, .bot, .bot, .bot, .bot, .bot, .bot, .bot, .bot, .bot, .bot, .bot, .bot, .bot, .bot, .bot, .bot, .bot, .bot, .bot, .bot, .bot, .bot, .bot, .bot, .bot, .bot, .bot, .bot, .bot, .bot, .bot, .bot], [(80000, .pbox (σ 80000) [.sl (c1.1.map c5), Ti c1.2.1, .v (.int .u64 c1.2.2)])]⟩) (by kernel_rfl) (by kernel_rfl) ?_ ?_
      · refine DE_0 0 (.pt 80000 0) (by kernel_rfl) rfl rfl rfl (gsat_none rfl) (by kernel_rfl) (E_move (.pt 80000 0) rfl (by kernel_rfl)) 14 rfl ?_
        refine DE_0 1 (.pt 80000 0) (by kernel_rfl) rfl rfl rfl (gsat_none rfl) (by kernel_rfl) (E_nil (.pt 80000 0) rfl (by kernel_rfl) (by intro hh; cases hh)) 15 rfl ?_
        refine DE_0 2 (.pt 80000 0) (by kernel_rfl) rfl rfl rfl (gsat_none rfl) (by kernel_rfl) (E_field (.pt 80000 0) Try.underlying100 rfl sz22 rfl (by kernel_rfl) (by intro hh; cases hh)) 16 rfl ?_
        refine DE_0 3 (.c (.sl (c1.1.map c5))) (by kernel_rfl) rfl rfl rfl (gsat_none rfl) (by kernel_rfl) (Y0_load1 (c := .sl (c1.1.map c5)) (cs := [Ti c1.2.1, .v (.int .u64 c1.2.2)]) sc22 rfl (by kernel_rfl)) 17 rfl ?_
        refine DE_0 4 (.pt 80000 0) (by kernel_rfl) rfl rfl rfl (gsat_none rfl) (by kernel_rfl) (E_move (.pt 80000 0) rfl (by kernel_rfl)) 18 rfl ?_
        refine DE_0 5 (.pt 80000 0) (by kernel_rfl) rfl rfl rfl (gsat_none rfl) (by kernel_rfl) (E_nil (.pt 80000 0) rfl (by kernel_rfl) (by intro hh; cases hh)) 19 rfl ?_
        refine DE_0 6 (.pt 80000 1) (by kernel_rfl) rfl rfl rfl (gsat_none rfl) (by kernel_rfl) (E_field (.pt 80000 1) Try.underlying100 rfl sz3 rfl (by kernel_rfl) (by intro hh; cases hh)) 20 rfl ?_
        refine DE_0 7 (I c1.2.1) (by kernel_rfl) rfl rfl rfl (gsat_none rfl) (by kernel_rfl) (Y0_load1 (c := Ti c1.2.1) (cs := [.v (.int .u64 c1.2.2)]) sc3 rfl (by kernel_rfl)) 21 rfl ?_
        refine DE_0 8 (.pe [.v (.int .u8 e4)]) (by kernel_rfl) rfl rfl rfl (gsat_none rfl) (by kernel_rfl) (Y0_idxM (c := c5) (xs := c1.1) (v := e4) (n := c1.2.1) Try.underlying22 sz5 rfl (by kernel_rfl) (by kernel_rfl) he4) 22 rfl ?_
        refine DE_0 9 (.c (.v (.int .u8 e4))) (by kernel_rfl) rfl rfl rfl (gsat_none rfl) (by kernel_rfl) (Y0_load1 (c := .v (.int .u8 e4)) (cs := []) sc5 rfl (by kernel_rfl)) 23 rfl ?_
        refine DE_0 10 (I (IntKind.i64.wrap e4)) (by kernel_rfl) rfl rfl rfl (gsat_none rfl) (by kernel_rfl) (Y0_conv (k2 := .u8) (a := e4) Try.underlying5 Try.underlying3 rfl (by kernel_rfl)) 24 rfl ?_
        refine DE_0 11 (I (IntKind.i64.wrap e4)) (by kernel_rfl) rfl rfl rfl (gsat_none rfl) (by kernel_rfl) (E_assign (I (IntKind.i64.wrap e4)) rfl (by kernel_rfl)) 3 rfl ?_
        refine DL_nil (by kernel_rfl) ?_
        refine XL_nil ?_
        subst hb5
        kernel_rfl
      obtain rfl := some_inj h
      show St.keep _ _ _ = _
      rfl
    · have h := of_false h hc3
      refine V_skip ?_
      obtain rfl := some_inj h
      show St.keep _ _ _ = _
      rfl
  obtain ⟨f6, hf6, h⟩ := of_sI h
  refine V_sreg [true, false, false, true, false, false, false, false, false, false, false, false, false, false, false, false, false, false, false, false, false, false, false, false, false, false, false, false, false, false, false, false, false, false, false, false, false, false, false, false, false, false, false, false, false, false, false, false, false, false, false, false, false, false, false, false, false, false, false, false, false, false] [80000] (s1 := ⟨[.pt 80000 0, .bot, .bot, I j2, .bot, .bot, .bot, .bot, .bot, .bot, .bot, .bot, .bot, .bot, .bot, .bot, .bot, .bot, .bot, .bot, .bot, .bot, .bot, .bot, .bot, .bot, .bot, .bot, .bot, .bot, .bot, .bot, .bot, .bot, .bot, .bot, .bot, .bot, .bot, .bot, .bot, .bot, .bot, .bot, .bot, .bot, .bot, .bot, .bot, .bot, .bot, .bot, .bot, .bot, .bot, .bot, .bot, .bot, .bot, .bot, .bot, .bot], [(80000, .pbox (σ 80000) [.sl (c1.1.map c5), Ti f6, .v (.int .u64 c1.2.2)])]⟩) ?_ ?_
  · refine XL_cons rfl (X_of_Y0 rfl (E_move (.pt 80000 0) rfl (by kernel_rfl))) ?_
    refine XL_cons rfl (X_of_Y0 rfl (E_nil (.pt 80000 0) rfl (by kernel_rfl) (by intro hh; cases hh))) ?_
    refine XL_cons rfl (X_of_Y0 rfl (E_field (.pt 80000 1) Try.underlying100 rfl sz3 rfl (by kernel_rfl) (by intro hh; cases hh))) ?_
    refine XL_cons rfl (X_of_Y0 rfl (Y0_load1 (c := Ti c1.2.1) (cs := [.v (.int .u64 c1.2.2)]) sc3 rfl (by kernel_rfl))) ?_
    refine XL_cons rfl (X_of_Y0 rfl (Y0_add64 (a := c1.2.1) (b := 1) rfl (by kernel_rfl) (by kernel_rfl))) ?_
    refine XL_cons rfl (X_of_Y0 rfl (E_nil (.pt 80000 0) rfl (by kernel_rfl) (by intro hh; cases hh))) ?_
    refine XL_cons rfl (X_of_Y0 rfl (E_field (.pt 80000 1) Try.underlying100 rfl sz3 rfl (by kernel_rfl) (by intro hh; cases hh))) ?_
    refine XL_cons rfl (E_storep (l := σ 80000) (id := 80000) (off := 1) (cs := [.sl (c1.1.map c5), Ti c1.2.1, .v (.int .u64 c1.2.2)]) (vc := [Ti (w64 (c1.2.1 + 1))]) [.sl (c1.1.map c5), Ti (w64 (c1.2.1 + 1)), .v (.int .u64 c1.2.2)] rfl rfl (by kernel_rfl) (by kernel_rfl) (by kernel_rfl) sz3 (Nat.le_of_ble_eq_true rfl) (by kernel_rfl)) ?_
    refine XL_nil ?_
    subst hf6
    kernel_rfl
  obtain ⟨f7, hf7, h⟩ := of_sI h
  refine V_sreg [true, false, false, true, false, false, false, false, false, false, false, false, false, false, false, false, false, false, false, false, false, false, false, false, false, false, false, false, false, false, false, false, false, false, false, false, false, false, false, false, false, false, false, false, false, false, false, false, false, false, false, false, false, false, false, false, false, false, false, false, false, false] [80000] (s1 := ⟨[.pt 80000 0, .bot, .bot, I j2, .bot, .bot, .bot, .bot, .bot, .bot, .bot, .bot, .bot, .bot, .bot, .bot, .bot, .bot, .bot, .bot, .bot, .bot, .bot, .bot, .bot, .bot, .bot, .bot, .bot, .bot, .bot, .bot, .bot, .bot, .bot, .bot, .bot, .bot, .bot, .bot, .bot, .bot, .bot, .bot, .bot, .bot, .bot, .bot, .bot, .bot, .bot, .bot, .bot, .bot, .bot, .bot, .bot, .bot, .bot, .bot, .bot, .bot], [(80000, .pbox (σ 80000) [.sl (c1.1.map c5), Ti f6, .v (.int .u64 f7)])]⟩) ?_ ?_
  · refine XL_cons rfl (X_of_Y0 rfl (E_move (.pt 80000 0) rfl (by kernel_rfl))) ?_
    refine XL_cons rfl (X_of_Y0 rfl (E_move (.pt 80000 0) rfl (by kernel_rfl))) ?_
    refine XL_cons rfl (X_of_Y0 rfl (E_nil (.pt 80000 0) rfl (by kernel_rfl) (by intro hh; cases hh))) ?_
    refine XL_cons rfl (X_of_Y0 rfl (E_field (.pt 80000 2) Try.underlying100 rfl sz98 rfl (by kernel_rfl) (by intro hh; cases hh))) ?_
    refine XL_cons rfl (X_of_Y0 rfl (Y0_load1 (c := .v (.int .u64 c1.2.2)) (cs := []) sc98 rfl (by kernel_rfl))) ?_
    refine XL_cons rfl (X_of_Y0 rfl (Y0_mul (k := .u64) (a := c1.2.2) (b := 6364136223846793005) rfl (by kernel_rfl) (by kernel_rfl))) ?_
    refine XL_cons rfl (X_of_Y0 rfl (E_move (I j2) rfl (by kernel_rfl))) ?_
    refine XL_cons rfl (X_of_Y0 rfl (Y0_conv (k2 := .i64) (a := j2) Try.underlying3 Try.underlying98 rfl (by kernel_rfl))) ?_
    refine XL_cons rfl (X_of_Y0 rfl (Y0_add (k := .u64) (a := IntKind.u64.wrap (c1.2.2 * 6364136223846793005)) (b := IntKind.u64.wrap j2) rfl (by kernel_rfl) (by kernel_rfl))) ?_
    refine XL_cons rfl (X_of_Y0 rfl (Y0_add (k := .u64) (a := IntKind.u64.wrap ((IntKind.u64.wrap (c1.2.2 * 6364136223846793005)) + (IntKind.u64.wrap j2))) (b := 1442695040888963407) rfl (by kernel_rfl) (by kernel_rfl))) ?_
    refine XL_cons rfl (X_of_Y0 rfl (E_nil (.pt 80000 0) rfl (by kernel_rfl) (by intro hh; cases hh))) ?_
    refine XL_cons rfl (X_of_Y0 rfl (E_field (.pt 80000 2) Try.underlying100 rfl sz98 rfl (by kernel_rfl) (by intro hh; cases hh))) ?_
    refine XL_cons rfl (E_storep (l := σ 80000) (id := 80000) (off := 2) (cs := [.sl (c1.1.map c5), Ti f6, .v (.int .u64 c1.2.2)]) (vc := [.v (.int .u64 (IntKind.u64.wrap ((IntKind.u64.wrap ((IntKind.u64.wrap (c1.2.2 * 6364136223846793005)) + (IntKind.u64.wrap j2))) + 1442695040888963407)))]) [.sl (c1.1.map c5), Ti f6, .v (.int .u64 (IntKind.u64.wrap ((IntKind.u64.wrap ((IntKind.u64.wrap (c1.2.2 * 6364136223846793005)) + (IntKind.u64.wrap j2))) + 1442695040888963407)))] rfl rfl (by kernel_rfl) (by kernel_rfl) (by kernel_rfl) sz98 (Nat.le_of_ble_eq_true rfl) (by kernel_rfl)) ?_
    refine XL_nil ?_
    subst hf7
    kernel_rfl
  refine V_seq ?_
  refine V_sdreg [0, 1, 3, 7, 0, 16, 48, 112, 240, 511] 10 [[.z, .z, .z, .z, .b, .b, .b, .b, .b, .z], [.a, .z, .z, .z, .b, .b, .b, .b, .b, .z], [.a, .a, .z, .z, .b, .b, .b, .b, .b, .z], [.a, .a, .a, .z, .b, .b, .b, .b, .b, .z], [.b, .b, .b, .b, .z, .z, .z, .z, .z, .z], [.b, .b, .b, .b, .a, .z, .z, .z, .z, .z], [.b, .b, .b, .b, .a, .a, .z, .z, .z, .z], [.b, .b, .b, .b, .a, .a, .a, .z, .z, .z], [.b, .b, .b, .b, .a, .a, .a, .a, .z, .z], [.a, .a, .a, .a, .a, .a, .a, .a, .a, .z]] [true, false, false, true, false, false, false, false, false, false, false, false, false, false, false, false, false, false, false, false, false, false, false, false, false, false, false, false, false, false, false, false, false, false, false, false, false, false, false, false, false, false, false, false, false, false, false, false, false, false, false, false, false, true, false, false, false, false, false, false, false, false] [80000] (s1 := ⟨[.pt 80000 0, .bot, .bot, I j2, .bot, .bot, .bot, .bot, .bot, .bot, .bot, .bot, .bot, .bot, .bot, .bot, .bot, .bot, .bot, .bot, .bot, .bot, .bot, .bot, .bot, .bot, .bot, .bot, .bot, .bot, .bot, .bot, .bot, .bot, .bot, .bot, .bot, .bot, .bot, .bot, .bot, .bot, .bot, .bot, .bot, .bot, .bot, .bot, .bot, .bot, .bot, .bot, .bot, Bo (leI f6 ((c1.1.length : Int))), .bot, .bot, .bot, .bot, .bot, .bot, .bot, .bot], [(80000, .pbox (σ 80000) [.sl (c1.1.map c5), Ti f6, .v (.int .u64 f7)])]⟩) (by kernel_rfl) (by kernel_rfl) ?_ ?_
  · refine DE_0 0 (.pt 80000 0) (by kernel_rfl) rfl rfl rfl (gsat_none rfl) (by kernel_rfl) (E_move (.pt 80000 0) rfl (by kernel_rfl)) 44 rfl ?_
    refine DE_0 1 (.pt 80000 0) (by kernel_rfl) rfl rfl rfl (gsat_none rfl) (by kernel_rfl) (E_nil (.pt 80000 0) rfl (by kernel_rfl) (by intro hh; cases hh)) 45 rfl ?_
    refine DE_0 2 (.pt 80000 1) (by kernel_rfl) rfl rfl rfl (gsat_none rfl) (by kernel_rfl) (E_field (.pt 80000 1) Try.underlying100 rfl sz3 rfl (by kernel_rfl) (by intro hh; cases hh)) 46 rfl ?_
    refine DE_0 3 (I f6) (by kernel_rfl) rfl rfl rfl (gsat_none rfl) (by kernel_rfl) (Y0_load1 (c := Ti f6) (cs := [.v (.int .u64 f7)]) sc3 rfl (by kernel_rfl)) 47 rfl ?_
    refine DE_0 4 (.pt 80000 0) (by kernel_rfl) rfl rfl rfl (gsat_none rfl) (by kernel_rfl) (E_move (.pt 80000 0) rfl (by kernel_rfl)) 48 rfl ?_
    refine DE_0 5 (.pt 80000 0) (by kernel_rfl) rfl rfl rfl (gsat_none rfl) (by kernel_rfl) (E_nil (.pt 80000 0) rfl (by kernel_rfl) (by intro hh; cases hh)) 49 rfl ?_
    refine DE_0 6 (.pt 80000 0) (by kernel_rfl) rfl rfl rfl (gsat_none rfl) (by kernel_rfl) (E_field (.pt 80000 0) Try.underlying100 rfl sz22 rfl (by kernel_rfl) (by intro hh; cases hh)) 50 rfl ?_
    refine DE_0 7 (.c (.sl (c1.1.map c5))) (by kernel_rfl) rfl rfl rfl (gsat_none rfl) (by kernel_rfl) (Y0_load1 (c := .sl (c1.1.map c5)) (cs := [Ti f6, .v (.int .u64 f7)]) sc22 rfl (by kernel_rfl)) 51 rfl ?_
    refine DE_0 8 (I ((c1.1.length : Int))) (by kernel_rfl) rfl rfl rfl (gsat_none rfl) (by kernel_rfl) (Y0_lenM (c := c5) (xs := c1.1) Try.underlying22 rfl (by kernel_rfl)) 52 rfl ?_
    refine DE_0 9 (Bo (leI f6 ((c1.1.length : Int)))) (by kernel_rfl) rfl rfl rfl (gsat_none rfl) (by kernel_rfl) (Y0_lew (k := .i64) (a := f6) (b := (c1.1.length : Int)) rfl (by kernel_rfl) (by kernel_rfl)) 53 rfl ?_
    refine DL_nil (by kernel_rfl) ?_
    refine XL_nil ?_
    kernel_rfl
  refine V_cond rfl (fun hc8 => ?_) (fun hc8 => ?_)
  · have h := of_true h hc8
    refine V_sreg [false, false, true, false, false, false, false, false, false, false, false, false, false, false, false, false, false, false, false, false, false, false, false, false, false, false, false, false, false, false, false, false, false, false, false, false, false, false, false, false, false, false, false, false, false, false, false, false, false, false, false, false, false, false, false, false, false, false, false, false, false, false] [80000] (s1 := ⟨[.bot, .bot, I j2, .bot, .bot, .bot, .bot, .bot, .bot, .bot, .bot, .bot, .bot, .bot, .bot, .bot, .bot, .bot, .bot, .bot, .bot, .bot, .bot, .bot, .bot, .bot, .bot, .bot, .bot, .bot, .bot, .bot, .bot, .bot, .bot, .bot, .bot, .bot, .bot, .bot, .bot, .bot, .bot, .bot, .bot, .bot, .bot, .bot, .bot, .bot, .bot, .bot, .bot, .bot, .bot, .bot, .bot, .bot, .bot, .bot, .bot, .bot], [(80000, .pbox (σ 80000) [.sl (c1.1.map c5), Ti f6, .v (.int .u64 f7)])]⟩) ?_ ?_
    · refine XL_cons rfl (X_of_Y0 rfl (E_move (I j2) rfl (by kernel_rfl))) ?_
      refine XL_cons rfl (X_of_Y0 rfl (E_assign (I j2) rfl (by kernel_rfl))) ?_
      refine XL_nil ?_
      kernel_rfl
    refine V_ret ?_
    obtain rfl := some_inj h
    show PostR _ _ _ _ _ _
    exact ⟨⟨.inr rfl, rfl, rfl, rfl⟩, ⟨rfl, trivial⟩⟩
  · have h := of_false h hc8
    refine V_skip ?_
    show V _ _ _ _
    obtain ⟨t9, ht9, h⟩ := of_sI h
    refine V_sreg [false, false, true, false, false, false, false, false, false, false, false, false, false, false, false, false, false, false, false, false, false, false, false, false, false, false, false, false, false, false, false, false, false, false, false, false, false, false, false, false, false, false, false, false, false, false, false, false, false, false, false, false, false, false, false, false, false, false, false, false, false, false] [80000] (s1 := ⟨[.bot, .bot, I t9, .bot, .bot, .bot, .bot, .bot, .bot, .bot, .bot, .bot, .bot, .bot, .bot, .bot, .bot, .bot, .bot, .bot, .bot, .bot, .bot, .bot, .bot, .bot, .bot, .bot, .bot, .bot, .bot, .bot, .bot, .bot, .bot, .bot, .bot, .bot, .bot, .bot, .bot, .bot, .bot, .bot, .bot, .bot, .bot, .bot, .bot, .bot, .bot, .bot, .bot, .bot, .bot, .bot, .bot, .bot, .bot, .bot, .bot, .bot], [(80000, .pbox (σ 80000) [.sl (c1.1.map c5), Ti f6, .v (.int .u64 f7)])]⟩) ?_ ?_
    · refine XL_cons rfl (X_of_Y0 rfl (E_move (.pt 80000 0) rfl (by kernel_rfl))) ?_
      refine XL_cons rfl (X_of_Y0 rfl (E_nil (.pt 80000 0) rfl (by kernel_rfl) (by intro hh; cases hh))) ?_
      refine XL_cons rfl (X_of_Y0 rfl (E_field (.pt 80000 2) Try.underlying100 rfl sz98 rfl (by kernel_rfl) (by intro hh; cases hh))) ?_
      refine XL_cons rfl (X_of_Y0 rfl (Y0_load1 (c := .v (.int .u64 f7)) (cs := []) sc98 rfl (by kernel_rfl))) ?_
      refine XL_cons rfl (X_of_Y0 rfl (Y0_shr (k := .u64) (k2 := .u64) (a := f7) (b := 40) rfl (by kernel_rfl) (by kernel_rfl) (by decide))) ?_
      refine XL_cons rfl (X_of_Y0 rfl (Y0_and (k := .u64) (a := shrI .u64 f7 40) (b := 255) rfl (by kernel_rfl) (by kernel_rfl))) ?_
      refine XL_cons rfl (X_of_Y0 rfl (Y0_conv (k2 := .u64) (a := andI .u64 (shrI .u64 f7 40) 255) Try.underlying98 Try.underlying3 rfl (by kernel_rfl))) ?_
      refine XL_cons rfl (X_of_Y0 rfl (E_assign (I (IntKind.i64.wrap (andI .u64 (shrI .u64 f7 40) 255))) rfl (by kernel_rfl))) ?_
      refine XL_nil ?_
      subst ht9
      kernel_rfl
    refine V_ret ?_
    obtain rfl := some_inj h
    show PostR _ _ _ _ _ _
    exact ⟨⟨.inr rfl, rfl, rfl, rfl⟩, ⟨rfl, trivial⟩⟩
theorem cf_spec_l1Cur_pick : ∀ args w, (callFunc 193 args).run Try.prog w = .ok (.enter 193 args) w := run_callFunc Try.func193 (by kernel_rfl) (by kernel_rfl)
set_option maxRecDepth 100000 in
set_option maxHeartbeats 400000 in
theorem s_spec_l1Cur_pick {c1 : ((List Int) × Int × Int)} {vn2 : Int} {r : (Int × (((List Int) × Int × Int)))} (h : r_spec_l1Cur_pick c1 vn2 = some r) : CallR Try.prog 193 [.pt 80000 0, I vn2] [(80000, .box [.sl (c1.1.map c5), Ti c1.2.1, .v (.int .u64 c1.2.2)])] (I r.1) [] [(80000, .box [.sl (r.2.1.map c5), Ti r.2.2.1, .v (.int .u64 r.2.2.2)])] := by
  refine CallR_of_text (rs := [.t 4]) (vs := [.tmp 4]) Try.func193 rfl rfl (.cons rfl FitsL.nil) (by decide) 20 rfl rfl fun σ => ?_
  unfold r_spec_l1Cur_pick at h
  show V _ _ ⟨[.pt 80000 0, I vn2, .bot, .bot, .bot, .bot, .bot, .bot, .bot, .bot, .bot, .bot, .bot, .bot, .bot, .bot, .bot, .bot, .bot, .bot], [(80000, .pbox (σ 80000) [.sl (c1.1.map c5), Ti c1.2.1, .v (.int .u64 c1.2.2)])]⟩ _
  refine V_sreg [true, true, false, false, false, false, false, false, false, false, false, false, false, false, false, false, false, false, false, false] [80000] (s1 := ⟨[.pt 80000 0, I vn2, .bot, .bot, .bot, .bot, .bot, .bot, .bot, .bot, .bot, .bot, .bot, .bot, .bot, .bot, .bot, .bot, .bot, .bot], [(80000, .pbox (σ 80000) [.sl (c1.1.map c5), Ti c1.2.1, .v (.int .u64 c1.2.2)])]⟩) ?_ ?_
  · refine XL_cons rfl (X_of_Y0 rfl (E_assign (I 0) rfl (by kernel_rfl))) ?_
    refine XL_nil ?_
    kernel_rfl
  refine V_seq ?_
  refine V_sreg [true, true, false, false, false, false, false, true, false, false, false, false, false, false, false, false, false, false, false, false] [80000] (s1 := ⟨[.pt 80000 0, I vn2, .bot, .bot, .bot, .bot, .bot, Bo (leI vn2 1), .bot, .bot, .bot, .bot, .bot, .bot, .bot, .bot, .bot, .bot, .bot, .bot], [(80000, .pbox (σ 80000) [.sl (c1.1.map c5), Ti c1.2.1, .v (.int .u64 c1.2.2)])]⟩) ?_ ?_
  · refine XL_cons rfl (X_of_Y0 rfl (E_move (I vn2) rfl (by kernel_rfl))) ?_
    refine XL_cons rfl (X_of_Y0 rfl (Y0_lew (k := .i64) (a := vn2) (b := 1) rfl (by kernel_rfl) (by kernel_rfl))) ?_
    refine XL_nil ?_
    kernel_rfl
  refine V_cond rfl (fun hc3 => ?_) (fun hc3 => ?_)
  · have h := of_true h hc3
    refine V_sreg [false, false, false, false, true, false, false, false, false, false, false, false, false, false, false, false, false, false, false, false] [80000] (s1 := ⟨[.bot, .bot, .bot, .bot, I 0, .bot, .bot, .bot, .bot, .bot, .bot, .bot, .bot, .bot, .bot, .bot, .bot, .bot, .bot, .bot], [(80000, .pbox (σ 80000) [.sl (c1.1.map c5), Ti c1.2.1, .v (.int .u64 c1.2.2)])]⟩) ?_ ?_
    · refine XL_cons rfl (X_of_Y0 rfl (E_assign (I 0) rfl (by kernel_rfl))) ?_
      refine XL_nil ?_
      kernel_rfl
    refine V_ret ?_
    obtain rfl := some_inj h
    show PostR _ _ _ _ _ _
    exact ⟨⟨.inr rfl, rfl, rfl, rfl⟩, ⟨rfl, trivial⟩⟩
  · have h := of_false h hc3
    refine V_skip ?_
    show V _ _ _ _
    obtain ⟨y4, hy4, h⟩ := of_bind h
    refine V_sreg [true, true, false, false, false, true, false, false, false, false, false, false, false, false, false, false, false, false, false, false] [80000] (s1 := ⟨[.pt 80000 0, I vn2, .bot, .bot, .bot, I y4.1, .bot, .bot, .bot, .bot, .bot, .bot, .bot, .bot, .bot, .bot, .bot, .bot, .bot, .bot], [(80000, .pbox (σ 80000) [.sl (y4.2.1.map c5), Ti y4.2.2.1, .v (.int .u64 y4.2.2.2)])]⟩) ?_ ?_
    · refine XL_cons rfl (X_of_Y0 rfl (E_move (.pt 80000 0) rfl (by kernel_rfl))) ?_
      refine XL_cons rfl (X_callR (E' := [(80000, .pbox (σ 80000) [.sl (y4.2.1.map c5), Ti y4.2.2.1, .v (.int .u64 y4.2.2.2)])]) [(80000, 80000)] 9 (s_spec_l1Cur_next hy4) cf_spec_l1Cur_next rfl rfl (by kernel_rfl) rfl (mE_cons (by kernel_rfl) mE_nil) rfl (by kernel_rfl) rfl rfl (by kernel_rfl)) ?_
      refine XL_cons rfl (X_of_Y0 rfl (E_assign (I y4.1) rfl (by kernel_rfl))) ?_
      refine XL_nil ?_
      kernel_rfl
    refine V_seq ?_
    refine V_sreg [true, true, false, false, false, true, false, false, false, false, false, true, false, false, false, false, false, false, false, false] [80000] (s1 := ⟨[.pt 80000 0, I vn2, .bot, .bot, .bot, I y4.1, .bot, .bot, .bot, .bot, .bot, Bo (ltI 200 vn2), .bot, .bot, .bot, .bot, .bot, .bot, .bot, .bot], [(80000, .pbox (σ 80000) [.sl (y4.2.1.map c5), Ti y4.2.2.1, .v (.int .u64 y4.2.2.2)])]⟩) ?_ ?_
    · refine XL_cons rfl (X_of_Y0 rfl (E_move (I vn2) rfl (by kernel_rfl))) ?_
      refine XL_cons rfl (X_of_Y0 rfl (Y0_gtw (k := .i64) (a := vn2) (b := 200) rfl (by kernel_rfl) (by kernel_rfl))) ?_
      refine XL_nil ?_
      kernel_rfl
    refine V_cond rfl (fun hc5 => ?_) (fun hc5 => ?_)
    · have h := of_true h hc5
      obtain ⟨y6, hy6, h⟩ := of_bind h
      obtain ⟨x7, hx7, h⟩ := of_sI h
      refine V_reg [false, true, false, false, false, true, false, false, false, false, false, false, false, false, false, false, false, false, false, false] [80000] (s1 := ⟨[.bot, I vn2, .bot, .bot, .bot, I x7, .bot, .bot, .bot, .bot, .bot, .bot, .bot, .bot, .bot, .bot, .bot, .bot, .bot, .bot], [(80000, .pbox (σ 80000) [.sl (y6.2.1.map c5), Ti y6.2.2.1, .v (.int .u64 y6.2.2.2)])]⟩) ?_ ?_
      · refine XL_cons rfl (X_of_Y0 rfl (E_move (I y4.1) rfl (by kernel_rfl))) ?_
        refine XL_cons rfl (X_of_Y0 rfl (Y0_mul64 (a := y4.1) (b := 256) rfl (by kernel_rfl) (by kernel_rfl))) ?_
        refine XL_cons rfl (X_of_Y0 rfl (E_move (.pt 80000 0) rfl (by kernel_rfl))) ?_
        refine XL_cons rfl (X_callR (E' := [(80000, .pbox (σ 80000) [.sl (y6.2.1.map c5), Ti y6.2.2.1, .v (.int .u64 y6.2.2.2)])]) [(80000, 80000)] 15 (s_spec_l1Cur_next hy6) cf_spec_l1Cur_next rfl rfl (by kernel_rfl) rfl (mE_cons (by kernel_rfl) mE_nil) rfl (by kernel_rfl) rfl rfl (by kernel_rfl)) ?_
        refine XL_cons rfl (X_of_Y0 rfl (Y0_add64 (a := w64 (y4.1 * 256)) (b := y6.1) rfl (by kernel_rfl) (by kernel_rfl))) ?_
        refine XL_cons rfl (X_of_Y0 rfl (E_assign (I (w64 ((w64 (y4.1 * 256)) + y6.1))) rfl (by kernel_rfl))) ?_
        refine XL_nil ?_
        subst hx7
        kernel_rfl
      show V _ _ _ _
      obtain ⟨z8, hz8, h⟩ := of_bind h
      obtain ⟨t9, ht9, h⟩ := of_sI h
      refine V_sreg [false, false, false, false, true, false, false, false, false, false, false, false, false, false, false, false, false, false, false, false] [80000] (s1 := ⟨[.bot, .bot, .bot, .bot, I t9, .bot, .bot, .bot, .bot, .bot, .bot, .bot, .bot, .bot, .bot, .bot, .bot, .bot, .bot, .bot], [(80000, .pbox (σ 80000) [.sl (y6.2.1.map c5), Ti y6.2.2.1, .v (.int .u64 y6.2.2.2)])]⟩) ?_ ?_
      · refine XL_cons rfl (X_of_Y0 rfl (E_move (I x7) rfl (by kernel_rfl))) ?_
        refine XL_cons rfl (X_of_Y0 rfl (E_move (I vn2) rfl (by kernel_rfl))) ?_
        refine XL_cons rfl (X_of_Y0 rfl (Y0_rem (k := .i64) (a := x7) (b := vn2) rfl (by kernel_rfl) (by kernel_rfl) (nz_some hz8))) ?_
        refine XL_cons rfl (X_of_Y0 rfl (E_assign (I (Int.tmod x7 vn2)) rfl (by kernel_rfl))) ?_
        refine XL_nil ?_
        subst ht9
        kernel_rfl
      refine V_ret ?_
      obtain rfl := some_inj h
      show PostR _ _ _ _ _ _
      exact ⟨⟨.inr rfl, rfl, rfl, rfl⟩, ⟨rfl, trivial⟩⟩
    · have h := of_false h hc5
      refine V_skip ?_
      show V _ _ _ _
      obtain ⟨z10, hz10, h⟩ := of_bind h
      obtain ⟨t11, ht11, h⟩ := of_sI h
      refine V_sreg [false, false, false, false, true, false, false, false, false, false, false, false, false, false, false, false, false, false, false, false] [80000] (s1 := ⟨[.bot, .bot, .bot, .bot, I t11, .bot, .bot, .bot, .bot, .bot, .bot, .bot, .bot, .bot, .bot, .bot, .bot, .bot, .bot, .bot], [(80000, .pbox (σ 80000) [.sl (y4.2.1.map c5), Ti y4.2.2.1, .v (.int .u64 y4.2.2.2)])]⟩) ?_ ?_
      · refine XL_cons rfl (X_of_Y0 rfl (E_move (I y4.1) rfl (by kernel_rfl))) ?_
        refine XL_cons rfl (X_of_Y0 rfl (E_move (I vn2) rfl (by kernel_rfl))) ?_
        refine XL_cons rfl (X_of_Y0 rfl (Y0_rem (k := .i64) (a := y4.1) (b := vn2) rfl (by kernel_rfl) (by kernel_rfl) (nz_some hz10))) ?_
        refine XL_cons rfl (X_of_Y0 rfl (E_assign (I (Int.tmod y4.1 vn2)) rfl (by kernel_rfl))) ?_
        refine XL_nil ?_
        subst ht11
        kernel_rfl
      refine V_ret ?_
      obtain rfl := some_inj h
      show PostR _ _ _ _ _ _
      exact ⟨⟨.inr rfl, rfl, rfl, rfl⟩, ⟨rfl, trivial⟩⟩
theorem cf_spec_l1Cur_among : ∀ args w, (callFunc 169 args).run Try.prog w = .ok (.enter 169 args) w := run_callFunc Try.func169 (by kernel_rfl) (by kernel_rfl)
set_option maxRecDepth 100000 in
set_option maxHeartbeats 400000 in
theorem s_spec_l1Cur_among {c1 : ((List Int) × Int × Int)} {list2 : List Int} {r : (Int × (((List Int) × Int × Int)))} (h : r_spec_l1Cur_among c1 list2 = some r) : CallR Try.prog 169 [.pt 80000 0, .c (.sl (list2.map c3))] [(80000, .box [.sl (c1.1.map c5), Ti c1.2.1, .v (.int .u64 c1.2.2)])] (I r.1) [] [(80000, .box [.sl (r.2.1.map c5), Ti r.2.2.1, .v (.int .u64 r.2.2.2)])] := by
  refine CallR_of_text (rs := [.t 4]) (vs := [.tmp 4]) Try.func169 rfl rfl (.cons rfl FitsL.nil) (by decide) 12 rfl rfl fun σ => ?_
  unfold r_spec_l1Cur_among at h
  show V _ _ ⟨[.pt 80000 0, .c (.sl (list2.map c3)), .bot, .bot, .bot, .bot, .bot, .bot, .bot, .bot, .bot, .bot], [(80000, .pbox (σ 80000) [.sl (c1.1.map c5), Ti c1.2.1, .v (.int .u64 c1.2.2)])]⟩ _
  refine V_sreg [true, true, false, false, false, false, false, false, false, false, false, false] [80000] (s1 := ⟨[.pt 80000 0, .c (.sl (list2.map c3)), .bot, .bot, .bot, .bot, .bot, .bot, .bot, .bot, .bot, .bot], [(80000, .pbox (σ 80000) [.sl (c1.1.map c5), Ti c1.2.1, .v (.int .u64 c1.2.2)])]⟩) ?_ ?_
  · refine XL_cons rfl (X_of_Y0 rfl (E_assign (I 0) rfl (by kernel_rfl))) ?_
    refine XL_nil ?_
    kernel_rfl
  obtain ⟨y3, hy3, h⟩ := of_bind h
  obtain ⟨e4, he4, h⟩ := of_bind h
  refine V_sreg [false, false, false, false, true, false, false, false, false, false, false, false] [80000] (s1 := ⟨[.bot, .bot, .bot, .bot, I e4, .bot, .bot, .bot, .bot, .bot, .bot, .bot], [(80000, .pbox (σ 80000) [.sl (y3.2.1.map c5), Ti y3.2.2.1, .v (.int .u64 y3.2.2.2)])]⟩) ?_ ?_
  · refine XL_cons rfl (X_of_Y0 rfl (E_move (.c (.sl (list2.map c3))) rfl (by kernel_rfl))) ?_
    refine XL_cons rfl (X_of_Y0 rfl (E_move (.pt 80000 0) rfl (by kernel_rfl))) ?_
    refine XL_cons rfl (X_of_Y0 rfl (E_move (.c (.sl (list2.map c3))) rfl (by kernel_rfl))) ?_
    refine XL_cons rfl (X_of_Y0 rfl (Y0_lenM (c := c3) (xs := list2) Try.underlying53 rfl (by kernel_rfl))) ?_
    refine XL_cons rfl (X_callR (E' := [(80000, .pbox (σ 80000) [.sl (y3.2.1.map c5), Ti y3.2.2.1, .v (.int .u64 y3.2.2.2)])]) [(80000, 80000)] 9 (s_spec_l1Cur_pick hy3) cf_spec_l1Cur_pick rfl rfl (by kernel_rfl) rfl (mE_cons (by kernel_rfl) mE_nil) rfl (by kernel_rfl) rfl rfl (by kernel_rfl)) ?_
    refine XL_cons rfl (X_of_Y0 rfl (Y0_idxM (c := c3) (xs := list2) (v := e4) (n := y3.1) Try.underlying53 sz3 rfl (by kernel_rfl) (by kernel_rfl) he4)) ?_
    refine XL_cons rfl (X_of_Y0 rfl (Y0_load1 (c := Ti e4) (cs := []) sc3 rfl (by kernel_rfl))) ?_
    refine XL_cons rfl (X_of_Y0 rfl (E_assign (I e4) rfl (by kernel_rfl))) ?_
    refine XL_nil ?_
    kernel_rfl
  refine V_ret ?_
  obtain rfl := some_inj h
  show PostR _ _ _ _ _ _
  exact ⟨⟨.inr rfl, rfl, rfl, rfl⟩, ⟨rfl, trivial⟩⟩
theorem cf_spec_l1Cur_number : ∀ args w, (callFunc 247 args).run Try.prog w = .ok (.enter 247 args) w := run_callFunc Try.func247 (by kernel_rfl) (by kernel_rfl)
set_option maxRecDepth 100000 in
set_option maxHeartbeats 400000 in
theorem s_spec_l1Cur_number {c1 : ((List Int) × Int × Int)} {r : (Int × (((List Int) × Int × Int)))} (h : r_spec_l1Cur_number c1 = some r) : CallR Try.prog 247 [.pt 80000 0] [(80000, .box [.sl (c1.1.map c5), Ti c1.2.1, .v (.int .u64 c1.2.2)])] (I r.1) [] [(80000, .box [.sl (r.2.1.map c5), Ti r.2.2.1, .v (.int .u64 r.2.2.2)])] := by
  refine CallR_of_text (rs := [.t 2]) (vs := [.tmp 2]) Try.func247 rfl rfl (.cons rfl FitsL.nil) (by decide) 32 rfl rfl fun σ => ?_
  unfold r_spec_l1Cur_number at h
  show V _ _ ⟨[.pt 80000 0, .bot, .bot, .bot, .bot, .bot, .bot, .bot, .bot, .bot, .bot, .bot, .bot, .bot, .bot, .bot, .bot, .bot, .bot, .bot, .bot, .bot, .bot, .bot, .bot, .bot, .bot, .bot, .bot, .bot, .bot, .bot], [(80000, .pbox (σ 80000) [.sl (c1.1.map c5), Ti c1.2.1, .v (.int .u64 c1.2.2)])]⟩ _
  refine V_sreg [true, false, false, false, false, false, false, false, false, false, false, false, false, false, false, false, false, false, false, false, false, false, false, false, false, false, false, false, false, false, false, false] [80000] (s1 := ⟨[.pt 80000 0, .bot, .bot, .bot, .bot, .bot, .bot, .bot, .bot, .bot, .bot, .bot, .bot, .bot, .bot, .bot, .bot, .bot, .bot, .bot, .bot, .bot, .bot, .bot, .bot, .bot, .bot, .bot, .bot, .bot, .bot, .bot], [(80000, .pbox (σ 80000) [.sl (c1.1.map c5), Ti c1.2.1, .v (.int .u64 c1.2.2)])]⟩) ?_ ?_
  · refine XL_cons rfl (X_of_Y0 rfl (E_assign (I 0) rfl (by kernel_rfl))) ?_
    refine XL_nil ?_
    kernel_rfl
  refine V_seq ?_
  obtain ⟨y2, hy2, h⟩ := of_bind h
  refine V_sreg [true, false, false, false, true, false, false, false, false, false, false, false, false, false, false, false, false, false, false, false, false, false, false, false, false, false, false, false, false, false, false, false] [80000] (s1 := ⟨[.pt 80000 0, .bot, .bot, .bot, I y2.1, .bot, .bot, .bot, .bot, .bot, .bot, .bot, .bot, .bot, .bot, .bot, .bot, .bot, .bot, .bot, .bot, .bot, .bot, .bot, .bot, .bot, .bot, .bot, .bot, .bot, .bot, .bot], [(80000, .pbox (σ 80000) [.sl (y2.2.1.map c5), Ti y2.2.2.1, .v (.int .u64 y2.2.2.2)])]⟩) ?_ ?_
  · refine XL_cons rfl (X_of_Y0 rfl (E_move (.pt 80000 0) rfl (by kernel_rfl))) ?_
    refine XL_cons rfl (X_callR (E' := [(80000, .pbox (σ 80000) [.sl (y2.2.1.map c5), Ti y2.2.2.1, .v (.int .u64 y2.2.2.2)])]) [(80000, 80000)] 4 (s_spec_l1Cur_pick hy2) cf_spec_l1Cur_pick rfl rfl (by kernel_rfl) rfl (mE_cons (by kernel_rfl) mE_nil) rfl (by kernel_rfl) rfl rfl (by kernel_rfl)) ?_
    refine XL_nil ?_
    kernel_rfl
  refine V_block ?_
  refine V_sreg [true, false, false, false, true, true, false, false, false, false, false, false, false, false, false, false, false, false, false, false, false, false, false, false, false, false, false, false, false, false, false, false] [80000] (s1 := ⟨[.pt 80000 0, .bot, .bot, .bot, I y2.1, Bo (eqI y2.1 0), .bot, .bot, .bot, .bot, .bot, .bot, .bot, .bot, .bot, .bot, .bot, .bot, .bot, .bot, .bot, .bot, .bot, .bot, .bot, .bot, .bot, .bot, .bot, .bot, .bot, .bot], [(80000, .pbox (σ 80000) [.sl (y2.2.1.map c5), Ti y2.2.2.1, .v (.int .u64 y2.2.2.2)])]⟩) ?_ ?_
  · refine XL_cons rfl (X_of_Y0 rfl (Y0_eqw (k := .i64) (a := y2.1) (b := 0) rfl (by kernel_rfl) (by kernel_rfl))) ?_
    refine XL_cons rfl (X_of_Y0 rfl (E_assign (Bo (eqI y2.1 0)) rfl (by kernel_rfl))) ?_
    refine XL_nil ?_
    kernel_rfl
  refine V_cond rfl (fun hc3 => ?_) (fun hc3 => ?_)
  · have h := of_true h hc3
    obtain ⟨y4, hy4, h⟩ := of_bind h
    refine V_sreg [false, false, true, false, false, false, false, false, false, false, false, false, false, false, false, false, false, false, false, false, false, false, false, false, false, false, false, false, false, false, false, false] [80000] (s1 := ⟨[.bot, .bot, I y4.1, .bot, .bot, .bot, .bot, .bot, .bot, .bot, .bot, .bot, .bot, .bot, .bot, .bot, .bot, .bot, .bot, .bot, .bot, .bot, .bot, .bot, .bot, .bot, .bot, .bot, .bot, .bot, .bot, .bot], [(80000, .pbox (σ 80000) [.sl (y4.2.1.map c5), Ti y4.2.2.1, .v (.int .u64 y4.2.2.2)])]⟩) ?_ ?_
    · refine XL_cons rfl (X_of_Y0 rfl (E_move (.pt 80000 0) rfl (by kernel_rfl))) ?_
      refine XL_cons rfl (X_of_Y1 rfl (Y1_bslice (z := zv3) (els := [0, 1, -1, 1000000, -1000000, 1000001, -1000001, -9223372036854775808, 9223372036854775807, 999983, 999999, 1000].map c3) Try.underlying53 iz3 rfl (by decide) rfl (by kernel_rfl) rfl (by simp [c3]) (by decide) (by decide))) ?_
      refine XL_freeze 64 (T := 3) (sz := 1) (els := ([0, 1, -1, 1000000, -1000000, 1000001, -1000001, -9223372036854775808, 9223372036854775807, 999983, 999999, 1000]).map c3) (s1 := ⟨[.pt 80000 0, .bot, .bot, .bot, I y2.1, Bo (eqI y2.1 0), .bot, .pt 80000 0, .c (.sl (([0, 1, -1, 1000000, -1000000, 1000001, -1000001, -9223372036854775808, 9223372036854775807, 999983, 999999, 1000]).map c3)), .bot, .bot, .bot, .bot, .bot, .bot, .bot, .bot, .bot, .bot, .bot, .bot, .bot, .bot, .bot, .bot, .bot, .bot, .bot, .bot, .bot, .bot, .bot], [(80000, .pbox (σ 80000) [.sl (y2.2.1.map c5), Ti y2.2.2.1, .v (.int .u64 y2.2.2.2)])]⟩) (by kernel_rfl) (by kernel_rfl) ?_
      refine XL_cons rfl (X_callR (E' := [(80000, .pbox (σ 80000) [.sl (y4.2.1.map c5), Ti y4.2.2.1, .v (.int .u64 y4.2.2.2)])]) [(80000, 80000)] 9 (s_spec_l1Cur_among hy4) cf_spec_l1Cur_among rfl rfl (by kernel_rfl) rfl (mE_cons (by kernel_rfl) mE_nil) rfl (by kernel_rfl) rfl rfl (by kernel_rfl)) ?_
      refine XL_cons rfl (X_of_Y0 rfl (E_assign (I y4.1) rfl (by kernel_rfl))) ?_
      refine XL_nil ?_
      kernel_rfl
    refine V_ret ?_
    obtain rfl := some_inj h
    show PostR _ _ _ _ _ _
    exact ⟨⟨.inr rfl, rfl, rfl, rfl⟩, ⟨rfl, trivial⟩⟩
  · have h := of_false h hc3
    obtain ⟨j5, hj5, h⟩ := of_bind h
    refine V_cutK [true, false, false, false, true, false, false, false, false, false, true, false, false, false, false, false, false, false, false, false, false, false, false, false, false, false, false, false, false, false, false, false] [80000] (s1 := ⟨[.pt 80000 0, .bot, .bot, .bot, I y2.1, .bot, .bot, .bot, .bot, .bot, Bo j5, .bot, .bot, .bot, .bot, .bot, .bot, .bot, .bot, .bot, .bot, .bot, .bot, .bot, .bot, .bot, .bot, .bot, .bot, .bot, .bot, .bot], [(80000, .pbox (σ 80000) [.sl (y2.2.1.map c5), Ti y2.2.2.1, .v (.int .u64 y2.2.2.2)])]⟩) ?_ ?_
    · clear h
      have h := hj5
      clear hj5
      refine V_sreg [true, false, false, false, true, false, false, false, false, false, true, false, false, false, false, false, false, false, false, false, false, false, false, false, false, false, false, false, false, false, false, false] [80000] (s1 := ⟨[.pt 80000 0, .bot, .bot, .bot, I y2.1, .bot, .bot, .bot, .bot, .bot, Bo (eqI y2.1 1), .bot, .bot, .bot, .bot, .bot, .bot, .bot, .bot, .bot, .bot, .bot, .bot, .bot, .bot, .bot, .bot, .bot, .bot, .bot, .bot, .bot], [(80000, .pbox (σ 80000) [.sl (y2.2.1.map c5), Ti y2.2.2.1, .v (.int .u64 y2.2.2.2)])]⟩) ?_ ?_
      · refine XL_cons rfl (X_of_Y0 rfl (Y0_eqw (k := .i64) (a := y2.1) (b := 1) rfl (by kernel_rfl) (by kernel_rfl))) ?_
        refine XL_cons rfl (X_of_Y0 rfl (E_assign (Bo (eqI y2.1 1)) rfl (by kernel_rfl))) ?_
        refine XL_nil ?_
        kernel_rfl
      refine V_cond rfl (fun hc6 => ?_) (fun hc6 => ?_)
      · have h := of_true h hc6
        refine V_skip ?_
        obtain rfl := some_inj h
        show St.keep _ _ _ = _
        rfl
      · have h := of_false h hc6
        refine V_reg [true, false, false, false, true, false, false, false, false, false, true, false, false, false, false, false, false, false, false, false, false, false, false, false, false, false, false, false, false, false, false, false] [80000] (s1 := ⟨[.pt 80000 0, .bot, .bot, .bot, I y2.1, .bot, .bot, .bot, .bot, .bot, Bo (eqI y2.1 2), .bot, .bot, .bot, .bot, .bot, .bot, .bot, .bot, .bot, .bot, .bot, .bot, .bot, .bot, .bot, .bot, .bot, .bot, .bot, .bot, .bot], [(80000, .pbox (σ 80000) [.sl (y2.2.1.map c5), Ti y2.2.2.1, .v (.int .u64 y2.2.2.2)])]⟩) ?_ ?_
        · refine XL_cons rfl (X_of_Y0 rfl (Y0_eqw (k := .i64) (a := y2.1) (b := 2) rfl (by kernel_rfl) (by kernel_rfl))) ?_
          refine XL_cons rfl (X_of_Y0 rfl (E_assign (Bo (eqI y2.1 2)) rfl (by kernel_rfl))) ?_
          refine XL_nil ?_
          kernel_rfl
        obtain rfl := some_inj h
        show St.keep _ _ _ = _
        rfl
    refine V_cond rfl (fun hc7 => ?_) (fun hc7 => ?_)
    · have h := of_true h hc7
      obtain ⟨y8, hy8, h⟩ := of_bind h
      obtain ⟨y9, hy9, h⟩ := of_bind h
      obtain ⟨y10, hy10, h⟩ := of_bind h
      obtain ⟨t11, ht11, h⟩ := of_sI h
      refine V_sreg [false, false, true, false, false, false, false, false, false, false, false, false, false, false, false, false, false, false, false, false, false, false, false, false, false, false, false, false, false, false, false, false] [80000] (s1 := ⟨[.bot, .bot, I t11, .bot, .bot, .bot, .bot, .bot, .bot, .bot, .bot, .bot, .bot, .bot, .bot, .bot, .bot, .bot, .bot, .bot, .bot, .bot, .bot, .bot, .bot, .bot, .bot, .bot, .bot, .bot, .bot, .bot], [(80000, .pbox (σ 80000) [.sl (y10.2.1.map c5), Ti y10.2.2.1, .v (.int .u64 y10.2.2.2)])]⟩) ?_ ?_
      · refine XL_cons rfl (X_of_Y0 rfl (E_move (.pt 80000 0) rfl (by kernel_rfl))) ?_
        refine XL_cons rfl (X_callR (E' := [(80000, .pbox (σ 80000) [.sl (y8.2.1.map c5), Ti y8.2.2.1, .v (.int .u64 y8.2.2.2)])]) [(80000, 80000)] 14 (s_spec_l1Cur_pick hy8) cf_spec_l1Cur_pick rfl rfl (by kernel_rfl) rfl (mE_cons (by kernel_rfl) mE_nil) rfl (by kernel_rfl) rfl rfl (by kernel_rfl)) ?_
        refine XL_cons rfl (X_of_Y0 rfl (E_move (.pt 80000 0) rfl (by kernel_rfl))) ?_
        refine XL_cons rfl (X_callR (E' := [(80000, .pbox (σ 80000) [.sl (y9.2.1.map c5), Ti y9.2.2.1, .v (.int .u64 y9.2.2.2)])]) [(80000, 80000)] 16 (s_spec_l1Cur_pick hy9) cf_spec_l1Cur_pick rfl rfl (by kernel_rfl) rfl (mE_cons (by kernel_rfl) mE_nil) rfl (by kernel_rfl) rfl rfl (by kernel_rfl)) ?_
        refine XL_cons rfl (X_of_Y0 rfl (Y0_add64 (a := 1) (b := y9.1) rfl (by kernel_rfl) (by kernel_rfl))) ?_
        refine XL_cons rfl (X_of_Y0 rfl (Y0_mul64 (a := y8.1) (b := w64 (1 + y9.1)) rfl (by kernel_rfl) (by kernel_rfl))) ?_
        refine XL_cons rfl (X_of_Y0 rfl (E_move (.pt 80000 0) rfl (by kernel_rfl))) ?_
        refine XL_cons rfl (X_callR (E' := [(80000, .pbox (σ 80000) [.sl (y10.2.1.map c5), Ti y10.2.2.1, .v (.int .u64 y10.2.2.2)])]) [(80000, 80000)] 20 (s_spec_l1Cur_pick hy10) cf_spec_l1Cur_pick rfl rfl (by kernel_rfl) rfl (mE_cons (by kernel_rfl) mE_nil) rfl (by kernel_rfl) rfl rfl (by kernel_rfl)) ?_
        refine XL_cons rfl (X_of_Y0 rfl (Y0_mul64 (a := 2) (b := y10.1) rfl (by kernel_rfl) (by kernel_rfl))) ?_
        refine XL_cons rfl (X_of_Y0 rfl (Y0_sub64 (a := 1) (b := w64 (2 * y10.1)) rfl (by kernel_rfl) (by kernel_rfl))) ?_
        refine XL_cons rfl (X_of_Y0 rfl (Y0_mul64 (a := w64 (y8.1 * (w64 (1 + y9.1)))) (b := w64 (1 - (w64 (2 * y10.1)))) rfl (by kernel_rfl) (by kernel_rfl))) ?_
        refine XL_cons rfl (X_of_Y0 rfl (E_assign (I (w64 ((w64 (y8.1 * (w64 (1 + y9.1)))) * (w64 (1 - (w64 (2 * y10.1))))))) rfl (by kernel_rfl))) ?_
        refine XL_nil ?_
        subst ht11
        kernel_rfl
      refine V_ret ?_
      obtain rfl := some_inj h
      show PostR _ _ _ _ _ _
      exact ⟨⟨.inr rfl, rfl, rfl, rfl⟩, ⟨rfl, trivial⟩⟩
    · have h := of_false h hc7
      obtain ⟨j12, hj12, h⟩ := of_bind h
      refine V_cutK [true, false, false, false, false, false, false, false, false, false, false, false, false, false, false, false, false, false, false, false, false, false, false, false, true, false, false, false, false, false, false, false] [80000] (s1 := ⟨[.pt 80000 0, .bot, .bot, .bot, .bot, .bot, .bot, .bot, .bot, .bot, .bot, .bot, .bot, .bot, .bot, .bot, .bot, .bot, .bot, .bot, .bot, .bot, .bot, .bot, Bo j12, .bot, .bot, .bot, .bot, .bot, .bot, .bot], [(80000, .pbox (σ 80000) [.sl (y2.2.1.map c5), Ti y2.2.2.1, .v (.int .u64 y2.2.2.2)])]⟩) ?_ ?_
      · clear h
        have h := hj12
        clear hj12
        refine V_sreg [true, false, false, false, true, false, false, false, false, false, false, false, false, false, false, false, false, false, false, false, false, false, false, false, true, false, false, false, false, false, false, false] [80000] (s1 := ⟨[.pt 80000 0, .bot, .bot, .bot, I y2.1, .bot, .bot, .bot, .bot, .bot, .bot, .bot, .bot, .bot, .bot, .bot, .bot, .bot, .bot, .bot, .bot, .bot, .bot, .bot, Bo (eqI y2.1 3), .bot, .bot, .bot, .bot, .bot, .bot, .bot], [(80000, .pbox (σ 80000) [.sl (y2.2.1.map c5), Ti y2.2.2.1, .v (.int .u64 y2.2.2.2)])]⟩) ?_ ?_
        · refine XL_cons rfl (X_of_Y0 rfl (Y0_eqw (k := .i64) (a := y2.1) (b := 3) rfl (by kernel_rfl) (by kernel_rfl))) ?_
          refine XL_cons rfl (X_of_Y0 rfl (E_assign (Bo (eqI y2.1 3)) rfl (by kernel_rfl))) ?_
          refine XL_nil ?_
          kernel_rfl
        refine V_cond rfl (fun hc13 => ?_) (fun hc13 => ?_)
        · have h := of_true h hc13
          refine V_skip ?_
          obtain rfl := some_inj h
          show St.keep _ _ _ = _
          rfl
        · have h := of_false h hc13
          refine V_reg [true, false, false, false, false, false, false, false, false, false, false, false, false, false, false, false, false, false, false, false, false, false, false, false, true, false, false, false, false, false, false, false] [80000] (s1 := ⟨[.pt 80000 0, .bot, .bot, .bot, .bot, .bot, .bot, .bot, .bot, .bot, .bot, .bot, .bot, .bot, .bot, .bot, .bot, .bot, .bot, .bot, .bot, .bot, .bot, .bot, Bo (eqI y2.1 4), .bot, .bot, .bot, .bot, .bot, .bot, .bot], [(80000, .pbox (σ 80000) [.sl (y2.2.1.map c5), Ti y2.2.2.1, .v (.int .u64 y2.2.2.2)])]⟩) ?_ ?_
          · refine XL_cons rfl (X_of_Y0 rfl (Y0_eqw (k := .i64) (a := y2.1) (b := 4) rfl (by kernel_rfl) (by kernel_rfl))) ?_
            refine XL_cons rfl (X_of_Y0 rfl (E_assign (Bo (eqI y2.1 4)) rfl (by kernel_rfl))) ?_
            refine XL_nil ?_
            kernel_rfl
          obtain rfl := some_inj h
          show St.keep _ _ _ = _
          rfl
      refine V_cond rfl (fun hc14 => ?_) (fun hc14 => ?_)
      · have h := of_true h hc14
        obtain ⟨y15, hy15, h⟩ := of_bind h
        refine V_sreg [false, false, true, false, false, false, false, false, false, false, false, false, false, false, false, false, false, false, false, false, false, false, false, false, false, false, false, false, false, false, false, false] [80000] (s1 := ⟨[.bot, .bot, I y15.1, .bot, .bot, .bot, .bot, .bot, .bot, .bot, .bot, .bot, .bot, .bot, .bot, .bot, .bot, .bot, .bot, .bot, .bot, .bot, .bot, .bot, .bot, .bot, .bot, .bot, .bot, .bot, .bot, .bot], [(80000, .pbox (σ 80000) [.sl (y15.2.1.map c5), Ti y15.2.2.1, .v (.int .u64 y15.2.2.2)])]⟩) ?_ ?_
        · refine XL_cons rfl (X_of_Y0 rfl (E_move (.pt 80000 0) rfl (by kernel_rfl))) ?_
          refine XL_cons rfl (X_callR (E' := [(80000, .pbox (σ 80000) [.sl (y15.2.1.map c5), Ti y15.2.2.1, .v (.int .u64 y15.2.2.2)])]) [(80000, 80000)] 28 (s_spec_l1Cur_pick hy15) cf_spec_l1Cur_pick rfl rfl (by kernel_rfl) rfl (mE_cons (by kernel_rfl) mE_nil) rfl (by kernel_rfl) rfl rfl (by kernel_rfl)) ?_
          refine XL_cons rfl (X_of_Y0 rfl (E_assign (I y15.1) rfl (by kernel_rfl))) ?_
          refine XL_nil ?_
          kernel_rfl
        refine V_ret ?_
        obtain rfl := some_inj h
        show PostR _ _ _ _ _ _
        exact ⟨⟨.inr rfl, rfl, rfl, rfl⟩, ⟨rfl, trivial⟩⟩
      · have h := of_false h hc14
        refine V_skip ?_
        show V _ _ _ _
        obtain ⟨y16, hy16, h⟩ := of_bind h
        obtain ⟨t17, ht17, h⟩ := of_sI h
        refine V_sreg [false, false, true, false, false, false, false, false, false, false, false, false, false, false, false, false, false, false, false, false, false, false, false, false, false, false, false, false, false, false, false, false] [80000] (s1 := ⟨[.bot, .bot, I t17, .bot, .bot, .bot, .bot, .bot, .bot, .bot, .bot, .bot, .bot, .bot, .bot, .bot, .bot, .bot, .bot, .bot, .bot, .bot, .bot, .bot, .bot, .bot, .bot, .bot, .bot, .bot, .bot, .bot], [(80000, .pbox (σ 80000) [.sl (y16.2.1.map c5), Ti y16.2.2.1, .v (.int .u64 y16.2.2.2)])]⟩) ?_ ?_
        · refine XL_cons rfl (X_of_Y0 rfl (E_move (.pt 80000 0) rfl (by kernel_rfl))) ?_
          refine XL_cons rfl (X_callR (E' := [(80000, .pbox (σ 80000) [.sl (y16.2.1.map c5), Ti y16.2.2.1, .v (.int .u64 y16.2.2.2)])]) [(80000, 80000)] 30 (s_spec_l1Cur_pick hy16) cf_spec_l1Cur_pick rfl rfl (by kernel_rfl) rfl (mE_cons (by kernel_rfl) mE_nil) rfl (by kernel_rfl) rfl rfl (by kernel_rfl)) ?_
          refine XL_cons rfl (X_of_Y0 rfl (Y0_sub64 (a := y16.1) (b := 40) rfl (by kernel_rfl) (by kernel_rfl))) ?_
          refine XL_cons rfl (X_of_Y0 rfl (E_assign (I (w64 (y16.1 - 40))) rfl (by kernel_rfl))) ?_
          refine XL_nil ?_
          subst ht17
          kernel_rfl
        refine V_ret ?_
        obtain rfl := some_inj h
        show PostR _ _ _ _ _ _
        exact ⟨⟨.inr rfl, rfl, rfl, rfl⟩, ⟨rfl, trivial⟩⟩
theorem cf_spec_l1Cur_form : ∀ args w, (callFunc 121 args).run Try.prog w = .ok (.enter 121 args) w := run_callFunc Try.func121 (by kernel_rfl) (by kernel_rfl)
set_option maxRecDepth 100000 in
set_option maxHeartbeats 400000 in
theorem s_spec_l1Cur_form {c1 : ((List Int) × Int × Int)} {r : (((Int × Int × Int)) × (((List Int) × Int × Int)))} (h : r_spec_l1Cur_form c1 = some r) : CallR Try.prog 121 [.pt 80000 0] [(80000, .box [.sl (c1.1.map c5), Ti c1.2.1, .v (.int .u64 c1.2.2)])] (.ag [Ti r.1.1, Ti r.1.2.1, Ti r.1.2.2]) [] [(80000, .box [.sl (r.2.1.map c5), Ti r.2.2.1, .v (.int .u64 r.2.2.2)])] := by
  refine CallR_of_text (rs := [.w 2 3]) (vs := [.cell 2 25]) Try.func121 rfl rfl (.cons ⟨rfl, wd25⟩ FitsL.nil) (by decide) 85 rfl rfl fun σ => ?_
  unfold r_spec_l1Cur_form at h
  show V _ _ ⟨[.pt 80000 0, .bot, .bot, .bot, .bot, .bot, .bot, .bot, .bot, .bot, .bot, .bot, .bot, .bot, .bot, .bot, .bot, .bot, .bot, .bot, .bot, .bot, .bot, .bot, .bot, .bot, .bot, .bot, .bot, .bot, .bot, .bot, .bot, .bot, .bot, .bot, .bot, .bot, .bot, .bot, .bot, .bot, .bot, .bot, .bot, .bot, .bot, .bot, .bot, .bot, .bot, .bot, .bot, .bot, .bot, .bot, .bot, .bot, .bot, .bot, .bot, .bot, .bot, .bot, .bot, .bot, .bot, .bot, .bot, .bot, .bot, .bot, .bot, .bot, .bot, .bot, .bot, .bot, .bot, .bot, .bot, .bot, .bot, .bot, .bot], [(80000, .pbox (σ 80000) [.sl (c1.1.map c5), Ti c1.2.1, .v (.int .u64 c1.2.2)])]⟩ _
  refine V_sreg [true, false, true, false, false, false, false, false, false, false, false, false, false, false, false, false, false, false, false, false, false, false, false, false, false, false, false, false, false, false, false, false, false, false, false, false, false, false, false, false, false, false, false, false, false, false, false, false, false, false, false, false, false, false, false, false, false, false, false, false, false, false, false, false, false, false, false, false, false, false, false, false, false, false, false, false, false, false, false, false, false, false, false, false, false] [16, 80000] (s1 := ⟨[.pt 80000 0, .bot, .pt 16 0, .bot, .bot, .bot, .bot, .bot, .bot, .bot, .bot, .bot, .bot, .bot, .bot, .bot, .bot, .bot, .bot, .bot, .bot, .bot, .bot, .bot, .bot, .bot, .bot, .bot, .bot, .bot, .bot, .bot, .bot, .bot, .bot, .bot, .bot, .bot, .bot, .bot, .bot, .bot, .bot, .bot, .bot, .bot, .bot, .bot, .bot, .bot, .bot, .bot, .bot, .bot, .bot, .bot, .bot, .bot, .bot, .bot, .bot, .bot, .bot, .bot, .bot, .bot, .bot, .bot, .bot, .bot, .bot, .bot, .bot, .bot, .bot, .bot, .bot, .bot, .bot, .bot, .bot, .bot, .bot, .bot, .bot], [(16, .box [Ti 0, Ti 0, Ti 0]), (80000, .pbox (σ 80000) [.sl (c1.1.map c5), Ti c1.2.1, .v (.int .u64 c1.2.2)])]⟩) ?_ ?_
  · refine XL_cons rfl (X_of_Y1 rfl (Y1_alloc (z := zv25) rfl zf25 rfl)) ?_
    refine XL_nil ?_
    kernel_rfl
  refine V_seq ?_
  obtain ⟨y2, hy2, h⟩ := of_bind h
  refine V_sreg [true, false, true, false, false, false, false, false, true, false, false, false, false, false, false, false, false, false, false, false, false, false, false, false, false, false, false, false, false, false, false, false, false, false, false, false, false, false, false, false, false, false, false, false, false, false, false, false, false, false, false, false, false, false, false, false, false, false, false, false, false, false, false, false, false, false, false, false, false, false, false, false, false, false, false, false, false, false, false, false, false, false, false, false, false] [16, 80000] (s1 := ⟨[.pt 80000 0, .bot, .pt 16 0, .bot, .bot, .bot, .bot, .bot, I y2.1, .bot, .bot, .bot, .bot, .bot, .bot, .bot, .bot, .bot, .bot, .bot, .bot, .bot, .bot, .bot, .bot, .bot, .bot, .bot, .bot, .bot, .bot, .bot, .bot, .bot, .bot, .bot, .bot, .bot, .bot, .bot, .bot, .bot, .bot, .bot, .bot, .bot, .bot, .bot, .bot, .bot, .bot, .bot, .bot, .bot, .bot, .bot, .bot, .bot, .bot, .bot, .bot, .bot, .bot, .bot, .bot, .bot, .bot, .bot, .bot, .bot, .bot, .bot, .bot, .bot, .bot, .bot, .bot, .bot, .bot, .bot, .bot, .bot, .bot, .bot, .bot], [(16, .box [Ti 0, Ti 0, Ti 0]), (80000, .pbox (σ 80000) [.sl (y2.2.1.map c5), Ti y2.2.2.1, .v (.int .u64 y2.2.2.2)])]⟩) ?_ ?_
  · refine XL_cons rfl (X_of_Y0 rfl (E_move (.pt 80000 0) rfl (by kernel_rfl))) ?_
    refine XL_cons rfl (X_callR (E' := [(16, .box [Ti 0, Ti 0, Ti 0]), (80000, .pbox (σ 80000) [.sl (y2.2.1.map c5), Ti y2.2.2.1, .v (.int .u64 y2.2.2.2)])]) [(80000, 80000)] 8 (s_spec_l1Cur_pick hy2) cf_spec_l1Cur_pick rfl rfl (by kernel_rfl) rfl (mE_cons (by kernel_rfl) mE_nil) rfl (by kernel_rfl) rfl rfl (by kernel_rfl)) ?_
    refine XL_nil ?_
    kernel_rfl
  refine V_block ?_
  refine V_sreg [true, false, true, false, false, false, false, false, true, true, false, false, false, false, false, false, false, false, false, false, false, false, false, false, false, false, false, false, false, false, false, false, false, false, false, false, false, false, false, false, false, false, false, false, false, false, false, false, false, false, false, false, false, false, false, false, false, false, false, false, false, false, false, false, false, false, false, false, false, false, false, false, false, false, false, false, false, false, false, false, false, false, false, false, false] [16, 80000] (s1 := ⟨[.pt 80000 0, .bot, .pt 16 0, .bot, .bot, .bot, .bot, .bot, I y2.1, Bo (eqI y2.1 0), .bot, .bot, .bot, .bot, .bot, .bot, .bot, .bot, .bot, .bot, .bot, .bot, .bot, .bot, .bot, .bot, .bot, .bot, .bot, .bot, .bot, .bot, .bot, .bot, .bot, .bot, .bot, .bot, .bot, .bot, .bot, .bot, .bot, .bot, .bot, .bot, .bot, .bot, .bot, .bot, .bot, .bot, .bot, .bot, .bot, .bot, .bot, .bot, .bot, .bot, .bot, .bot, .bot, .bot, .bot, .bot, .bot, .bot, .bot, .bot, .bot, .bot, .bot, .bot, .bot, .bot, .bot, .bot, .bot, .bot, .bot, .bot, .bot, .bot, .bot], [(16, .box [Ti 0, Ti 0, Ti 0]), (80000, .pbox (σ 80000) [.sl (y2.2.1.map c5), Ti y2.2.2.1, .v (.int .u64 y2.2.2.2)])]⟩) ?_ ?_
  · refine XL_cons rfl (X_of_Y0 rfl (Y0_eqw (k := .i64) (a := y2.1) (b := 0) rfl (by kernel_rfl) (by kernel_rfl))) ?_
    refine XL_cons rfl (X_of_Y0 rfl (E_assign (Bo (eqI y2.1 0)) rfl (by kernel_rfl))) ?_
    refine XL_nil ?_
    kernel_rfl
  refine V_cond rfl (fun hc3 => ?_) (fun hc3 => ?_)
  · have h := of_true h hc3
    obtain ⟨y4, hy4, h⟩ := of_bind h
    obtain ⟨y5, hy5, h⟩ := of_bind h
    obtain ⟨y6, hy6, h⟩ := of_bind h
    refine V_sreg [false, false, true, false, false, false, false, false, false, false, false, false, false, false, false, false, false, false, false, false, false, false, false, false, false, false, false, false, false, false, false, false, false, false, false, false, false, false, false, false, false, false, false, false, false, false, false, false, false, false, false, false, false, false, false, false, false, false, false, false, false, false, false, false, false, false, false, false, false, false, false, false, false, false, false, false, false, false, false, false, false, false, false, false, false] [16, 80000] (s1 := ⟨[.bot, .bot, .pt 16 0, .bot, .bot, .bot, .bot, .bot, .bot, .bot, .bot, .bot, .bot, .bot, .bot, .bot, .bot, .bot, .bot, .bot, .bot, .bot, .bot, .bot, .bot, .bot, .bot, .bot, .bot, .bot, .bot, .bot, .bot, .bot, .bot, .bot, .bot, .bot, .bot, .bot, .bot, .bot, .bot, .bot, .bot, .bot, .bot, .bot, .bot, .bot, .bot, .bot, .bot, .bot, .bot, .bot, .bot, .bot, .bot, .bot, .bot, .bot, .bot, .bot, .bot, .bot, .bot, .bot, .bot, .bot, .bot, .bot, .bot, .bot, .bot, .bot, .bot, .bot, .bot, .bot, .bot, .bot, .bot, .bot, .bot], [(16, .box [Ti y4.1, Ti y5.1, Ti y6.1]), (80000, .pbox (σ 80000) [.sl (y6.2.1.map c5), Ti y6.2.2.1, .v (.int .u64 y6.2.2.2)])]⟩) ?_ ?_
    · refine XL_cons rfl (X_of_Y0 rfl (E_move (.pt 80000 0) rfl (by kernel_rfl))) ?_
      refine XL_cons rfl (X_callR (E' := [(16, .box [Ti 0, Ti 0, Ti 0]), (80000, .pbox (σ 80000) [.sl (y4.2.1.map c5), Ti y4.2.2.1, .v (.int .u64 y4.2.2.2)])]) [(80000, 80000)] 12 (s_spec_l1Cur_number hy4) cf_spec_l1Cur_number rfl rfl (by kernel_rfl) rfl (mE_cons (by kernel_rfl) mE_nil) rfl (by kernel_rfl) rfl rfl (by kernel_rfl)) ?_
      refine XL_cons rfl (X_of_Y0 rfl (E_move (.pt 80000 0) rfl (by kernel_rfl))) ?_
      refine XL_cons rfl (X_callR (E' := [(16, .box [Ti 0, Ti 0, Ti 0]), (80000, .pbox (σ 80000) [.sl (y5.2.1.map c5), Ti y5.2.2.1, .v (.int .u64 y5.2.2.2)])]) [(80000, 80000)] 14 (s_spec_l1Cur_number hy5) cf_spec_l1Cur_number rfl rfl (by kernel_rfl) rfl (mE_cons (by kernel_rfl) mE_nil) rfl (by kernel_rfl) rfl rfl (by kernel_rfl)) ?_
      refine XL_cons rfl (X_of_Y0 rfl (E_move (.pt 80000 0) rfl (by kernel_rfl))) ?_
      refine XL_cons rfl (X_callR (E' := [(16, .box [Ti 0, Ti 0, Ti 0]), (80000, .pbox (σ 80000) [.sl (y6.2.1.map c5), Ti y6.2.2.1, .v (.int .u64 y6.2.2.2)])]) [(80000, 80000)] 16 (s_spec_l1Cur_number hy6) cf_spec_l1Cur_number rfl rfl (by kernel_rfl) rfl (mE_cons (by kernel_rfl) mE_nil) rfl (by kernel_rfl) rfl rfl (by kernel_rfl)) ?_
      refine XL_cons rfl (X_of_Y0 rfl (Y0_build (cs := [Ti y4.1, Ti y5.1, Ti y6.1]) pl25 bt25 rfl rfl (by kernel_rfl))) ?_
      refine XL_cons rfl (E_store (id := 16) (off := 0) (cs := [Ti 0, Ti 0, Ti 0]) (vc := [Ti y4.1, Ti y5.1, Ti y6.1]) [Ti y4.1, Ti y5.1, Ti y6.1] rfl rfl (by kernel_rfl) (by kernel_rfl) (by kernel_rfl) sz25 (Nat.le_of_ble_eq_true rfl) (by kernel_rfl)) ?_
      refine XL_nil ?_
      kernel_rfl
    refine V_ret ?_
    obtain rfl := some_inj h
    show PostR _ _ _ _ _ _
    exact ⟨⟨.inr rfl, rfl, rfl, rfl⟩, ⟨rfl, trivial⟩⟩
  · have h := of_false h hc3
    refine V_sreg [true, false, true, false, false, false, false, false, true, false, false, false, false, false, false, false, false, false, true, false, false, false, false, false, false, false, false, false, false, false, false, false, false, false, false, false, false, false, false, false, false, false, false, false, false, false, false, false, false, false, false, false, false, false, false, false, false, false, false, false, false, false, false, false, false, false, false, false, false, false, false, false, false, false, false, false, false, false, false, false, false, false, false, false, false] [16, 80000] (s1 := ⟨[.pt 80000 0, .bot, .pt 16 0, .bot, .bot, .bot, .bot, .bot, I y2.1, .bot, .bot, .bot, .bot, .bot, .bot, .bot, .bot, .bot, Bo (eqI y2.1 1), .bot, .bot, .bot, .bot, .bot, .bot, .bot, .bot, .bot, .bot, .bot, .bot, .bot, .bot, .bot, .bot, .bot, .bot, .bot, .bot, .bot, .bot, .bot, .bot, .bot, .bot, .bot, .bot, .bot, .bot, .bot, .bot, .bot, .bot, .bot, .bot, .bot, .bot, .bot, .bot, .bot, .bot, .bot, .bot, .bot, .bot, .bot, .bot, .bot, .bot, .bot, .bot, .bot, .bot, .bot, .bot, .bot, .bot, .bot, .bot, .bot, .bot, .bot, .bot, .bot, .bot], [(16, .box [Ti 0, Ti 0, Ti 0]), (80000, .pbox (σ 80000) [.sl (y2.2.1.map c5), Ti y2.2.2.1, .v (.int .u64 y2.2.2.2)])]⟩) ?_ ?_
    · refine XL_cons rfl (X_of_Y0 rfl (Y0_eqw (k := .i64) (a := y2.1) (b := 1) rfl (by kernel_rfl) (by kernel_rfl))) ?_
      refine XL_cons rfl (X_of_Y0 rfl (E_assign (Bo (eqI y2.1 1)) rfl (by kernel_rfl))) ?_
      refine XL_nil ?_
      kernel_rfl
    refine V_cond rfl (fun hc7 => ?_) (fun hc7 => ?_)
    · have h := of_true h hc7
      obtain ⟨y8, hy8, h⟩ := of_bind h
      refine V_sreg [true, false, true, true, false, false, false, false, false, false, false, false, false, false, false, false, false, false, false, false, false, false, false, false, false, false, false, false, false, false, false, false, false, false, false, false, false, false, false, false, false, false, false, false, false, false, false, false, false, false, false, false, false, false, false, false, false, false, false, false, false, false, false, false, false, false, false, false, false, false, false, false, false, false, false, false, false, false, false, false, false, false, false, false, false] [16, 80000] (s1 := ⟨[.pt 80000 0, .bot, .pt 16 0, I y8.1, .bot, .bot, .bot, .bot, .bot, .bot, .bot, .bot, .bot, .bot, .bot, .bot, .bot, .bot, .bot, .bot, .bot, .bot, .bot, .bot, .bot, .bot, .bot, .bot, .bot, .bot, .bot, .bot, .bot, .bot, .bot, .bot, .bot, .bot, .bot, .bot, .bot, .bot, .bot, .bot, .bot, .bot, .bot, .bot, .bot, .bot, .bot, .bot, .bot, .bot, .bot, .bot, .bot, .bot, .bot, .bot, .bot, .bot, .bot, .bot, .bot, .bot, .bot, .bot, .bot, .bot, .bot, .bot, .bot, .bot, .bot, .bot, .bot, .bot, .bot, .bot, .bot, .bot, .bot, .bot, .bot], [(16, .box [Ti 0, Ti 0, Ti 0]), (80000, .pbox (σ 80000) [.sl (y8.2.1.map c5), Ti y8.2.2.1, .v (.int .u64 y8.2.2.2)])]⟩) ?_ ?_
      · refine XL_cons rfl (X_of_Y0 rfl (E_move (.pt 80000 0) rfl (by kernel_rfl))) ?_
        refine XL_cons rfl (X_of_Y1 rfl (Y1_bslice (z := zv3) (els := [2, 3, -1, 0, 1000].map c3) Try.underlying53 iz3 rfl (by decide) rfl (by kernel_rfl) rfl (by simp [c3]) (by decide) (by decide))) ?_
        refine XL_freeze 168 (T := 3) (sz := 1) (els := ([2, 3, -1, 0, 1000]).map c3) (s1 := ⟨[.pt 80000 0, .bot, .pt 16 0, .bot, .bot, .bot, .bot, .bot, I y2.1, .bot, .bot, .bot, .bot, .bot, .bot, .bot, .bot, .bot, Bo (eqI y2.1 1), .bot, .pt 80000 0, .c (.sl (([2, 3, -1, 0, 1000]).map c3)), .bot, .bot, .bot, .bot, .bot, .bot, .bot, .bot, .bot, .bot, .bot, .bot, .bot, .bot, .bot, .bot, .bot, .bot, .bot, .bot, .bot, .bot, .bot, .bot, .bot, .bot, .bot, .bot, .bot, .bot, .bot, .bot, .bot, .bot, .bot, .bot, .bot, .bot, .bot, .bot, .bot, .bot, .bot, .bot, .bot, .bot, .bot, .bot, .bot, .bot, .bot, .bot, .bot, .bot, .bot, .bot, .bot, .bot, .bot, .bot, .bot, .bot, .bot], [(16, .box [Ti 0, Ti 0, Ti 0]), (80000, .pbox (σ 80000) [.sl (y2.2.1.map c5), Ti y2.2.2.1, .v (.int .u64 y2.2.2.2)])]⟩) (by kernel_rfl) (by kernel_rfl) ?_
        refine XL_cons rfl (X_callR (E' := [(16, .box [Ti 0, Ti 0, Ti 0]), (80000, .pbox (σ 80000) [.sl (y8.2.1.map c5), Ti y8.2.2.1, .v (.int .u64 y8.2.2.2)])]) [(80000, 80000)] 22 (s_spec_l1Cur_among hy8) cf_spec_l1Cur_among rfl rfl (by kernel_rfl) rfl (mE_cons (by kernel_rfl) mE_nil) rfl (by kernel_rfl) rfl rfl (by kernel_rfl)) ?_
        refine XL_cons rfl (X_of_Y0 rfl (E_assign (I y8.1) rfl (by kernel_rfl))) ?_
        refine XL_nil ?_
        kernel_rfl
      obtain ⟨y9, hy9, h⟩ := of_bind h
      obtain ⟨y10, hy10, h⟩ := of_bind h
      obtain ⟨y11, hy11, h⟩ := of_bind h
      obtain ⟨f12, hf12, h⟩ := of_sI h
      obtain ⟨f13, hf13, h⟩ := of_sI h
      obtain ⟨f14, hf14, h⟩ := of_sI h
      refine V_sreg [false, false, true, false, false, false, false, false, false, false, false, false, false, false, false, false, false, false, false, false, false, false, false, false, false, false, false, false, false, false, false, false, false, false, false, false, false, false, false, false, false, false, false, false, false, false, false, false, false, false, false, false, false, false, false, false, false, false, false, false, false, false, false, false, false, false, false, false, false, false, false, false, false, false, false, false, false, false, false, false, false, false, false, false, false] [16, 80000] (s1 := ⟨[.bot, .bot, .pt 16 0, .bot, .bot, .bot, .bot, .bot, .bot, .bot, .bot, .bot, .bot, .bot, .bot, .bot, .bot, .bot, .bot, .bot, .bot, .bot, .bot, .bot, .bot, .bot, .bot, .bot, .bot, .bot, .bot, .bot, .bot, .bot, .bot, .bot, .bot, .bot, .bot, .bot, .bot, .bot, .bot, .bot, .bot, .bot, .bot, .bot, .bot, .bot, .bot, .bot, .bot, .bot, .bot, .bot, .bot, .bot, .bot, .bot, .bot, .bot, .bot, .bot, .bot, .bot, .bot, .bot, .bot, .bot, .bot, .bot, .bot, .bot, .bot, .bot, .bot, .bot, .bot, .bot, .bot, .bot, .bot, .bot, .bot], [(16, .box [Ti f12, Ti f13, Ti f14]), (80000, .pbox (σ 80000) [.sl (y11.2.1.map c5), Ti y11.2.2.1, .v (.int .u64 y11.2.2.2)])]⟩) ?_ ?_
      · refine XL_cons rfl (X_of_Y0 rfl (E_move (I y8.1) rfl (by kernel_rfl))) ?_
        refine XL_cons rfl (X_of_Y0 rfl (E_move (.pt 80000 0) rfl (by kernel_rfl))) ?_
        refine XL_cons rfl (X_callR (E' := [(16, .box [Ti 0, Ti 0, Ti 0]), (80000, .pbox (σ 80000) [.sl (y9.2.1.map c5), Ti y9.2.2.1, .v (.int .u64 y9.2.2.2)])]) [(80000, 80000)] 25 (s_spec_l1Cur_pick hy9) cf_spec_l1Cur_pick rfl rfl (by kernel_rfl) rfl (mE_cons (by kernel_rfl) mE_nil) rfl (by kernel_rfl) rfl rfl (by kernel_rfl)) ?_
        refine XL_cons rfl (X_of_Y0 rfl (Y0_mul64 (a := y8.1) (b := y9.1) rfl (by kernel_rfl) (by kernel_rfl))) ?_
        refine XL_cons rfl (X_of_Y0 rfl (E_move (I y8.1) rfl (by kernel_rfl))) ?_
        refine XL_cons rfl (X_of_Y0 rfl (E_move (.pt 80000 0) rfl (by kernel_rfl))) ?_
        refine XL_cons rfl (X_callR (E' := [(16, .box [Ti 0, Ti 0, Ti 0]), (80000, .pbox (σ 80000) [.sl (y10.2.1.map c5), Ti y10.2.2.1, .v (.int .u64 y10.2.2.2)])]) [(80000, 80000)] 29 (s_spec_l1Cur_pick hy10) cf_spec_l1Cur_pick rfl rfl (by kernel_rfl) rfl (mE_cons (by kernel_rfl) mE_nil) rfl (by kernel_rfl) rfl rfl (by kernel_rfl)) ?_
        refine XL_cons rfl (X_of_Y0 rfl (Y0_sub64 (a := y10.1) (b := 10) rfl (by kernel_rfl) (by kernel_rfl))) ?_
        refine XL_cons rfl (X_of_Y0 rfl (Y0_mul64 (a := y8.1) (b := w64 (y10.1 - 10)) rfl (by kernel_rfl) (by kernel_rfl))) ?_
        refine XL_cons rfl (X_of_Y0 rfl (E_move (I y8.1) rfl (by kernel_rfl))) ?_
        refine XL_cons rfl (X_of_Y0 rfl (E_move (.pt 80000 0) rfl (by kernel_rfl))) ?_
        refine XL_cons rfl (X_callR (E' := [(16, .box [Ti 0, Ti 0, Ti 0]), (80000, .pbox (σ 80000) [.sl (y11.2.1.map c5), Ti y11.2.2.1, .v (.int .u64 y11.2.2.2)])]) [(80000, 80000)] 34 (s_spec_l1Cur_pick hy11) cf_spec_l1Cur_pick rfl rfl (by kernel_rfl) rfl (mE_cons (by kernel_rfl) mE_nil) rfl (by kernel_rfl) rfl rfl (by kernel_rfl)) ?_
        refine XL_cons rfl (X_of_Y0 rfl (Y0_mul64 (a := y8.1) (b := y11.1) rfl (by kernel_rfl) (by kernel_rfl))) ?_
        refine XL_cons rfl (X_of_Y0 rfl (Y0_build (cs := [Ti (w64 (y8.1 * y9.1)), Ti (w64 (y8.1 * (w64 (y10.1 - 10)))), Ti (w64 (y8.1 * y11.1))]) pl25 bt25 rfl rfl (by kernel_rfl))) ?_
        refine XL_cons rfl (E_store (id := 16) (off := 0) (cs := [Ti 0, Ti 0, Ti 0]) (vc := [Ti (w64 (y8.1 * y9.1)), Ti (w64 (y8.1 * (w64 (y10.1 - 10)))), Ti (w64 (y8.1 * y11.1))]) [Ti (w64 (y8.1 * y9.1)), Ti (w64 (y8.1 * (w64 (y10.1 - 10)))), Ti (w64 (y8.1 * y11.1))] rfl rfl (by kernel_rfl) (by kernel_rfl) (by kernel_rfl) sz25 (Nat.le_of_ble_eq_true rfl) (by kernel_rfl)) ?_
        refine XL_nil ?_
        subst hf12 hf13 hf14
        kernel_rfl
      refine V_ret ?_
      obtain rfl := some_inj h
      show PostR _ _ _ _ _ _
      exact ⟨⟨.inr rfl, rfl, rfl, rfl⟩, ⟨rfl, trivial⟩⟩
    · have h := of_false h hc7
      refine V_sreg [true, false, true, false, false, false, false, false, true, false, false, false, false, false, false, false, false, false, false, false, false, false, false, false, false, false, false, false, false, false, false, false, false, false, false, false, false, true, false, false, false, false, false, false, false, false, false, false, false, false, false, false, false, false, false, false, false, false, false, false, false, false, false, false, false, false, false, false, false, false, false, false, false, false, false, false, false, false, false, false, false, false, false, false, false] [16, 80000] (s1 := ⟨[.pt 80000 0, .bot, .pt 16 0, .bot, .bot, .bot, .bot, .bot, I y2.1, .bot, .bot, .bot, .bot, .bot, .bot, .bot, .bot, .bot, .bot, .bot, .bot, .bot, .bot, .bot, .bot, .bot, .bot, .bot, .bot, .bot, .bot, .bot, .bot, .bot, .bot, .bot, .bot, Bo (eqI y2.1 2), .bot, .bot, .bot, .bot, .bot, .bot, .bot, .bot, .bot, .bot, .bot, .bot, .bot, .bot, .bot, .bot, .bot, .bot, .bot, .bot, .bot, .bot, .bot, .bot, .bot, .bot, .bot, .bot, .bot, .bot, .bot, .bot, .bot, .bot, .bot, .bot, .bot, .bot, .bot, .bot, .bot, .bot, .bot, .bot, .bot, .bot, .bot], [(16, .box [Ti 0, Ti 0, Ti 0]), (80000, .pbox (σ 80000) [.sl (y2.2.1.map c5), Ti y2.2.2.1, .v (.int .u64 y2.2.2.2)])]⟩) ?_ ?_
      · refine XL_cons rfl (X_of_Y0 rfl (Y0_eqw (k := .i64) (a := y2.1) (b := 2) rfl (by kernel_rfl) (by kernel_rfl))) ?_
        refine XL_cons rfl (X_of_Y0 rfl (E_assign (Bo (eqI y2.1 2)) rfl (by kernel_rfl))) ?_
        refine XL_nil ?_
        kernel_rfl
      refine V_cond rfl (fun hc15 => ?_) (fun hc15 => ?_)
      · have h := of_true h hc15
        obtain ⟨y16, hy16, h⟩ := of_bind h
        obtain ⟨y17, hy17, h⟩ := of_bind h
        obtain ⟨y18, hy18, h⟩ := of_bind h
        obtain ⟨f19, hf19, h⟩ := of_sI h
        refine V_sreg [false, false, true, false, false, false, false, false, false, false, false, false, false, false, false, false, false, false, false, false, false, false, false, false, false, false, false, false, false, false, false, false, false, false, false, false, false, false, false, false, false, false, false, false, false, false, false, false, false, false, false, false, false, false, false, false, false, false, false, false, false, false, false, false, false, false, false, false, false, false, false, false, false, false, false, false, false, false, false, false, false, false, false, false, false] [16, 80000] (s1 := ⟨[.bot, .bot, .pt 16 0, .bot, .bot, .bot, .bot, .bot, .bot, .bot, .bot, .bot, .bot, .bot, .bot, .bot, .bot, .bot, .bot, .bot, .bot, .bot, .bot, .bot, .bot, .bot, .bot, .bot, .bot, .bot, .bot, .bot, .bot, .bot, .bot, .bot, .bot, .bot, .bot, .bot, .bot, .bot, .bot, .bot, .bot, .bot, .bot, .bot, .bot, .bot, .bot, .bot, .bot, .bot, .bot, .bot, .bot, .bot, .bot, .bot, .bot, .bot, .bot, .bot, .bot, .bot, .bot, .bot, .bot, .bot, .bot, .bot, .bot, .bot, .bot, .bot, .bot, .bot, .bot, .bot, .bot, .bot, .bot, .bot, .bot], [(16, .box [Ti y16.1, Ti f19, Ti y18.1]), (80000, .pbox (σ 80000) [.sl (y18.2.1.map c5), Ti y18.2.2.1, .v (.int .u64 y18.2.2.2)])]⟩) ?_ ?_
        · refine XL_cons rfl (X_of_Y0 rfl (E_move (.pt 80000 0) rfl (by kernel_rfl))) ?_
          refine XL_cons rfl (X_callR (E' := [(16, .box [Ti 0, Ti 0, Ti 0]), (80000, .pbox (σ 80000) [.sl (y16.2.1.map c5), Ti y16.2.2.1, .v (.int .u64 y16.2.2.2)])]) [(80000, 80000)] 40 (s_spec_l1Cur_pick hy16) cf_spec_l1Cur_pick rfl rfl (by kernel_rfl) rfl (mE_cons (by kernel_rfl) mE_nil) rfl (by kernel_rfl) rfl rfl (by kernel_rfl)) ?_
          refine XL_cons rfl (X_of_Y0 rfl (E_move (.pt 80000 0) rfl (by kernel_rfl))) ?_
          refine XL_cons rfl (X_callR (E' := [(16, .box [Ti 0, Ti 0, Ti 0]), (80000, .pbox (σ 80000) [.sl (y17.2.1.map c5), Ti y17.2.2.1, .v (.int .u64 y17.2.2.2)])]) [(80000, 80000)] 42 (s_spec_l1Cur_pick hy17) cf_spec_l1Cur_pick rfl rfl (by kernel_rfl) rfl (mE_cons (by kernel_rfl) mE_nil) rfl (by kernel_rfl) rfl rfl (by kernel_rfl)) ?_
          refine XL_cons rfl (X_of_Y0 rfl (Y0_sub64 (a := y17.1) (b := 1500) rfl (by kernel_rfl) (by kernel_rfl))) ?_
          refine XL_cons rfl (X_of_Y0 rfl (E_move (.pt 80000 0) rfl (by kernel_rfl))) ?_
          refine XL_cons rfl (X_callR (E' := [(16, .box [Ti 0, Ti 0, Ti 0]), (80000, .pbox (σ 80000) [.sl (y18.2.1.map c5), Ti y18.2.2.1, .v (.int .u64 y18.2.2.2)])]) [(80000, 80000)] 45 (s_spec_l1Cur_pick hy18) cf_spec_l1Cur_pick rfl rfl (by kernel_rfl) rfl (mE_cons (by kernel_rfl) mE_nil) rfl (by kernel_rfl) rfl rfl (by kernel_rfl)) ?_
          refine XL_cons rfl (X_of_Y0 rfl (Y0_build (cs := [Ti y16.1, Ti (w64 (y17.1 - 1500)), Ti y18.1]) pl25 bt25 rfl rfl (by kernel_rfl))) ?_
          refine XL_cons rfl (E_store (id := 16) (off := 0) (cs := [Ti 0, Ti 0, Ti 0]) (vc := [Ti y16.1, Ti (w64 (y17.1 - 1500)), Ti y18.1]) [Ti y16.1, Ti (w64 (y17.1 - 1500)), Ti y18.1] rfl rfl (by kernel_rfl) (by kernel_rfl) (by kernel_rfl) sz25 (Nat.le_of_ble_eq_true rfl) (by kernel_rfl)) ?_
          refine XL_nil ?_
          subst hf19
          kernel_rfl
        refine V_ret ?_
        obtain rfl := some_inj h
        show PostR _ _ _ _ _ _
        exact ⟨⟨.inr rfl, rfl, rfl, rfl⟩, ⟨rfl, trivial⟩⟩
      · have h := of_false h hc15
        refine V_sreg [true, false, true, false, false, false, false, false, false, false, false, false, false, false, false, false, false, false, false, false, false, false, false, false, false, false, false, false, false, false, false, false, false, false, false, false, false, false, false, false, false, false, false, false, false, false, false, true, false, false, false, false, false, false, false, false, false, false, false, false, false, false, false, false, false, false, false, false, false, false, false, false, false, false, false, false, false, false, false, false, false, false, false, false, false] [16, 80000] (s1 := ⟨[.pt 80000 0, .bot, .pt 16 0, .bot, .bot, .bot, .bot, .bot, .bot, .bot, .bot, .bot, .bot, .bot, .bot, .bot, .bot, .bot, .bot, .bot, .bot, .bot, .bot, .bot, .bot, .bot, .bot, .bot, .bot, .bot, .bot, .bot, .bot, .bot, .bot, .bot, .bot, .bot, .bot, .bot, .bot, .bot, .bot, .bot, .bot, .bot, .bot, Bo (eqI y2.1 3), .bot, .bot, .bot, .bot, .bot, .bot, .bot, .bot, .bot, .bot, .bot, .bot, .bot, .bot, .bot, .bot, .bot, .bot, .bot, .bot, .bot, .bot, .bot, .bot, .bot, .bot, .bot, .bot, .bot, .bot, .bot, .bot, .bot, .bot, .bot, .bot, .bot], [(16, .box [Ti 0, Ti 0, Ti 0]), (80000, .pbox (σ 80000) [.sl (y2.2.1.map c5), Ti y2.2.2.1, .v (.int .u64 y2.2.2.2)])]⟩) ?_ ?_
        · refine XL_cons rfl (X_of_Y0 rfl (Y0_eqw (k := .i64) (a := y2.1) (b := 3) rfl (by kernel_rfl) (by kernel_rfl))) ?_
          refine XL_cons rfl (X_of_Y0 rfl (E_assign (Bo (eqI y2.1 3)) rfl (by kernel_rfl))) ?_
          refine XL_nil ?_
          kernel_rfl
        refine V_cond rfl (fun hc20 => ?_) (fun hc20 => ?_)
        · have h := of_true h hc20
          obtain ⟨y21, hy21, h⟩ := of_bind h
          obtain ⟨y22, hy22, h⟩ := of_bind h
          obtain ⟨y23, hy23, h⟩ := of_bind h
          obtain ⟨f24, hf24, h⟩ := of_sI h
          obtain ⟨f25, hf25, h⟩ := of_sI h
          obtain ⟨f26, hf26, h⟩ := of_sI h
          refine V_sreg [false, false, true, false, false, false, false, false, false, false, false, false, false, false, false, false, false, false, false, false, false, false, false, false, false, false, false, false, false, false, false, false, false, false, false, false, false, false, false, false, false, false, false, false, false, false, false, false, false, false, false, false, false, false, false, false, false, false, false, false, false, false, false, false, false, false, false, false, false, false, false, false, false, false, false, false, false, false, false, false, false, false, false, false, false] [16, 80000] (s1 := ⟨[.bot, .bot, .pt 16 0, .bot, .bot, .bot, .bot, .bot, .bot, .bot, .bot, .bot, .bot, .bot, .bot, .bot, .bot, .bot, .bot, .bot, .bot, .bot, .bot, .bot, .bot, .bot, .bot, .bot, .bot, .bot, .bot, .bot, .bot, .bot, .bot, .bot, .bot, .bot, .bot, .bot, .bot, .bot, .bot, .bot, .bot, .bot, .bot, .bot, .bot, .bot, .bot, .bot, .bot, .bot, .bot, .bot, .bot, .bot, .bot, .bot, .bot, .bot, .bot, .bot, .bot, .bot, .bot, .bot, .bot, .bot, .bot, .bot, .bot, .bot, .bot, .bot, .bot, .bot, .bot, .bot, .bot, .bot, .bot, .bot, .bot], [(16, .box [Ti f24, Ti f25, Ti f26]), (80000, .pbox (σ 80000) [.sl (y23.2.1.map c5), Ti y23.2.2.1, .v (.int .u64 y23.2.2.2)])]⟩) ?_ ?_
          · refine XL_cons rfl (X_of_Y0 rfl (E_move (.pt 80000 0) rfl (by kernel_rfl))) ?_
            refine XL_cons rfl (X_callR (E' := [(16, .box [Ti 0, Ti 0, Ti 0]), (80000, .pbox (σ 80000) [.sl (y21.2.1.map c5), Ti y21.2.2.1, .v (.int .u64 y21.2.2.2)])]) [(80000, 80000)] 50 (s_spec_l1Cur_pick hy21) cf_spec_l1Cur_pick rfl rfl (by kernel_rfl) rfl (mE_cons (by kernel_rfl) mE_nil) rfl (by kernel_rfl) rfl rfl (by kernel_rfl)) ?_
            refine XL_cons rfl (X_of_Y0 rfl (Y0_sub64 (a := y21.1) (b := 10) rfl (by kernel_rfl) (by kernel_rfl))) ?_
            refine XL_cons rfl (X_of_Y0 rfl (E_move (.pt 80000 0) rfl (by kernel_rfl))) ?_
            refine XL_cons rfl (X_callR (E' := [(16, .box [Ti 0, Ti 0, Ti 0]), (80000, .pbox (σ 80000) [.sl (y22.2.1.map c5), Ti y22.2.2.1, .v (.int .u64 y22.2.2.2)])]) [(80000, 80000)] 53 (s_spec_l1Cur_pick hy22) cf_spec_l1Cur_pick rfl rfl (by kernel_rfl) rfl (mE_cons (by kernel_rfl) mE_nil) rfl (by kernel_rfl) rfl rfl (by kernel_rfl)) ?_
            refine XL_cons rfl (X_of_Y0 rfl (Y0_sub64 (a := y22.1) (b := 10) rfl (by kernel_rfl) (by kernel_rfl))) ?_
            refine XL_cons rfl (X_of_Y0 rfl (E_move (.pt 80000 0) rfl (by kernel_rfl))) ?_
            refine XL_cons rfl (X_callR (E' := [(16, .box [Ti 0, Ti 0, Ti 0]), (80000, .pbox (σ 80000) [.sl (y23.2.1.map c5), Ti y23.2.2.1, .v (.int .u64 y23.2.2.2)])]) [(80000, 80000)] 56 (s_spec_l1Cur_pick hy23) cf_spec_l1Cur_pick rfl rfl (by kernel_rfl) rfl (mE_cons (by kernel_rfl) mE_nil) rfl (by kernel_rfl) rfl rfl (by kernel_rfl)) ?_
            refine XL_cons rfl (X_of_Y0 rfl (Y0_sub64 (a := y23.1) (b := 10) rfl (by kernel_rfl) (by kernel_rfl))) ?_
            refine XL_cons rfl (X_of_Y0 rfl (Y0_build (cs := [Ti (w64 (y21.1 - 10)), Ti (w64 (y22.1 - 10)), Ti (w64 (y23.1 - 10))]) pl25 bt25 rfl rfl (by kernel_rfl))) ?_
            refine XL_cons rfl (E_store (id := 16) (off := 0) (cs := [Ti 0, Ti 0, Ti 0]) (vc := [Ti (w64 (y21.1 - 10)), Ti (w64 (y22.1 - 10)), Ti (w64 (y23.1 - 10))]) [Ti (w64 (y21.1 - 10)), Ti (w64 (y22.1 - 10)), Ti (w64 (y23.1 - 10))] rfl rfl (by kernel_rfl) (by kernel_rfl) (by kernel_rfl) sz25 (Nat.le_of_ble_eq_true rfl) (by kernel_rfl)) ?_
            refine XL_nil ?_
            subst hf24 hf25 hf26
            kernel_rfl
          refine V_ret ?_
          obtain rfl := some_inj h
          show PostR _ _ _ _ _ _
          exact ⟨⟨.inr rfl, rfl, rfl, rfl⟩, ⟨rfl, trivial⟩⟩
        · have h := of_false h hc20
          refine V_skip ?_
          show V _ _ _ _
          obtain ⟨y27, hy27, h⟩ := of_bind h
          obtain ⟨y28, hy28, h⟩ := of_bind h
          obtain ⟨a29, ha29, h⟩ := of_sI h
          refine V_sreg [true, false, true, false, true, true, false, false, false, false, false, false, false, false, false, false, false, false, false, false, false, false, false, false, false, false, false, false, false, false, false, false, false, false, false, false, false, false, false, false, false, false, false, false, false, false, false, false, false, false, false, false, false, false, false, false, false, false, false, false, false, false, false, false, false, false, false, false, false, false, false, false, false, false, false, false, false, false, false, false, false, false, false, false, false] [16, 80000] (s1 := ⟨[.pt 80000 0, .bot, .pt 16 0, .bot, I a29, I y28.1, .bot, .bot, .bot, .bot, .bot, .bot, .bot, .bot, .bot, .bot, .bot, .bot, .bot, .bot, .bot, .bot, .bot, .bot, .bot, .bot, .bot, .bot, .bot, .bot, .bot, .bot, .bot, .bot, .bot, .bot, .bot, .bot, .bot, .bot, .bot, .bot, .bot, .bot, .bot, .bot, .bot, .bot, .bot, .bot, .bot, .bot, .bot, .bot, .bot, .bot, .bot, .bot, .bot, .bot, .bot, .bot, .bot, .bot, .bot, .bot, .bot, .bot, .bot, .bot, .bot, .bot, .bot, .bot, .bot, .bot, .bot, .bot, .bot, .bot, .bot, .bot, .bot, .bot, .bot], [(16, .box [Ti 0, Ti 0, Ti 0]), (80000, .pbox (σ 80000) [.sl (y28.2.1.map c5), Ti y28.2.2.1, .v (.int .u64 y28.2.2.2)])]⟩) ?_ ?_
          · refine XL_cons rfl (X_of_Y0 rfl (E_move (.pt 80000 0) rfl (by kernel_rfl))) ?_
            refine XL_cons rfl (X_callR (E' := [(16, .box [Ti 0, Ti 0, Ti 0]), (80000, .pbox (σ 80000) [.sl (y27.2.1.map c5), Ti y27.2.2.1, .v (.int .u64 y27.2.2.2)])]) [(80000, 80000)] 60 (s_spec_l1Cur_pick hy27) cf_spec_l1Cur_pick rfl rfl (by kernel_rfl) rfl (mE_cons (by kernel_rfl) mE_nil) rfl (by kernel_rfl) rfl rfl (by kernel_rfl)) ?_
            refine XL_cons rfl (X_of_Y0 rfl (Y0_add64 (a := 1) (b := y27.1) rfl (by kernel_rfl) (by kernel_rfl))) ?_
            refine XL_cons rfl (X_of_Y0 rfl (E_move (.pt 80000 0) rfl (by kernel_rfl))) ?_
            refine XL_cons rfl (X_callR (E' := [(16, .box [Ti 0, Ti 0, Ti 0]), (80000, .pbox (σ 80000) [.sl (y28.2.1.map c5), Ti y28.2.2.1, .v (.int .u64 y28.2.2.2)])]) [(80000, 80000)] 63 (s_spec_l1Cur_pick hy28) cf_spec_l1Cur_pick rfl rfl (by kernel_rfl) rfl (mE_cons (by kernel_rfl) mE_nil) rfl (by kernel_rfl) rfl rfl (by kernel_rfl)) ?_
            refine XL_cons rfl (X_of_Y0 rfl (E_assign (I (w64 (1 + y27.1))) rfl (by kernel_rfl))) ?_
            refine XL_cons rfl (X_of_Y0 rfl (E_assign (I y28.1) rfl (by kernel_rfl))) ?_
            refine XL_nil ?_
            subst ha29
            kernel_rfl
          obtain ⟨y30, hy30, h⟩ := of_bind h
          obtain ⟨b31, hb31, h⟩ := of_sI h
          refine V_sreg [false, false, true, false, true, true, true, false, false, false, false, false, false, false, false, false, false, false, false, false, false, false, false, false, false, false, false, false, false, false, false, false, false, false, false, false, false, false, false, false, false, false, false, false, false, false, false, false, false, false, false, false, false, false, false, false, false, false, false, false, false, false, false, false, false, false, false, false, false, false, false, false, false, false, false, false, false, false, false, false, false, false, false, false, false] [16, 80000] (s1 := ⟨[.bot, .bot, .pt 16 0, .bot, I a29, I y28.1, I b31, .bot, .bot, .bot, .bot, .bot, .bot, .bot, .bot, .bot, .bot, .bot, .bot, .bot, .bot, .bot, .bot, .bot, .bot, .bot, .bot, .bot, .bot, .bot, .bot, .bot, .bot, .bot, .bot, .bot, .bot, .bot, .bot, .bot, .bot, .bot, .bot, .bot, .bot, .bot, .bot, .bot, .bot, .bot, .bot, .bot, .bot, .bot, .bot, .bot, .bot, .bot, .bot, .bot, .bot, .bot, .bot, .bot, .bot, .bot, .bot, .bot, .bot, .bot, .bot, .bot, .bot, .bot, .bot, .bot, .bot, .bot, .bot, .bot, .bot, .bot, .bot, .bot, .bot], [(16, .box [Ti 0, Ti 0, Ti 0]), (80000, .pbox (σ 80000) [.sl (y30.2.1.map c5), Ti y30.2.2.1, .v (.int .u64 y30.2.2.2)])]⟩) ?_ ?_
          · refine XL_cons rfl (X_of_Y0 rfl (E_move (.pt 80000 0) rfl (by kernel_rfl))) ?_
            refine XL_cons rfl (X_of_Y0 rfl (E_move (I a29) rfl (by kernel_rfl))) ?_
            refine XL_cons rfl (X_of_Y0 rfl (Y0_mul64 (a := 2) (b := a29) rfl (by kernel_rfl) (by kernel_rfl))) ?_
            refine XL_cons rfl (X_callR (E' := [(16, .box [Ti 0, Ti 0, Ti 0]), (80000, .pbox (σ 80000) [.sl (y30.2.1.map c5), Ti y30.2.2.1, .v (.int .u64 y30.2.2.2)])]) [(80000, 80000)] 67 (s_spec_l1Cur_pick hy30) cf_spec_l1Cur_pick rfl rfl (by kernel_rfl) rfl (mE_cons (by kernel_rfl) mE_nil) rfl (by kernel_rfl) rfl rfl (by kernel_rfl)) ?_
            refine XL_cons rfl (X_of_Y0 rfl (E_move (I a29) rfl (by kernel_rfl))) ?_
            refine XL_cons rfl (X_of_Y0 rfl (Y0_sub64 (a := y30.1) (b := a29) rfl (by kernel_rfl) (by kernel_rfl))) ?_
            refine XL_cons rfl (X_of_Y0 rfl (Y0_add64 (a := w64 (y30.1 - a29)) (b := 1) rfl (by kernel_rfl) (by kernel_rfl))) ?_
            refine XL_cons rfl (X_of_Y0 rfl (E_assign (I (w64 ((w64 (y30.1 - a29)) + 1))) rfl (by kernel_rfl))) ?_
            refine XL_nil ?_
            subst hb31
            kernel_rfl
          obtain ⟨z32, hz32, h⟩ := of_bind h
          obtain ⟨f33, hf33, h⟩ := of_sI h
          refine V_sreg [false, false, true, false, false, false, false, false, false, false, false, false, false, false, false, false, false, false, false, false, false, false, false, false, false, false, false, false, false, false, false, false, false, false, false, false, false, false, false, false, false, false, false, false, false, false, false, false, false, false, false, false, false, false, false, false, false, false, false, false, false, false, false, false, false, false, false, false, false, false, false, false, false, false, false, false, false, false, false, false, false, false, false, false, false] [16, 80000] (s1 := ⟨[.bot, .bot, .pt 16 0, .bot, .bot, .bot, .bot, .bot, .bot, .bot, .bot, .bot, .bot, .bot, .bot, .bot, .bot, .bot, .bot, .bot, .bot, .bot, .bot, .bot, .bot, .bot, .bot, .bot, .bot, .bot, .bot, .bot, .bot, .bot, .bot, .bot, .bot, .bot, .bot, .bot, .bot, .bot, .bot, .bot, .bot, .bot, .bot, .bot, .bot, .bot, .bot, .bot, .bot, .bot, .bot, .bot, .bot, .bot, .bot, .bot, .bot, .bot, .bot, .bot, .bot, .bot, .bot, .bot, .bot, .bot, .bot, .bot, .bot, .bot, .bot, .bot, .bot, .bot, .bot, .bot, .bot, .bot, .bot, .bot, .bot], [(16, .box [Ti a29, Ti b31, Ti f33]), (80000, .pbox (σ 80000) [.sl (y30.2.1.map c5), Ti y30.2.2.1, .v (.int .u64 y30.2.2.2)])]⟩) ?_ ?_
          · refine XL_cons rfl (X_of_Y0 rfl (E_move (I a29) rfl (by kernel_rfl))) ?_
            refine XL_cons rfl (X_of_Y0 rfl (E_move (I b31) rfl (by kernel_rfl))) ?_
            refine XL_cons rfl (X_of_Y0 rfl (E_move (I b31) rfl (by kernel_rfl))) ?_
            refine XL_cons rfl (X_of_Y0 rfl (E_move (I b31) rfl (by kernel_rfl))) ?_
            refine XL_cons rfl (X_of_Y0 rfl (Y0_mul64 (a := b31) (b := b31) rfl (by kernel_rfl) (by kernel_rfl))) ?_
            refine XL_cons rfl (X_of_Y0 rfl (E_move (I a29) rfl (by kernel_rfl))) ?_
            refine XL_cons rfl (X_of_Y0 rfl (Y0_mul64 (a := 4) (b := a29) rfl (by kernel_rfl) (by kernel_rfl))) ?_
            refine XL_cons rfl (X_of_Y0 rfl (Y0_add64 (a := w64 (b31 * b31)) (b := w64 (4 * a29)) rfl (by kernel_rfl) (by kernel_rfl))) ?_
            refine XL_cons rfl (X_of_Y0 rfl (E_move (I a29) rfl (by kernel_rfl))) ?_
            refine XL_cons rfl (X_of_Y0 rfl (Y0_mul64 (a := 4) (b := a29) rfl (by kernel_rfl) (by kernel_rfl))) ?_
            refine XL_cons rfl (X_of_Y0 rfl (Y0_quo64 (a := w64 ((w64 (b31 * b31)) + (w64 (4 * a29)))) (b := w64 (4 * a29)) rfl (by kernel_rfl) (by kernel_rfl) (nz_some hz32))) ?_
            refine XL_cons rfl (X_of_Y0 rfl (E_move (I y28.1) rfl (by kernel_rfl))) ?_
            refine XL_cons rfl (X_of_Y0 rfl (Y0_add64 (a := w64 (Int.tdiv (w64 ((w64 (b31 * b31)) + (w64 (4 * a29)))) (w64 (4 * a29)))) (b := y28.1) rfl (by kernel_rfl) (by kernel_rfl))) ?_
            refine XL_cons rfl (X_of_Y0 rfl (Y0_build (cs := [Ti a29, Ti b31, Ti (w64 ((w64 (Int.tdiv (w64 ((w64 (b31 * b31)) + (w64 (4 * a29)))) (w64 (4 * a29)))) + y28.1))]) pl25 bt25 rfl rfl (by kernel_rfl))) ?_
            refine XL_cons rfl (E_store (id := 16) (off := 0) (cs := [Ti 0, Ti 0, Ti 0]) (vc := [Ti a29, Ti b31, Ti (w64 ((w64 (Int.tdiv (w64 ((w64 (b31 * b31)) + (w64 (4 * a29)))) (w64 (4 * a29)))) + y28.1))]) [Ti a29, Ti b31, Ti (w64 ((w64 (Int.tdiv (w64 ((w64 (b31 * b31)) + (w64 (4 * a29)))) (w64 (4 * a29)))) + y28.1))] rfl rfl (by kernel_rfl) (by kernel_rfl) (by kernel_rfl) sz25 (Nat.le_of_ble_eq_true rfl) (by kernel_rfl)) ?_
            refine XL_nil ?_
            subst hf33
            kernel_rfl
          refine V_ret ?_
          obtain rfl := some_inj h
          show PostR _ _ _ _ _ _
          exact ⟨⟨.inr rfl, rfl, rfl, rfl⟩, ⟨rfl, trivial⟩⟩
theorem cf_spec_foMul : ∀ args w, (callFunc 303 args).run Try.prog w = .ok (.enter 303 args) w := run_callFunc Try.func303 (by kernel_rfl) (by kernel_rfl)
set_option maxRecDepth 100000 in
set_option maxHeartbeats 400000 in
theorem s_spec_foMul {vm1 : (Int × Int × Int × Int)} {vn2 : (Int × Int × Int × Int)} {r : (Int × Int × Int × Int)} (h : r_spec_foMul vm1 vn2 = some r) : CallS Try.prog 303 [.ag [Ti vm1.1, Ti vm1.2.1, Ti vm1.2.2.1, Ti vm1.2.2.2], .ag [Ti vn2.1, Ti vn2.2.1, Ti vn2.2.2.1, Ti vn2.2.2.2]] (.ag [Ti r.1, Ti r.2.1, Ti r.2.2.1, Ti r.2.2.2]) [] := by
  refine CallS_of_text (rs := [.w 4 4]) (vs := [.cell 4 27]) Try.func303 rfl rfl (.cons ⟨rfl, wd27⟩ FitsL.nil) (by decide) 50 rfl ?_
  unfold r_spec_foMul at h
  show V _ _ ⟨[.ag [Ti vm1.1, Ti vm1.2.1, Ti vm1.2.2.1, Ti vm1.2.2.2], .ag [Ti vn2.1, Ti vn2.2.1, Ti vn2.2.2.1, Ti vn2.2.2.2], .bot, .bot, .bot, .bot, .bot, .bot, .bot, .bot, .bot, .bot, .bot, .bot, .bot, .bot, .bot, .bot, .bot, .bot, .bot, .bot, .bot, .bot, .bot, .bot, .bot, .bot, .bot, .bot, .bot, .bot, .bot, .bot, .bot, .bot, .bot, .bot, .bot, .bot, .bot, .bot, .bot, .bot, .bot, .bot, .bot, .bot, .bot, .bot], []⟩ _
  refine V_sreg [false, false, true, true, true, false, false, false, false, false, false, false, false, false, false, false, false, false, false, false, false, false, false, false, false, false, false, false, false, false, false, false, false, false, false, false, false, false, false, false, false, false, false, false, false, false, false, false, false, false] [32, 24, 16] (s1 := ⟨[.bot, .bot, .pt 16 0, .pt 24 0, .pt 32 0, .bot, .bot, .bot, .bot, .bot, .bot, .bot, .bot, .bot, .bot, .bot, .bot, .bot, .bot, .bot, .bot, .bot, .bot, .bot, .bot, .bot, .bot, .bot, .bot, .bot, .bot, .bot, .bot, .bot, .bot, .bot, .bot, .bot, .bot, .bot, .bot, .bot, .bot, .bot, .bot, .bot, .bot, .bot, .bot, .bot], [(32, .box [Ti 0, Ti 0, Ti 0, Ti 0]), (24, .box [Ti vn2.1, Ti vn2.2.1, Ti vn2.2.2.1, Ti vn2.2.2.2]), (16, .box [Ti vm1.1, Ti vm1.2.1, Ti vm1.2.2.1, Ti vm1.2.2.2])]⟩) ?_ ?_
  · refine XL_cons rfl (X_of_Y1 rfl (Y1_box (cs := [Ti vm1.1, Ti vm1.2.1, Ti vm1.2.2.1, Ti vm1.2.2.2]) rfl (by kernel_rfl))) ?_
    refine XL_cons rfl (X_of_Y1 rfl (Y1_box (cs := [Ti vn2.1, Ti vn2.2.1, Ti vn2.2.2.1, Ti vn2.2.2.2]) rfl (by kernel_rfl))) ?_
    refine XL_cons rfl (X_of_Y1 rfl (Y1_alloc (z := zv27) rfl zf27 rfl)) ?_
    refine XL_nil ?_
    kernel_rfl
  obtain ⟨f3, hf3, h⟩ := of_sI h
  obtain ⟨f4, hf4, h⟩ := of_sI h
  obtain ⟨f5, hf5, h⟩ := of_sI h
  obtain ⟨f6, hf6, h⟩ := of_sI h
  refine V_sreg [false, false, false, false, true, false, false, false, false, false, false, false, false, false, false, false, false, false, false, false, false, false, false, false, false, false, false, false, false, false, false, false, false, false, false, false, false, false, false, false, false, false, false, false, false, false, false, false, false, false] [32] (s1 := ⟨[.bot, .bot, .bot, .bot, .pt 32 0, .bot, .bot, .bot, .bot, .bot, .bot, .bot, .bot, .bot, .bot, .bot, .bot, .bot, .bot, .bot, .bot, .bot, .bot, .bot, .bot, .bot, .bot, .bot, .bot, .bot, .bot, .bot, .bot, .bot, .bot, .bot, .bot, .bot, .bot, .bot, .bot, .bot, .bot, .bot, .bot, .bot, .bot, .bot, .bot, .bot], [(32, .box [Ti f3, Ti f4, Ti f5, Ti f6])]⟩) ?_ ?_
  · refine XL_cons rfl (X_of_Y0 rfl (E_field (.pt 16 0) Try.underlying27 rfl sz3 rfl (by kernel_rfl) (by intro hh; cases hh))) ?_
    refine XL_cons rfl (X_of_Y0 rfl (Y0_load1 (c := Ti vm1.1) (cs := [Ti vm1.2.1, Ti vm1.2.2.1, Ti vm1.2.2.2]) sc3 rfl (by kernel_rfl))) ?_
    refine XL_cons rfl (X_of_Y0 rfl (E_field (.pt 24 0) Try.underlying27 rfl sz3 rfl (by kernel_rfl) (by intro hh; cases hh))) ?_
    refine XL_cons rfl (X_of_Y0 rfl (Y0_load1 (c := Ti vn2.1) (cs := [Ti vn2.2.1, Ti vn2.2.2.1, Ti vn2.2.2.2]) sc3 rfl (by kernel_rfl))) ?_
    refine XL_cons rfl (X_of_Y0 rfl (Y0_mul64 (a := vm1.1) (b := vn2.1) rfl (by kernel_rfl) (by kernel_rfl))) ?_
    refine XL_cons rfl (X_of_Y0 rfl (E_field (.pt 16 1) Try.underlying27 rfl sz3 rfl (by kernel_rfl) (by intro hh; cases hh))) ?_
    refine XL_cons rfl (X_of_Y0 rfl (Y0_load1 (c := Ti vm1.2.1) (cs := [Ti vm1.2.2.1, Ti vm1.2.2.2]) sc3 rfl (by kernel_rfl))) ?_
    refine XL_cons rfl (X_of_Y0 rfl (E_field (.pt 24 2) Try.underlying27 rfl sz3 rfl (by kernel_rfl) (by intro hh; cases hh))) ?_
    refine XL_cons rfl (X_of_Y0 rfl (Y0_load1 (c := Ti vn2.2.2.1) (cs := [Ti vn2.2.2.2]) sc3 rfl (by kernel_rfl))) ?_
    refine XL_cons rfl (X_of_Y0 rfl (Y0_mul64 (a := vm1.2.1) (b := vn2.2.2.1) rfl (by kernel_rfl) (by kernel_rfl))) ?_
    refine XL_cons rfl (X_of_Y0 rfl (Y0_add64 (a := w64 (vm1.1 * vn2.1)) (b := w64 (vm1.2.1 * vn2.2.2.1)) rfl (by kernel_rfl) (by kernel_rfl))) ?_
    refine XL_cons rfl (X_of_Y0 rfl (E_field (.pt 16 0) Try.underlying27 rfl sz3 rfl (by kernel_rfl) (by intro hh; cases hh))) ?_
    refine XL_cons rfl (X_of_Y0 rfl (Y0_load1 (c := Ti vm1.1) (cs := [Ti vm1.2.1, Ti vm1.2.2.1, Ti vm1.2.2.2]) sc3 rfl (by kernel_rfl))) ?_
    refine XL_cons rfl (X_of_Y0 rfl (E_field (.pt 24 1) Try.underlying27 rfl sz3 rfl (by kernel_rfl) (by intro hh; cases hh))) ?_
    refine XL_cons rfl (X_of_Y0 rfl (Y0_load1 (c := Ti vn2.2.1) (cs := [Ti vn2.2.2.1, Ti vn2.2.2.2]) sc3 rfl (by kernel_rfl))) ?_
    refine XL_cons rfl (X_of_Y0 rfl (Y0_mul64 (a := vm1.1) (b := vn2.2.1) rfl (by kernel_rfl) (by kernel_rfl))) ?_
    refine XL_cons rfl (X_of_Y0 rfl (E_field (.pt 16 1) Try.underlying27 rfl sz3 rfl (by kernel_rfl) (by intro hh; cases hh))) ?_
    refine XL_cons rfl (X_of_Y0 rfl (Y0_load1 (c := Ti vm1.2.1) (cs := [Ti vm1.2.2.1, Ti vm1.2.2.2]) sc3 rfl (by kernel_rfl))) ?_
    refine XL_cons rfl (X_of_Y0 rfl (E_field (.pt 24 3) Try.underlying27 rfl sz3 rfl (by kernel_rfl) (by intro hh; cases hh))) ?_
    refine XL_cons rfl (X_of_Y0 rfl (Y0_load1 (c := Ti vn2.2.2.2) (cs := []) sc3 rfl (by kernel_rfl))) ?_
    refine XL_cons rfl (X_of_Y0 rfl (Y0_mul64 (a := vm1.2.1) (b := vn2.2.2.2) rfl (by kernel_rfl) (by kernel_rfl))) ?_
    refine XL_cons rfl (X_of_Y0 rfl (Y0_add64 (a := w64 (vm1.1 * vn2.2.1)) (b := w64 (vm1.2.1 * vn2.2.2.2)) rfl (by kernel_rfl) (by kernel_rfl))) ?_
    refine XL_cons rfl (X_of_Y0 rfl (E_field (.pt 16 2) Try.underlying27 rfl sz3 rfl (by kernel_rfl) (by intro hh; cases hh))) ?_
    refine XL_cons rfl (X_of_Y0 rfl (Y0_load1 (c := Ti vm1.2.2.1) (cs := [Ti vm1.2.2.2]) sc3 rfl (by kernel_rfl))) ?_
    refine XL_cons rfl (X_of_Y0 rfl (E_field (.pt 24 0) Try.underlying27 rfl sz3 rfl (by kernel_rfl) (by intro hh; cases hh))) ?_
    refine XL_cons rfl (X_of_Y0 rfl (Y0_load1 (c := Ti vn2.1) (cs := [Ti vn2.2.1, Ti vn2.2.2.1, Ti vn2.2.2.2]) sc3 rfl (by kernel_rfl))) ?_
    refine XL_cons rfl (X_of_Y0 rfl (Y0_mul64 (a := vm1.2.2.1) (b := vn2.1) rfl (by kernel_rfl) (by kernel_rfl))) ?_
    refine XL_cons rfl (X_of_Y0 rfl (E_field (.pt 16 3) Try.underlying27 rfl sz3 rfl (by kernel_rfl) (by intro hh; cases hh))) ?_
    refine XL_cons rfl (X_of_Y0 rfl (Y0_load1 (c := Ti vm1.2.2.2) (cs := []) sc3 rfl (by kernel_rfl))) ?_
    refine XL_cons rfl (X_of_Y0 rfl (E_field (.pt 24 2) Try.underlying27 rfl sz3 rfl (by kernel_rfl) (by intro hh; cases hh))) ?_
    refine XL_cons rfl (X_of_Y0 rfl (Y0_load1 (c := Ti vn2.2.2.1) (cs := [Ti vn2.2.2.2]) sc3 rfl (by kernel_rfl))) ?_
    refine XL_cons rfl (X_of_Y0 rfl (Y0_mul64 (a := vm1.2.2.2) (b := vn2.2.2.1) rfl (by kernel_rfl) (by kernel_rfl))) ?_
    refine XL_cons rfl (X_of_Y0 rfl (Y0_add64 (a := w64 (vm1.2.2.1 * vn2.1)) (b := w64 (vm1.2.2.2 * vn2.2.2.1)) rfl (by kernel_rfl) (by kernel_rfl))) ?_
    refine XL_cons rfl (X_of_Y0 rfl (E_field (.pt 16 2) Try.underlying27 rfl sz3 rfl (by kernel_rfl) (by intro hh; cases hh))) ?_
    refine XL_cons rfl (X_of_Y0 rfl (Y0_load1 (c := Ti vm1.2.2.1) (cs := [Ti vm1.2.2.2]) sc3 rfl (by kernel_rfl))) ?_
    refine XL_cons rfl (X_of_Y0 rfl (E_field (.pt 24 1) Try.underlying27 rfl sz3 rfl (by kernel_rfl) (by intro hh; cases hh))) ?_
    refine XL_cons rfl (X_of_Y0 rfl (Y0_load1 (c := Ti vn2.2.1) (cs := [Ti vn2.2.2.1, Ti vn2.2.2.2]) sc3 rfl (by kernel_rfl))) ?_
    refine XL_cons rfl (X_of_Y0 rfl (Y0_mul64 (a := vm1.2.2.1) (b := vn2.2.1) rfl (by kernel_rfl) (by kernel_rfl))) ?_
    refine XL_cons rfl (X_of_Y0 rfl (E_field (.pt 16 3) Try.underlying27 rfl sz3 rfl (by kernel_rfl) (by intro hh; cases hh))) ?_
    refine XL_cons rfl (X_of_Y0 rfl (Y0_load1 (c := Ti vm1.2.2.2) (cs := []) sc3 rfl (by kernel_rfl))) ?_
    refine XL_cons rfl (X_of_Y0 rfl (E_field (.pt 24 3) Try.underlying27 rfl sz3 rfl (by kernel_rfl) (by intro hh; cases hh))) ?_
    refine XL_cons rfl (X_of_Y0 rfl (Y0_load1 (c := Ti vn2.2.2.2) (cs := []) sc3 rfl (by kernel_rfl))) ?_
    refine XL_cons rfl (X_of_Y0 rfl (Y0_mul64 (a := vm1.2.2.2) (b := vn2.2.2.2) rfl (by kernel_rfl) (by kernel_rfl))) ?_
    refine XL_cons rfl (X_of_Y0 rfl (Y0_add64 (a := w64 (vm1.2.2.1 * vn2.2.1)) (b := w64 (vm1.2.2.2 * vn2.2.2.2)) rfl (by kernel_rfl) (by kernel_rfl))) ?_
    refine XL_cons rfl (X_of_Y0 rfl (Y0_build (cs := [Ti (w64 ((w64 (vm1.1 * vn2.1)) + (w64 (vm1.2.1 * vn2.2.2.1)))), Ti (w64 ((w64 (vm1.1 * vn2.2.1)) + (w64 (vm1.2.1 * vn2.2.2.2)))), Ti (w64 ((w64 (vm1.2.2.1 * vn2.1)) + (w64 (vm1.2.2.2 * vn2.2.2.1)))), Ti (w64 ((w64 (vm1.2.2.1 * vn2.2.1)) + (w64 (vm1.2.2.2 * vn2.2.2.2))))]) pl27 bt27 rfl rfl (by kernel_rfl))) ?_
    refine XL_cons rfl (E_store (id := 32) (off := 0) (cs := [Ti 0, Ti 0, Ti 0, Ti 0]) (vc := [Ti (w64 ((w64 (vm1.1 * vn2.1)) + (w64 (vm1.2.1 * vn2.2.2.1)))), Ti (w64 ((w64 (vm1.1 * vn2.2.1)) + (w64 (vm1.2.1 * vn2.2.2.2)))), Ti (w64 ((w64 (vm1.2.2.1 * vn2.1)) + (w64 (vm1.2.2.2 * vn2.2.2.1)))), Ti (w64 ((w64 (vm1.2.2.1 * vn2.2.1)) + (w64 (vm1.2.2.2 * vn2.2.2.2))))]) [Ti (w64 ((w64 (vm1.1 * vn2.1)) + (w64 (vm1.2.1 * vn2.2.2.1)))), Ti (w64 ((w64 (vm1.1 * vn2.2.1)) + (w64 (vm1.2.1 * vn2.2.2.2)))), Ti (w64 ((w64 (vm1.2.2.1 * vn2.1)) + (w64 (vm1.2.2.2 * vn2.2.2.1)))), Ti (w64 ((w64 (vm1.2.2.1 * vn2.2.1)) + (w64 (vm1.2.2.2 * vn2.2.2.2))))] rfl rfl (by kernel_rfl) (by kernel_rfl) (by kernel_rfl) sz27 (Nat.le_of_ble_eq_true rfl) (by kernel_rfl)) ?_
    refine XL_nil ?_
    subst hf3 hf4 hf5 hf6
    kernel_rfl
  refine V_ret ?_
  obtain rfl := some_inj h
  show Post _ _ _ _ _
  exact ⟨.inr rfl, rfl, rfl, rfl⟩
theorem cf_spec_l1Cur_proper : ∀ args w, (callFunc 248 args).run Try.prog w = .ok (.enter 248 args) w := run_callFunc Try.func248 (by kernel_rfl) (by kernel_rfl)
set_option maxRecDepth 100000 in
set_option maxHeartbeats 400000 in
theorem s_spec_l1Cur_proper {c1 : ((List Int) × Int × Int)} {r : (((Int × Int × Int × Int)) × (((List Int) × Int × Int)))} (h : r_spec_l1Cur_proper c1 = some r) : CallR Try.prog 248 [.pt 80000 0] [(80000, .box [.sl (c1.1.map c5), Ti c1.2.1, .v (.int .u64 c1.2.2)])] (.ag [Ti r.1.1, Ti r.1.2.1, Ti r.1.2.2.1, Ti r.1.2.2.2]) [] [(80000, .box [.sl (r.2.1.map c5), Ti r.2.2.1, .v (.int .u64 r.2.2.2)])] := by
  refine CallR_of_text (rs := [.w 2 4]) (vs := [.cell 2 27]) Try.func248 rfl rfl (.cons ⟨rfl, wd27⟩ FitsL.nil) (by decide) 34 rfl rfl fun σ => ?_
  unfold r_spec_l1Cur_proper at h
  show V _ _ ⟨[.pt 80000 0, .bot, .bot, .bot, .bot, .bot, .bot, .bot, .bot, .bot, .bot, .bot, .bot, .bot, .bot, .bot, .bot, .bot, .bot, .bot, .bot, .bot, .bot, .bot, .bot, .bot, .bot, .bot, .bot, .bot, .bot, .bot, .bot, .bot], [(80000, .pbox (σ 80000) [.sl (c1.1.map c5), Ti c1.2.1, .v (.int .u64 c1.2.2)])]⟩ _
  refine V_sreg [true, false, true, false, false, false, false, false, false, false, false, false, false, false, false, false, false, false, false, false, false, false, false, false, false, false, false, false, false, false, false, false, false, false] [16, 80000] (s1 := ⟨[.pt 80000 0, .bot, .pt 16 0, .bot, .bot, .bot, .bot, .bot, .bot, .bot, .bot, .bot, .bot, .bot, .bot, .bot, .bot, .bot, .bot, .bot, .bot, .bot, .bot, .bot, .bot, .bot, .bot, .bot, .bot, .bot, .bot, .bot, .bot, .bot], [(16, .box [Ti 0, Ti 0, Ti 0, Ti 0]), (80000, .pbox (σ 80000) [.sl (c1.1.map c5), Ti c1.2.1, .v (.int .u64 c1.2.2)])]⟩) ?_ ?_
  · refine XL_cons rfl (X_of_Y1 rfl (Y1_alloc (z := zv27) rfl zf27 rfl)) ?_
    refine XL_nil ?_
    kernel_rfl
  refine V_sreg [true, false, true, true, false, false, false, false, false, false, false, false, false, false, false, false, false, false, false, false, false, false, false, false, false, false, false, false, false, false, false, false, false, false] [24, 16, 80000] (s1 := ⟨[.pt 80000 0, .bot, .pt 16 0, .pt 24 0, .bot, .bot, .bot, .bot, .bot, .bot, .bot, .bot, .bot, .bot, .bot, .bot, .bot, .bot, .bot, .bot, .bot, .bot, .bot, .bot, .bot, .bot, .bot, .bot, .bot, .bot, .bot, .bot, .bot, .bot], [(24, .box [Ti 1, Ti 0, Ti 0, Ti 1]), (16, .box [Ti 0, Ti 0, Ti 0, Ti 0]), (80000, .pbox (σ 80000) [.sl (c1.1.map c5), Ti c1.2.1, .v (.int .u64 c1.2.2)])]⟩) ?_ ?_
  · refine XL_cons rfl (X_of_Y0 rfl (Y0_build (cs := [Ti 1, Ti 0, Ti 0, Ti 1]) pl27 bt27 rfl rfl (by kernel_rfl))) ?_
    refine XL_cons rfl (X_of_Y1 rfl (Y1_alloc (z := zv27) rfl zf27 rfl)) ?_
    refine XL_cons rfl (E_store (id := 24) (off := 0) (cs := [Ti 0, Ti 0, Ti 0, Ti 0]) (vc := [Ti 1, Ti 0, Ti 0, Ti 1]) [Ti 1, Ti 0, Ti 0, Ti 1] rfl rfl (by kernel_rfl) (by kernel_rfl) (by kernel_rfl) sz27 (Nat.le_of_ble_eq_true rfl) (by kernel_rfl)) ?_
    refine XL_nil ?_
    kernel_rfl
  refine V_seq ?_
  obtain ⟨y2, hy2, h⟩ := of_bind h
  refine V_sreg [true, false, true, true, true, false, false, false, false, false, false, false, false, false, false, false, false, false, false, false, false, false, false, false, false, false, false, false, false, false, false, false, false, false] [24, 16, 80000] (s1 := ⟨[.pt 80000 0, .bot, .pt 16 0, .pt 24 0, I y2.1, .bot, .bot, .bot, .bot, .bot, .bot, .bot, .bot, .bot, .bot, .bot, .bot, .bot, .bot, .bot, .bot, .bot, .bot, .bot, .bot, .bot, .bot, .bot, .bot, .bot, .bot, .bot, .bot, .bot], [(24, .box [Ti 1, Ti 0, Ti 0, Ti 1]), (16, .box [Ti 0, Ti 0, Ti 0, Ti 0]), (80000, .pbox (σ 80000) [.sl (y2.2.1.map c5), Ti y2.2.2.1, .v (.int .u64 y2.2.2.2)])]⟩) ?_ ?_
  · refine XL_cons rfl (X_of_Y0 rfl (E_move (.pt 80000 0) rfl (by kernel_rfl))) ?_
    refine XL_cons rfl (X_callR (E' := [(24, .box [Ti 1, Ti 0, Ti 0, Ti 1]), (16, .box [Ti 0, Ti 0, Ti 0, Ti 0]), (80000, .pbox (σ 80000) [.sl (y2.2.1.map c5), Ti y2.2.2.1, .v (.int .u64 y2.2.2.2)])]) [(80000, 80000)] 8 (s_spec_l1Cur_pick hy2) cf_spec_l1Cur_pick rfl rfl (by kernel_rfl) rfl (mE_cons (by kernel_rfl) mE_nil) rfl (by kernel_rfl) rfl rfl (by kernel_rfl)) ?_
    refine XL_cons rfl (X_of_Y0 rfl (E_assign (I y2.1) rfl (by kernel_rfl))) ?_
    refine XL_nil ?_
    kernel_rfl
  obtain ⟨o12, hLo12, h⟩ := of_bind h
  refine V_toK [false, false, true, true, false, false, false, false, false, false, false, false, false, false, false, false, false, false, false, false, false, false, false, false, false, false, false, false, false, false, false, false, false, false] [24, 16, 80000] (s1 := ⟨[.bot, .bot, .pt 16 0, .pt 24 0, .bot, .bot, .bot, .bot, .bot, .bot, .bot, .bot, .bot, .bot, .bot, .bot, .bot, .bot, .bot, .bot, .bot, .bot, .bot, .bot, .bot, .bot, .bot, .bot, .bot, .bot, .bot, .bot, .bot, .bot], [(24, .box [Ti o12.1, Ti o12.2.1, Ti o12.2.2.1, Ti o12.2.2.2.1]), (16, .box [Ti 0, Ti 0, Ti 0, Ti 0]), (80000, .pbox (σ 80000) [.sl (o12.2.2.2.2.1.map c5), Ti o12.2.2.2.2.2.1, .v (.int .u64 o12.2.2.2.2.2.2)])]⟩) ?_ ?_
  · clear h
    refine V_block (V_loop (fun n s => ∃ (k3 : Int) (f4 : Int) (f5 : Int) (f6 : Int) (f7 : Int) (f8 : List Int) (f9 : Int) (f10 : Int), s.keep [true, false, true, true, true, false, false, false, false, false, false, false, false, false, false, false, false, false, false, false, false, false, false, false, false, false, false, false, false, false, false, false, false, false] [24, 16, 80000] = (⟨[.pt 80000 0, .bot, .pt 16 0, .pt 24 0, I k3, .bot, .bot, .bot, .bot, .bot, .bot, .bot, .bot, .bot, .bot, .bot, .bot, .bot, .bot, .bot, .bot, .bot, .bot, .bot, .bot, .bot, .bot, .bot, .bot, .bot, .bot, .bot, .bot, .bot], [(24, .box [Ti f4, Ti f5, Ti f6, Ti f7]), (16, .box [Ti 0, Ti 0, Ti 0, Ti 0]), (80000, .pbox (σ 80000) [.sl (f8.map c5), Ti f9, .v (.int .u64 f10)])]⟩ : St) ∧ r_spec_l1Cur_proper_L11 n k3 f4 f5 f6 f7 f8 f9 f10 = some o12) FU ⟨_, _, _, _, _, _, _, _,  by rfl, hLo12⟩ ?_)
    clear hLo12
    rintro n s ⟨k3, f4, f5, f6, f7, f8, f9, f10, hs, h⟩
    refine V_keep _ _ hs ?_
    clear hs
    cases n with
    | zero => cases h
    | succ n =>
      rw [r_spec_l1Cur_proper_L11] at h
      refine V_seq ?_
      refine V_sreg [true, false, true, true, true, false, false, false, false, false, true, false, false, false, false, false, false, false, false, false, false, false, false, false, false, false, false, false, false, false, false, false, false, false] [24, 16, 80000] (s1 := ⟨[.pt 80000 0, .bot, .pt 16 0, .pt 24 0, I k3, .bot, .bot, .bot, .bot, .bot, Bo (ltI 0 k3), .bot, .bot, .bot, .bot, .bot, .bot, .bot, .bot, .bot, .bot, .bot, .bot, .bot, .bot, .bot, .bot, .bot, .bot, .bot, .bot, .bot, .bot, .bot], [(24, .box [Ti f4, Ti f5, Ti f6, Ti f7]), (16, .box [Ti 0, Ti 0, Ti 0, Ti 0]), (80000, .pbox (σ 80000) [.sl (f8.map c5), Ti f9, .v (.int .u64 f10)])]⟩) ?_ ?_
      · refine XL_cons rfl (X_of_Y0 rfl (E_move (I k3) rfl (by kernel_rfl))) ?_
        refine XL_cons rfl (X_of_Y0 rfl (Y0_gtw (k := .i64) (a := k3) (b := 0) rfl (by kernel_rfl) (by kernel_rfl))) ?_
        refine XL_nil ?_
        kernel_rfl
      refine V_cond rfl (fun hc13 => ?_) (fun hc13 => ?_)
      · have h := of_true h hc13
        refine V_skip ?_
        show V _ _ _ _
        refine V_seq ?_
        refine V_block ?_
        obtain ⟨y14, hy14, h⟩ := of_bind h
        obtain ⟨t15, ht15, h⟩ := of_sI h
        refine V_sreg [true, false, true, true, true, true, false, false, false, false, false, false, false, false, false, false, false, false, false, false, false, false, false, false, false, false, false, false, false, false, false, false, false, false] [24, 16, 80000] (s1 := ⟨[.pt 80000 0, .bot, .pt 16 0, .pt 24 0, I k3, I t15, .bot, .bot, .bot, .bot, .bot, .bot, .bot, .bot, .bot, .bot, .bot, .bot, .bot, .bot, .bot, .bot, .bot, .bot, .bot, .bot, .bot, .bot, .bot, .bot, .bot, .bot, .bot, .bot], [(24, .box [Ti f4, Ti f5, Ti f6, Ti f7]), (16, .box [Ti 0, Ti 0, Ti 0, Ti 0]), (80000, .pbox (σ 80000) [.sl (y14.2.1.map c5), Ti y14.2.2.1, .v (.int .u64 y14.2.2.2)])]⟩) ?_ ?_
        · refine XL_cons rfl (X_of_Y0 rfl (E_move (.pt 80000 0) rfl (by kernel_rfl))) ?_
          refine XL_cons rfl (X_callR (E' := [(24, .box [Ti f4, Ti f5, Ti f6, Ti f7]), (16, .box [Ti 0, Ti 0, Ti 0, Ti 0]), (80000, .pbox (σ 80000) [.sl (y14.2.1.map c5), Ti y14.2.2.1, .v (.int .u64 y14.2.2.2)])]) [(80000, 80000)] 14 (s_spec_l1Cur_pick hy14) cf_spec_l1Cur_pick rfl rfl (by kernel_rfl) rfl (mE_cons (by kernel_rfl) mE_nil) rfl (by kernel_rfl) rfl rfl (by kernel_rfl)) ?_
          refine XL_cons rfl (X_of_Y0 rfl (Y0_sub64 (a := y14.1) (b := 4) rfl (by kernel_rfl) (by kernel_rfl))) ?_
          refine XL_cons rfl (X_of_Y0 rfl (E_assign (I (w64 (y14.1 - 4))) rfl (by kernel_rfl))) ?_
          refine XL_nil ?_
          subst ht15
          kernel_rfl
        obtain ⟨y16, hy16, h⟩ := of_bind h
        refine V_sreg [true, false, true, true, true, true, false, false, false, false, false, false, false, false, false, false, false, true, false, false, false, false, false, false, false, false, false, false, false, false, false, false, false, false] [24, 16, 80000] (s1 := ⟨[.pt 80000 0, .bot, .pt 16 0, .pt 24 0, I k3, I t15, .bot, .bot, .bot, .bot, .bot, .bot, .bot, .bot, .bot, .bot, .bot, I y16.1, .bot, .bot, .bot, .bot, .bot, .bot, .bot, .bot, .bot, .bot, .bot, .bot, .bot, .bot, .bot, .bot], [(24, .box [Ti f4, Ti f5, Ti f6, Ti f7]), (16, .box [Ti 0, Ti 0, Ti 0, Ti 0]), (80000, .pbox (σ 80000) [.sl (y16.2.1.map c5), Ti y16.2.2.1, .v (.int .u64 y16.2.2.2)])]⟩) ?_ ?_
        · refine XL_cons rfl (X_of_Y0 rfl (E_move (.pt 80000 0) rfl (by kernel_rfl))) ?_
          refine XL_cons rfl (X_callR (E' := [(24, .box [Ti f4, Ti f5, Ti f6, Ti f7]), (16, .box [Ti 0, Ti 0, Ti 0, Ti 0]), (80000, .pbox (σ 80000) [.sl (y16.2.1.map c5), Ti y16.2.2.1, .v (.int .u64 y16.2.2.2)])]) [(80000, 80000)] 17 (s_spec_l1Cur_pick hy16) cf_spec_l1Cur_pick rfl rfl (by kernel_rfl) rfl (mE_cons (by kernel_rfl) mE_nil) rfl (by kernel_rfl) rfl rfl (by kernel_rfl)) ?_
          refine XL_nil ?_
          kernel_rfl
        refine V_block ?_
        refine V_sreg [true, false, true, true, true, true, false, false, false, false, false, false, false, false, false, false, false, true, false, false, false, true, false, false, false, false, false, false, false, false, false, false, false, false] [24, 16, 80000] (s1 := ⟨[.pt 80000 0, .bot, .pt 16 0, .pt 24 0, I k3, I t15, .bot, .bot, .bot, .bot, .bot, .bot, .bot, .bot, .bot, .bot, .bot, I y16.1, .bot, .bot, .bot, Bo (eqI y16.1 0), .bot, .bot, .bot, .bot, .bot, .bot, .bot, .bot, .bot, .bot, .bot, .bot], [(24, .box [Ti f4, Ti f5, Ti f6, Ti f7]), (16, .box [Ti 0, Ti 0, Ti 0, Ti 0]), (80000, .pbox (σ 80000) [.sl (y16.2.1.map c5), Ti y16.2.2.1, .v (.int .u64 y16.2.2.2)])]⟩) ?_ ?_
        · refine XL_cons rfl (X_of_Y0 rfl (Y0_eqw (k := .i64) (a := y16.1) (b := 0) rfl (by kernel_rfl) (by kernel_rfl))) ?_
          refine XL_cons rfl (X_of_Y0 rfl (E_assign (Bo (eqI y16.1 0)) rfl (by kernel_rfl))) ?_
          refine XL_nil ?_
          kernel_rfl
        refine V_cond rfl (fun hc17 => ?_) (fun hc17 => ?_)
        · have h := of_true h hc17
          obtain ⟨y18, hy18, h⟩ := of_bind h
          refine V_reg [true, false, true, true, true, false, false, false, false, false, false, false, false, false, false, false, false, false, false, false, false, false, false, false, false, false, false, false, false, false, false, false, false, false] [24, 16, 80000] (s1 := ⟨[.pt 80000 0, .bot, .pt 16 0, .pt 24 0, I k3, .bot, .bot, .bot, .bot, .bot, .bot, .bot, .bot, .bot, .bot, .bot, .bot, .bot, .bot, .bot, .bot, .bot, .bot, .bot, .bot, .bot, .bot, .bot, .bot, .bot, .bot, .bot, .bot, .bot], [(24, .box [Ti y18.1, Ti y18.2.1, Ti y18.2.2.1, Ti y18.2.2.2]), (16, .box [Ti 0, Ti 0, Ti 0, Ti 0]), (80000, .pbox (σ 80000) [.sl (y16.2.1.map c5), Ti y16.2.2.1, .v (.int .u64 y16.2.2.2)])]⟩) ?_ ?_
          · refine XL_cons rfl (X_of_Y0 rfl (E_loadn (cs := [Ti f4, Ti f5, Ti f6, Ti f7]) [Ti f4, Ti f5, Ti f6, Ti f7] wd27 rfl (by kernel_rfl) (Nat.le_of_ble_eq_true rfl) (by kernel_rfl))) ?_
            refine XL_cons rfl (X_of_Y0 rfl (E_move (I t15) rfl (by kernel_rfl))) ?_
            refine XL_cons rfl (X_of_Y0 rfl (Y0_build (cs := [Ti 1, Ti t15, Ti 0, Ti 1]) pl27 bt27 rfl rfl (by kernel_rfl))) ?_
            refine XL_cons rfl (X_of_Y1 rfl (Y1_call (s_spec_foMul hy18) cf_spec_foMul rfl (by kernel_rfl))) ?_
            refine XL_cons rfl (E_store (id := 24) (off := 0) (cs := [Ti f4, Ti f5, Ti f6, Ti f7]) (vc := [Ti y18.1, Ti y18.2.1, Ti y18.2.2.1, Ti y18.2.2.2]) [Ti y18.1, Ti y18.2.1, Ti y18.2.2.1, Ti y18.2.2.2] rfl rfl (by kernel_rfl) (by kernel_rfl) (by kernel_rfl) sz27 (Nat.le_of_ble_eq_true rfl) (by kernel_rfl)) ?_
            refine XL_nil ?_
            kernel_rfl
          show V _ _ _ _
          obtain ⟨k19, hk19, h⟩ := of_sI h
          refine V_reg [true, false, true, true, true, false, false, false, false, false, false, false, false, false, false, false, false, false, false, false, false, false, false, false, false, false, false, false, false, false, false, false, false, false] [24, 16, 80000] (s1 := ⟨[.pt 80000 0, .bot, .pt 16 0, .pt 24 0, I k19, .bot, .bot, .bot, .bot, .bot, .bot, .bot, .bot, .bot, .bot, .bot, .bot, .bot, .bot, .bot, .bot, .bot, .bot, .bot, .bot, .bot, .bot, .bot, .bot, .bot, .bot, .bot, .bot, .bot], [(24, .box [Ti y18.1, Ti y18.2.1, Ti y18.2.2.1, Ti y18.2.2.2]), (16, .box [Ti 0, Ti 0, Ti 0, Ti 0]), (80000, .pbox (σ 80000) [.sl (y16.2.1.map c5), Ti y16.2.2.1, .v (.int .u64 y16.2.2.2)])]⟩) ?_ ?_
          · refine XL_cons rfl (X_of_Y0 rfl (E_move (I k3) rfl (by kernel_rfl))) ?_
            refine XL_cons rfl (X_of_Y0 rfl (Y0_sub64 (a := k3) (b := 1) rfl (by kernel_rfl) (by kernel_rfl))) ?_
            refine XL_cons rfl (X_of_Y0 rfl (E_assign (I (w64 (k3 - 1))) rfl (by kernel_rfl))) ?_
            refine XL_nil ?_
            subst hk19
            kernel_rfl
          exact ⟨n, Nat.lt_succ_self n, _, _, _, _, _, _, _, _,  by rfl, h⟩
        · have h := of_false h hc17
          refine V_sreg [true, false, true, true, true, true, false, false, false, false, false, false, false, false, false, false, false, false, false, false, false, false, false, false, false, false, false, true, false, false, false, false, false, false] [24, 16, 80000] (s1 := ⟨[.pt 80000 0, .bot, .pt 16 0, .pt 24 0, I k3, I t15, .bot, .bot, .bot, .bot, .bot, .bot, .bot, .bot, .bot, .bot, .bot, .bot, .bot, .bot, .bot, .bot, .bot, .bot, .bot, .bot, .bot, Bo (eqI y16.1 1), .bot, .bot, .bot, .bot, .bot, .bot], [(24, .box [Ti f4, Ti f5, Ti f6, Ti f7]), (16, .box [Ti 0, Ti 0, Ti 0, Ti 0]), (80000, .pbox (σ 80000) [.sl (y16.2.1.map c5), Ti y16.2.2.1, .v (.int .u64 y16.2.2.2)])]⟩) ?_ ?_
          · refine XL_cons rfl (X_of_Y0 rfl (Y0_eqw (k := .i64) (a := y16.1) (b := 1) rfl (by kernel_rfl) (by kernel_rfl))) ?_
            refine XL_cons rfl (X_of_Y0 rfl (E_assign (Bo (eqI y16.1 1)) rfl (by kernel_rfl))) ?_
            refine XL_nil ?_
            kernel_rfl
          refine V_cond rfl (fun hc20 => ?_) (fun hc20 => ?_)
          · have h := of_true h hc20
            obtain ⟨y21, hy21, h⟩ := of_bind h
            refine V_reg [true, false, true, true, true, false, false, false, false, false, false, false, false, false, false, false, false, false, false, false, false, false, false, false, false, false, false, false, false, false, false, false, false, false] [24, 16, 80000] (s1 := ⟨[.pt 80000 0, .bot, .pt 16 0, .pt 24 0, I k3, .bot, .bot, .bot, .bot, .bot, .bot, .bot, .bot, .bot, .bot, .bot, .bot, .bot, .bot, .bot, .bot, .bot, .bot, .bot, .bot, .bot, .bot, .bot, .bot, .bot, .bot, .bot, .bot, .bot], [(24, .box [Ti y21.1, Ti y21.2.1, Ti y21.2.2.1, Ti y21.2.2.2]), (16, .box [Ti 0, Ti 0, Ti 0, Ti 0]), (80000, .pbox (σ 80000) [.sl (y16.2.1.map c5), Ti y16.2.2.1, .v (.int .u64 y16.2.2.2)])]⟩) ?_ ?_
            · refine XL_cons rfl (X_of_Y0 rfl (E_loadn (cs := [Ti f4, Ti f5, Ti f6, Ti f7]) [Ti f4, Ti f5, Ti f6, Ti f7] wd27 rfl (by kernel_rfl) (Nat.le_of_ble_eq_true rfl) (by kernel_rfl))) ?_
              refine XL_cons rfl (X_of_Y0 rfl (E_move (I t15) rfl (by kernel_rfl))) ?_
              refine XL_cons rfl (X_of_Y0 rfl (Y0_build (cs := [Ti 1, Ti 0, Ti t15, Ti 1]) pl27 bt27 rfl rfl (by kernel_rfl))) ?_
              refine XL_cons rfl (X_of_Y1 rfl (Y1_call (s_spec_foMul hy21) cf_spec_foMul rfl (by kernel_rfl))) ?_
              refine XL_cons rfl (E_store (id := 24) (off := 0) (cs := [Ti f4, Ti f5, Ti f6, Ti f7]) (vc := [Ti y21.1, Ti y21.2.1, Ti y21.2.2.1, Ti y21.2.2.2]) [Ti y21.1, Ti y21.2.1, Ti y21.2.2.1, Ti y21.2.2.2] rfl rfl (by kernel_rfl) (by kernel_rfl) (by kernel_rfl) sz27 (Nat.le_of_ble_eq_true rfl) (by kernel_rfl)) ?_
              refine XL_nil ?_
              kernel_rfl
            show V _ _ _ _
            obtain ⟨k22, hk22, h⟩ := of_sI h
            refine V_reg [true, false, true, true, true, false, false, false, false, false, false, false, false, false, false, false, false, false, false, false, false, false, false, false, false, false, false, false, false, false, false, false, false, false] [24, 16, 80000] (s1 := ⟨[.pt 80000 0, .bot, .pt 16 0, .pt 24 0, I k22, .bot, .bot, .bot, .bot, .bot, .bot, .bot, .bot, .bot, .bot, .bot, .bot, .bot, .bot, .bot, .bot, .bot, .bot, .bot, .bot, .bot, .bot, .bot, .bot, .bot, .bot, .bot, .bot, .bot], [(24, .box [Ti y21.1, Ti y21.2.1, Ti y21.2.2.1, Ti y21.2.2.2]), (16, .box [Ti 0, Ti 0, Ti 0, Ti 0]), (80000, .pbox (σ 80000) [.sl (y16.2.1.map c5), Ti y16.2.2.1, .v (.int .u64 y16.2.2.2)])]⟩) ?_ ?_
            · refine XL_cons rfl (X_of_Y0 rfl (E_move (I k3) rfl (by kernel_rfl))) ?_
              refine XL_cons rfl (X_of_Y0 rfl (Y0_sub64 (a := k3) (b := 1) rfl (by kernel_rfl) (by kernel_rfl))) ?_
              refine XL_cons rfl (X_of_Y0 rfl (E_assign (I (w64 (k3 - 1))) rfl (by kernel_rfl))) ?_
              refine XL_nil ?_
              subst hk22
              kernel_rfl
            exact ⟨n, Nat.lt_succ_self n, _, _, _, _, _, _, _, _,  by rfl, h⟩
          · have h := of_false h hc20
            obtain ⟨y23, hy23, h⟩ := of_bind h
            refine V_reg [true, false, true, true, true, false, false, false, false, false, false, false, false, false, false, false, false, false, false, false, false, false, false, false, false, false, false, false, false, false, false, false, false, false] [24, 16, 80000] (s1 := ⟨[.pt 80000 0, .bot, .pt 16 0, .pt 24 0, I k3, .bot, .bot, .bot, .bot, .bot, .bot, .bot, .bot, .bot, .bot, .bot, .bot, .bot, .bot, .bot, .bot, .bot, .bot, .bot, .bot, .bot, .bot, .bot, .bot, .bot, .bot, .bot, .bot, .bot], [(24, .box [Ti y23.1, Ti y23.2.1, Ti y23.2.2.1, Ti y23.2.2.2]), (16, .box [Ti 0, Ti 0, Ti 0, Ti 0]), (80000, .pbox (σ 80000) [.sl (y16.2.1.map c5), Ti y16.2.2.1, .v (.int .u64 y16.2.2.2)])]⟩) ?_ ?_
            · refine XL_cons rfl (X_of_Y0 rfl (E_loadn (cs := [Ti f4, Ti f5, Ti f6, Ti f7]) [Ti f4, Ti f5, Ti f6, Ti f7] wd27 rfl (by kernel_rfl) (Nat.le_of_ble_eq_true rfl) (by kernel_rfl))) ?_
              refine XL_cons rfl (X_of_Y0 rfl (Y0_build (cs := [Ti 0, Ti (-1), Ti 1, Ti 0]) pl27 bt27 rfl rfl (by kernel_rfl))) ?_
              refine XL_cons rfl (X_of_Y1 rfl (Y1_call (s_spec_foMul hy23) cf_spec_foMul rfl (by kernel_rfl))) ?_
              refine XL_cons rfl (E_store (id := 24) (off := 0) (cs := [Ti f4, Ti f5, Ti f6, Ti f7]) (vc := [Ti y23.1, Ti y23.2.1, Ti y23.2.2.1, Ti y23.2.2.2]) [Ti y23.1, Ti y23.2.1, Ti y23.2.2.1, Ti y23.2.2.2] rfl rfl (by kernel_rfl) (by kernel_rfl) (by kernel_rfl) sz27 (Nat.le_of_ble_eq_true rfl) (by kernel_rfl)) ?_
              refine XL_nil ?_
              kernel_rfl
            show V _ _ _ _
            obtain ⟨k24, hk24, h⟩ := of_sI h
            refine V_reg [true, false, true, true, true, false, false, false, false, false, false, false, false, false, false, false, false, false, false, false, false, false, false, false, false, false, false, false, false, false, false, false, false, false] [24, 16, 80000] (s1 := ⟨[.pt 80000 0, .bot, .pt 16 0, .pt 24 0, I k24, .bot, .bot, .bot, .bot, .bot, .bot, .bot, .bot, .bot, .bot, .bot, .bot, .bot, .bot, .bot, .bot, .bot, .bot, .bot, .bot, .bot, .bot, .bot, .bot, .bot, .bot, .bot, .bot, .bot], [(24, .box [Ti y23.1, Ti y23.2.1, Ti y23.2.2.1, Ti y23.2.2.2]), (16, .box [Ti 0, Ti 0, Ti 0, Ti 0]), (80000, .pbox (σ 80000) [.sl (y16.2.1.map c5), Ti y16.2.2.1, .v (.int .u64 y16.2.2.2)])]⟩) ?_ ?_
            · refine XL_cons rfl (X_of_Y0 rfl (E_move (I k3) rfl (by kernel_rfl))) ?_
              refine XL_cons rfl (X_of_Y0 rfl (Y0_sub64 (a := k3) (b := 1) rfl (by kernel_rfl) (by kernel_rfl))) ?_
              refine XL_cons rfl (X_of_Y0 rfl (E_assign (I (w64 (k3 - 1))) rfl (by kernel_rfl))) ?_
              refine XL_nil ?_
              subst hk24
              kernel_rfl
            exact ⟨n, Nat.lt_succ_self n, _, _, _, _, _, _, _, _,  by rfl, h⟩
      · have h := of_false h hc13
        refine V_exit ?_
        obtain rfl := some_inj h
        show St.keep _ _ _ = _
        rfl
  show V _ _ _ _
  refine V_sreg [false, false, true, false, false, false, false, false, false, false, false, false, false, false, false, false, false, false, false, false, false, false, false, false, false, false, false, false, false, false, false, false, false, false] [16, 80000] (s1 := ⟨[.bot, .bot, .pt 16 0, .bot, .bot, .bot, .bot, .bot, .bot, .bot, .bot, .bot, .bot, .bot, .bot, .bot, .bot, .bot, .bot, .bot, .bot, .bot, .bot, .bot, .bot, .bot, .bot, .bot, .bot, .bot, .bot, .bot, .bot, .bot], [(16, .box [Ti o12.1, Ti o12.2.1, Ti o12.2.2.1, Ti o12.2.2.2.1]), (80000, .pbox (σ 80000) [.sl (o12.2.2.2.2.1.map c5), Ti o12.2.2.2.2.2.1, .v (.int .u64 o12.2.2.2.2.2.2)])]⟩) ?_ ?_
  · refine XL_cons rfl (X_of_Y0 rfl (E_loadn (cs := [Ti o12.1, Ti o12.2.1, Ti o12.2.2.1, Ti o12.2.2.2.1]) [Ti o12.1, Ti o12.2.1, Ti o12.2.2.1, Ti o12.2.2.2.1] wd27 rfl (by kernel_rfl) (Nat.le_of_ble_eq_true rfl) (by kernel_rfl))) ?_
    refine XL_cons rfl (E_store (id := 16) (off := 0) (cs := [Ti 0, Ti 0, Ti 0, Ti 0]) (vc := [Ti o12.1, Ti o12.2.1, Ti o12.2.2.1, Ti o12.2.2.2.1]) [Ti o12.1, Ti o12.2.1, Ti o12.2.2.1, Ti o12.2.2.2.1] rfl rfl (by kernel_rfl) (by kernel_rfl) (by kernel_rfl) sz27 (Nat.le_of_ble_eq_true rfl) (by kernel_rfl)) ?_
    refine XL_nil ?_
    kernel_rfl
  refine V_ret ?_
  obtain rfl := some_inj h
  show PostR _ _ _ _ _ _
  exact ⟨⟨.inr rfl, rfl, rfl, rfl⟩, ⟨rfl, trivial⟩⟩
theorem cf_spec_l1Cur_matrix : ∀ args w, (callFunc 122 args).run Try.prog w = .ok (.enter 122 args) w := run_callFunc Try.func122 (by kernel_rfl) (by kernel_rfl)
set_option maxRecDepth 100000 in
set_option maxHeartbeats 400000 in
theorem s_spec_l1Cur_matrix {c1 : ((List Int) × Int × Int)} {r : (((Int × Int × Int × Int)) × (((List Int) × Int × Int)))} (h : r_spec_l1Cur_matrix c1 = some r) : CallR Try.prog 122 [.pt 80000 0] [(80000, .box [.sl (c1.1.map c5), Ti c1.2.1, .v (.int .u64 c1.2.2)])] (.ag [Ti r.1.1, Ti r.1.2.1, Ti r.1.2.2.1, Ti r.1.2.2.2]) [] [(80000, .box [.sl (r.2.1.map c5), Ti r.2.2.1, .v (.int .u64 r.2.2.2)])] := by
  refine CallR_of_text (rs := [.w 2 4]) (vs := [.cell 2 27]) Try.func122 rfl rfl (.cons ⟨rfl, wd27⟩ FitsL.nil) (by decide) 40 rfl rfl fun σ => ?_
  unfold r_spec_l1Cur_matrix at h
  show V _ _ ⟨[.pt 80000 0, .bot, .bot, .bot, .bot, .bot, .bot, .bot, .bot, .bot, .bot, .bot, .bot, .bot, .bot, .bot, .bot, .bot, .bot, .bot, .bot, .bot, .bot, .bot, .bot, .bot, .bot, .bot, .bot, .bot, .bot, .bot, .bot, .bot, .bot, .bot, .bot, .bot, .bot, .bot], [(80000, .pbox (σ 80000) [.sl (c1.1.map c5), Ti c1.2.1, .v (.int .u64 c1.2.2)])]⟩ _
  refine V_sreg [true, false, true, false, false, false, false, false, false, false, false, false, false, false, false, false, false, false, false, false, false, false, false, false, false, false, false, false, false, false, false, false, false, false, false, false, false, false, false, false] [16, 80000] (s1 := ⟨[.pt 80000 0, .bot, .pt 16 0, .bot, .bot, .bot, .bot, .bot, .bot, .bot, .bot, .bot, .bot, .bot, .bot, .bot, .bot, .bot, .bot, .bot, .bot, .bot, .bot, .bot, .bot, .bot, .bot, .bot, .bot, .bot, .bot, .bot, .bot, .bot, .bot, .bot, .bot, .bot, .bot, .bot], [(16, .box [Ti 0, Ti 0, Ti 0, Ti 0]), (80000, .pbox (σ 80000) [.sl (c1.1.map c5), Ti c1.2.1, .v (.int .u64 c1.2.2)])]⟩) ?_ ?_
  · refine XL_cons rfl (X_of_Y1 rfl (Y1_alloc (z := zv27) rfl zf27 rfl)) ?_
    refine XL_nil ?_
    kernel_rfl
  obtain ⟨y2, hy2, h⟩ := of_bind h
  refine V_sreg [true, false, true, true, false, false, false, false, false, false, false, false, false, false, false, false, false, false, false, false, false, false, false, false, false, false, false, false, false, false, false, false, false, false, false, false, false, false, false, false] [24, 16, 80000] (s1 := ⟨[.pt 80000 0, .bot, .pt 16 0, .pt 24 0, .bot, .bot, .bot, .bot, .bot, .bot, .bot, .bot, .bot, .bot, .bot, .bot, .bot, .bot, .bot, .bot, .bot, .bot, .bot, .bot, .bot, .bot, .bot, .bot, .bot, .bot, .bot, .bot, .bot, .bot, .bot, .bot, .bot, .bot, .bot, .bot], [(24, .box [Ti y2.1.1, Ti y2.1.2.1, Ti y2.1.2.2.1, Ti y2.1.2.2.2]), (16, .box [Ti 0, Ti 0, Ti 0, Ti 0]), (80000, .pbox (σ 80000) [.sl (y2.2.1.map c5), Ti y2.2.2.1, .v (.int .u64 y2.2.2.2)])]⟩) ?_ ?_
  · refine XL_cons rfl (X_of_Y0 rfl (E_move (.pt 80000 0) rfl (by kernel_rfl))) ?_
    refine XL_cons rfl (X_callR (E' := [(16, .box [Ti 0, Ti 0, Ti 0, Ti 0]), (80000, .pbox (σ 80000) [.sl (y2.2.1.map c5), Ti y2.2.2.1, .v (.int .u64 y2.2.2.2)])]) [(80000, 80000)] 5 (s_spec_l1Cur_proper hy2) cf_spec_l1Cur_proper rfl rfl (by kernel_rfl) rfl (mE_cons (by kernel_rfl) mE_nil) rfl (by kernel_rfl) rfl rfl (by kernel_rfl)) ?_
    refine XL_cons rfl (X_of_Y1 rfl (Y1_alloc (z := zv27) rfl zf27 rfl)) ?_
    refine XL_cons rfl (E_store (id := 24) (off := 0) (cs := [Ti 0, Ti 0, Ti 0, Ti 0]) (vc := [Ti y2.1.1, Ti y2.1.2.1, Ti y2.1.2.2.1, Ti y2.1.2.2.2]) [Ti y2.1.1, Ti y2.1.2.1, Ti y2.1.2.2.1, Ti y2.1.2.2.2] rfl rfl (by kernel_rfl) (by kernel_rfl) (by kernel_rfl) sz27 (Nat.le_of_ble_eq_true rfl) (by kernel_rfl)) ?_
    refine XL_nil ?_
    kernel_rfl
  refine V_seq ?_
  obtain ⟨y3, hy3, h⟩ := of_bind h
  refine V_sreg [true, false, true, true, false, false, false, true, false, false, false, false, false, false, false, false, false, false, false, false, false, false, false, false, false, false, false, false, false, false, false, false, false, false, false, false, false, false, false, false] [24, 16, 80000] (s1 := ⟨[.pt 80000 0, .bot, .pt 16 0, .pt 24 0, .bot, .bot, .bot, I y3.1, .bot, .bot, .bot, .bot, .bot, .bot, .bot, .bot, .bot, .bot, .bot, .bot, .bot, .bot, .bot, .bot, .bot, .bot, .bot, .bot, .bot, .bot, .bot, .bot, .bot, .bot, .bot, .bot, .bot, .bot, .bot, .bot], [(24, .box [Ti y2.1.1, Ti y2.1.2.1, Ti y2.1.2.2.1, Ti y2.1.2.2.2]), (16, .box [Ti 0, Ti 0, Ti 0, Ti 0]), (80000, .pbox (σ 80000) [.sl (y3.2.1.map c5), Ti y3.2.2.1, .v (.int .u64 y3.2.2.2)])]⟩) ?_ ?_
  · refine XL_cons rfl (X_of_Y0 rfl (E_move (.pt 80000 0) rfl (by kernel_rfl))) ?_
    refine XL_cons rfl (X_callR (E' := [(24, .box [Ti y2.1.1, Ti y2.1.2.1, Ti y2.1.2.2.1, Ti y2.1.2.2.2]), (16, .box [Ti 0, Ti 0, Ti 0, Ti 0]), (80000, .pbox (σ 80000) [.sl (y3.2.1.map c5), Ti y3.2.2.1, .v (.int .u64 y3.2.2.2)])]) [(80000, 80000)] 7 (s_spec_l1Cur_pick hy3) cf_spec_l1Cur_pick rfl rfl (by kernel_rfl) rfl (mE_cons (by kernel_rfl) mE_nil) rfl (by kernel_rfl) rfl rfl (by kernel_rfl)) ?_
    refine XL_nil ?_
    kernel_rfl
  refine V_block ?_
  refine V_sreg [true, false, true, true, false, false, false, true, true, false, false, false, false, false, false, false, false, false, false, false, false, false, false, false, false, false, false, false, false, false, false, false, false, false, false, false, false, false, false, false] [24, 16, 80000] (s1 := ⟨[.pt 80000 0, .bot, .pt 16 0, .pt 24 0, .bot, .bot, .bot, I y3.1, Bo (eqI y3.1 0), .bot, .bot, .bot, .bot, .bot, .bot, .bot, .bot, .bot, .bot, .bot, .bot, .bot, .bot, .bot, .bot, .bot, .bot, .bot, .bot, .bot, .bot, .bot, .bot, .bot, .bot, .bot, .bot, .bot, .bot, .bot], [(24, .box [Ti y2.1.1, Ti y2.1.2.1, Ti y2.1.2.2.1, Ti y2.1.2.2.2]), (16, .box [Ti 0, Ti 0, Ti 0, Ti 0]), (80000, .pbox (σ 80000) [.sl (y3.2.1.map c5), Ti y3.2.2.1, .v (.int .u64 y3.2.2.2)])]⟩) ?_ ?_
  · refine XL_cons rfl (X_of_Y0 rfl (Y0_eqw (k := .i64) (a := y3.1) (b := 0) rfl (by kernel_rfl) (by kernel_rfl))) ?_
    refine XL_cons rfl (X_of_Y0 rfl (E_assign (Bo (eqI y3.1 0)) rfl (by kernel_rfl))) ?_
    refine XL_nil ?_
    kernel_rfl
  refine V_cond rfl (fun hc4 => ?_) (fun hc4 => ?_)
  · have h := of_true h hc4
    obtain ⟨y5, hy5, h⟩ := of_bind h
    obtain ⟨y6, hy6, h⟩ := of_bind h
    obtain ⟨y7, hy7, h⟩ := of_bind h
    obtain ⟨y8, hy8, h⟩ := of_bind h
    refine V_sreg [false, false, true, false, false, false, false, false, false, false, false, false, false, false, false, false, false, false, false, false, false, false, false, false, false, false, false, false, false, false, false, false, false, false, false, false, false, false, false, false] [16, 80000] (s1 := ⟨[.bot, .bot, .pt 16 0, .bot, .bot, .bot, .bot, .bot, .bot, .bot, .bot, .bot, .bot, .bot, .bot, .bot, .bot, .bot, .bot, .bot, .bot, .bot, .bot, .bot, .bot, .bot, .bot, .bot, .bot, .bot, .bot, .bot, .bot, .bot, .bot, .bot, .bot, .bot, .bot, .bot], [(16, .box [Ti y5.1, Ti y6.1, Ti y7.1, Ti y8.1]), (80000, .pbox (σ 80000) [.sl (y8.2.1.map c5), Ti y8.2.2.1, .v (.int .u64 y8.2.2.2)])]⟩) ?_ ?_
    · refine XL_cons rfl (X_of_Y0 rfl (E_move (.pt 80000 0) rfl (by kernel_rfl))) ?_
      refine XL_cons rfl (X_callR (E' := [(24, .box [Ti y2.1.1, Ti y2.1.2.1, Ti y2.1.2.2.1, Ti y2.1.2.2.2]), (16, .box [Ti 0, Ti 0, Ti 0, Ti 0]), (80000, .pbox (σ 80000) [.sl (y5.2.1.map c5), Ti y5.2.2.1, .v (.int .u64 y5.2.2.2)])]) [(80000, 80000)] 11 (s_spec_l1Cur_number hy5) cf_spec_l1Cur_number rfl rfl (by kernel_rfl) rfl (mE_cons (by kernel_rfl) mE_nil) rfl (by kernel_rfl) rfl rfl (by kernel_rfl)) ?_
      refine XL_cons rfl (X_of_Y0 rfl (E_move (.pt 80000 0) rfl (by kernel_rfl))) ?_
      refine XL_cons rfl (X_callR (E' := [(24, .box [Ti y2.1.1, Ti y2.1.2.1, Ti y2.1.2.2.1, Ti y2.1.2.2.2]), (16, .box [Ti 0, Ti 0, Ti 0, Ti 0]), (80000, .pbox (σ 80000) [.sl (y6.2.1.map c5), Ti y6.2.2.1, .v (.int .u64 y6.2.2.2)])]) [(80000, 80000)] 13 (s_spec_l1Cur_number hy6) cf_spec_l1Cur_number rfl rfl (by kernel_rfl) rfl (mE_cons (by kernel_rfl) mE_nil) rfl (by kernel_rfl) rfl rfl (by kernel_rfl)) ?_
      refine XL_cons rfl (X_of_Y0 rfl (E_move (.pt 80000 0) rfl (by kernel_rfl))) ?_
      refine XL_cons rfl (X_callR (E' := [(24, .box [Ti y2.1.1, Ti y2.1.2.1, Ti y2.1.2.2.1, Ti y2.1.2.2.2]), (16, .box [Ti 0, Ti 0, Ti 0, Ti 0]), (80000, .pbox (σ 80000) [.sl (y7.2.1.map c5), Ti y7.2.2.1, .v (.int .u64 y7.2.2.2)])]) [(80000, 80000)] 15 (s_spec_l1Cur_number hy7) cf_spec_l1Cur_number rfl rfl (by kernel_rfl) rfl (mE_cons (by kernel_rfl) mE_nil) rfl (by kernel_rfl) rfl rfl (by kernel_rfl)) ?_
      refine XL_cons rfl (X_of_Y0 rfl (E_move (.pt 80000 0) rfl (by kernel_rfl))) ?_
      refine XL_cons rfl (X_callR (E' := [(24, .box [Ti y2.1.1, Ti y2.1.2.1, Ti y2.1.2.2.1, Ti y2.1.2.2.2]), (16, .box [Ti 0, Ti 0, Ti 0, Ti 0]), (80000, .pbox (σ 80000) [.sl (y8.2.1.map c5), Ti y8.2.2.1, .v (.int .u64 y8.2.2.2)])]) [(80000, 80000)] 17 (s_spec_l1Cur_number hy8) cf_spec_l1Cur_number rfl rfl (by kernel_rfl) rfl (mE_cons (by kernel_rfl) mE_nil) rfl (by kernel_rfl) rfl rfl (by kernel_rfl)) ?_
      refine XL_cons rfl (X_of_Y0 rfl (Y0_build (cs := [Ti y5.1, Ti y6.1, Ti y7.1, Ti y8.1]) pl27 bt27 rfl rfl (by kernel_rfl))) ?_
      refine XL_cons rfl (E_store (id := 16) (off := 0) (cs := [Ti 0, Ti 0, Ti 0, Ti 0]) (vc := [Ti y5.1, Ti y6.1, Ti y7.1, Ti y8.1]) [Ti y5.1, Ti y6.1, Ti y7.1, Ti y8.1] rfl rfl (by kernel_rfl) (by kernel_rfl) (by kernel_rfl) sz27 (Nat.le_of_ble_eq_true rfl) (by kernel_rfl)) ?_
      refine XL_nil ?_
      kernel_rfl
    refine V_ret ?_
    obtain rfl := some_inj h
    show PostR _ _ _ _ _ _
    exact ⟨⟨.inr rfl, rfl, rfl, rfl⟩, ⟨rfl, trivial⟩⟩
  · have h := of_false h hc4
    refine V_sreg [true, false, true, true, false, false, false, true, false, false, false, false, false, false, false, false, false, false, false, true, false, false, false, false, false, false, false, false, false, false, false, false, false, false, false, false, false, false, false, false] [24, 16, 80000] (s1 := ⟨[.pt 80000 0, .bot, .pt 16 0, .pt 24 0, .bot, .bot, .bot, I y3.1, .bot, .bot, .bot, .bot, .bot, .bot, .bot, .bot, .bot, .bot, .bot, Bo (eqI y3.1 1), .bot, .bot, .bot, .bot, .bot, .bot, .bot, .bot, .bot, .bot, .bot, .bot, .bot, .bot, .bot, .bot, .bot, .bot, .bot, .bot], [(24, .box [Ti y2.1.1, Ti y2.1.2.1, Ti y2.1.2.2.1, Ti y2.1.2.2.2]), (16, .box [Ti 0, Ti 0, Ti 0, Ti 0]), (80000, .pbox (σ 80000) [.sl (y3.2.1.map c5), Ti y3.2.2.1, .v (.int .u64 y3.2.2.2)])]⟩) ?_ ?_
    · refine XL_cons rfl (X_of_Y0 rfl (Y0_eqw (k := .i64) (a := y3.1) (b := 1) rfl (by kernel_rfl) (by kernel_rfl))) ?_
      refine XL_cons rfl (X_of_Y0 rfl (E_assign (Bo (eqI y3.1 1)) rfl (by kernel_rfl))) ?_
      refine XL_nil ?_
      kernel_rfl
    refine V_cond rfl (fun hc9 => ?_) (fun hc9 => ?_)
    · have h := of_true h hc9
      refine V_sreg [false, false, true, false, false, false, false, false, false, false, false, false, false, false, false, false, false, false, false, false, false, false, false, false, false, false, false, false, false, false, false, false, false, false, false, false, false, false, false, false] [16, 80000] (s1 := ⟨[.bot, .bot, .pt 16 0, .bot, .bot, .bot, .bot, .bot, .bot, .bot, .bot, .bot, .bot, .bot, .bot, .bot, .bot, .bot, .bot, .bot, .bot, .bot, .bot, .bot, .bot, .bot, .bot, .bot, .bot, .bot, .bot, .bot, .bot, .bot, .bot, .bot, .bot, .bot, .bot, .bot], [(16, .box [Ti y2.1.2.1, Ti y2.1.1, Ti y2.1.2.2.2, Ti y2.1.2.2.1]), (80000, .pbox (σ 80000) [.sl (y3.2.1.map c5), Ti y3.2.2.1, .v (.int .u64 y3.2.2.2)])]⟩) ?_ ?_
      · refine XL_cons rfl (X_of_Y0 rfl (E_field (.pt 24 1) Try.underlying27 rfl sz3 rfl (by kernel_rfl) (by intro hh; cases hh))) ?_
        refine XL_cons rfl (X_of_Y0 rfl (Y0_load1 (c := Ti y2.1.2.1) (cs := [Ti y2.1.2.2.1, Ti y2.1.2.2.2]) sc3 rfl (by kernel_rfl))) ?_
        refine XL_cons rfl (X_of_Y0 rfl (E_field (.pt 24 0) Try.underlying27 rfl sz3 rfl (by kernel_rfl) (by intro hh; cases hh))) ?_
        refine XL_cons rfl (X_of_Y0 rfl (Y0_load1 (c := Ti y2.1.1) (cs := [Ti y2.1.2.1, Ti y2.1.2.2.1, Ti y2.1.2.2.2]) sc3 rfl (by kernel_rfl))) ?_
        refine XL_cons rfl (X_of_Y0 rfl (E_field (.pt 24 3) Try.underlying27 rfl sz3 rfl (by kernel_rfl) (by intro hh; cases hh))) ?_
        refine XL_cons rfl (X_of_Y0 rfl (Y0_load1 (c := Ti y2.1.2.2.2) (cs := []) sc3 rfl (by kernel_rfl))) ?_
        refine XL_cons rfl (X_of_Y0 rfl (E_field (.pt 24 2) Try.underlying27 rfl sz3 rfl (by kernel_rfl) (by intro hh; cases hh))) ?_
        refine XL_cons rfl (X_of_Y0 rfl (Y0_load1 (c := Ti y2.1.2.2.1) (cs := [Ti y2.1.2.2.2]) sc3 rfl (by kernel_rfl))) ?_
        refine XL_cons rfl (X_of_Y0 rfl (Y0_build (cs := [Ti y2.1.2.1, Ti y2.1.1, Ti y2.1.2.2.2, Ti y2.1.2.2.1]) pl27 bt27 rfl rfl (by kernel_rfl))) ?_
        refine XL_cons rfl (E_store (id := 16) (off := 0) (cs := [Ti 0, Ti 0, Ti 0, Ti 0]) (vc := [Ti y2.1.2.1, Ti y2.1.1, Ti y2.1.2.2.2, Ti y2.1.2.2.1]) [Ti y2.1.2.1, Ti y2.1.1, Ti y2.1.2.2.2, Ti y2.1.2.2.1] rfl rfl (by kernel_rfl) (by kernel_rfl) (by kernel_rfl) sz27 (Nat.le_of_ble_eq_true rfl) (by kernel_rfl)) ?_
        refine XL_nil ?_
        kernel_rfl
      refine V_ret ?_
      obtain rfl := some_inj h
      show PostR _ _ _ _ _ _
      exact ⟨⟨.inr rfl, rfl, rfl, rfl⟩, ⟨rfl, trivial⟩⟩
    · have h := of_false h hc9
      refine V_sreg [true, false, true, true, false, false, false, false, false, false, false, false, false, false, false, false, false, false, false, false, false, false, false, false, false, false, false, false, false, false, true, false, false, false, false, false, false, false, false, false] [24, 16, 80000] (s1 := ⟨[.pt 80000 0, .bot, .pt 16 0, .pt 24 0, .bot, .bot, .bot, .bot, .bot, .bot, .bot, .bot, .bot, .bot, .bot, .bot, .bot, .bot, .bot, .bot, .bot, .bot, .bot, .bot, .bot, .bot, .bot, .bot, .bot, .bot, Bo (eqI y3.1 2), .bot, .bot, .bot, .bot, .bot, .bot, .bot, .bot, .bot], [(24, .box [Ti y2.1.1, Ti y2.1.2.1, Ti y2.1.2.2.1, Ti y2.1.2.2.2]), (16, .box [Ti 0, Ti 0, Ti 0, Ti 0]), (80000, .pbox (σ 80000) [.sl (y3.2.1.map c5), Ti y3.2.2.1, .v (.int .u64 y3.2.2.2)])]⟩) ?_ ?_
      · refine XL_cons rfl (X_of_Y0 rfl (Y0_eqw (k := .i64) (a := y3.1) (b := 2) rfl (by kernel_rfl) (by kernel_rfl))) ?_
        refine XL_cons rfl (X_of_Y0 rfl (E_assign (Bo (eqI y3.1 2)) rfl (by kernel_rfl))) ?_
        refine XL_nil ?_
        kernel_rfl
      refine V_cond rfl (fun hc10 => ?_) (fun hc10 => ?_)
      · have h := of_true h hc10
        obtain ⟨y11, hy11, h⟩ := of_bind h
        obtain ⟨f12, hf12, h⟩ := of_sI h
        refine V_dagK [false, false, true, true, false, false, false, false, false, false, false, false, false, false, false, false, false, false, false, false, false, false, false, false, false, false, false, false, false, false, false, false, false, false, false, false, false, false, false, false] [24, 16, 80000] [0, 1, 0, 4, 12, 31, 63, 127] [(0, ⟨[.pt 80000 0, .bot, .pt 16 0, .pt 24 0, .bot, .bot, .bot, .bot, .bot, .bot, .bot, .bot, .bot, .bot, .bot, .bot, .bot, .bot, .bot, .bot, .bot, .bot, .bot, .bot, .bot, .bot, .bot, .bot, .bot, .bot, Bo (eqI y3.1 2), .bot, .bot, .bot, .bot, .bot, .bot, .bot, .bot, .bot], [(24, .box [Ti y2.1.1, Ti y2.1.2.1, Ti y2.1.2.2.1, Ti y2.1.2.2.2]), (16, .box [Ti 0, Ti 0, Ti 0, Ti 0]), (80000, .pbox (σ 80000) [.sl (y3.2.1.map c5), Ti y3.2.2.1, .v (.int .u64 y3.2.2.2)])]⟩), (1, ⟨[.pt 80000 0, .bot, .pt 16 0, .pt 24 0, .bot, .bot, .bot, .bot, .bot, .bot, .bot, .bot, .bot, .bot, .bot, .bot, .bot, .bot, .bot, .bot, .bot, .bot, .bot, .bot, .bot, .bot, .bot, .bot, .bot, .bot, Bo (eqI y3.1 2), .bot, .pt 24 1, .bot, .bot, .bot, .bot, .bot, .bot, .bot], [(24, .box [Ti y2.1.1, Ti y2.1.2.1, Ti y2.1.2.2.1, Ti y2.1.2.2.2]), (16, .box [Ti 0, Ti 0, Ti 0, Ti 0]), (80000, .pbox (σ 80000) [.sl (y3.2.1.map c5), Ti y3.2.2.1, .v (.int .u64 y3.2.2.2)])]⟩), (3, ⟨[.pt 80000 0, .bot, .pt 16 0, .pt 24 0, .bot, .bot, .bot, .bot, .bot, .bot, .bot, .bot, .bot, .bot, .bot, .bot, .bot, .bot, .bot, .bot, .bot, .bot, .bot, .bot, .bot, .bot, .bot, .bot, .bot, .bot, Bo (eqI y3.1 2), .bot, .pt 24 1, I y2.1.2.1, .bot, .bot, .bot, .bot, .bot, .bot], [(24, .box [Ti y2.1.1, Ti y2.1.2.1, Ti y2.1.2.2.1, Ti y2.1.2.2.2]), (16, .box [Ti 0, Ti 0, Ti 0, Ti 0]), (80000, .pbox (σ 80000) [.sl (y3.2.1.map c5), Ti y3.2.2.1, .v (.int .u64 y3.2.2.2)])]⟩), (4, ⟨[.pt 80000 0, .bot, .pt 16 0, .pt 24 0, .bot, .bot, .bot, .bot, .bot, .bot, .bot, .bot, .bot, .bot, .bot, .bot, .bot, .bot, .bot, .bot, .bot, .bot, .bot, .bot, .bot, .bot, .bot, .bot, .bot, .bot, Bo (eqI y3.1 2), .bot, .bot, .bot, .pt 80000 0, .bot, .bot, .bot, .bot, .bot], [(24, .box [Ti y2.1.1, Ti y2.1.2.1, Ti y2.1.2.2.1, Ti y2.1.2.2.2]), (16, .box [Ti 0, Ti 0, Ti 0, Ti 0]), (80000, .pbox (σ 80000) [.sl (y3.2.1.map c5), Ti y3.2.2.1, .v (.int .u64 y3.2.2.2)])]⟩), (5, ⟨[.pt 80000 0, .bot, .pt 16 0, .pt 24 0, .bot, .bot, .bot, .bot, .bot, .bot, .bot, .bot, .bot, .bot, .bot, .bot, .bot, .bot, .bot, .bot, .bot, .bot, .bot, .bot, .bot, .bot, .bot, .bot, .bot, .bot, Bo (eqI y3.1 2), .bot, .pt 24 1, .bot, .pt 80000 0, .bot, .bot, .bot, .bot, .bot], [(24, .box [Ti y2.1.1, Ti y2.1.2.1, Ti y2.1.2.2.1, Ti y2.1.2.2.2]), (16, .box [Ti 0, Ti 0, Ti 0, Ti 0]), (80000, .pbox (σ 80000) [.sl (y3.2.1.map c5), Ti y3.2.2.1, .v (.int .u64 y3.2.2.2)])]⟩), (7, ⟨[.pt 80000 0, .bot, .pt 16 0, .pt 24 0, .bot, .bot, .bot, .bot, .bot, .bot, .bot, .bot, .bot, .bot, .bot, .bot, .bot, .bot, .bot, .bot, .bot, .bot, .bot, .bot, .bot, .bot, .bot, .bot, .bot, .bot, Bo (eqI y3.1 2), .bot, .pt 24 1, I y2.1.2.1, .pt 80000 0, .bot, .bot, .bot, .bot, .bot], [(24, .box [Ti y2.1.1, Ti y2.1.2.1, Ti y2.1.2.2.1, Ti y2.1.2.2.2]), (16, .box [Ti 0, Ti 0, Ti 0, Ti 0]), (80000, .pbox (σ 80000) [.sl (y3.2.1.map c5), Ti y3.2.2.1, .v (.int .u64 y3.2.2.2)])]⟩), (12, ⟨[.pt 80000 0, .bot, .pt 16 0, .pt 24 0, .bot, .bot, .bot, .bot, .bot, .bot, .bot, .bot, .bot, .bot, .bot, .bot, .bot, .bot, .bot, .bot, .bot, .bot, .bot, .bot, .bot, .bot, .bot, .bot, .bot, .bot, Bo (eqI y3.1 2), .bot, .bot, .bot, .pt 80000 0, I y11.1, .bot, .bot, .bot, .bot], [(24, .box [Ti y2.1.1, Ti y2.1.2.1, Ti y2.1.2.2.1, Ti y2.1.2.2.2]), (16, .box [Ti 0, Ti 0, Ti 0, Ti 0]), (80000, .pbox (σ 80000) [.sl (y11.2.1.map c5), Ti y11.2.2.1, .v (.int .u64 y11.2.2.2)])]⟩), (13, ⟨[.pt 80000 0, .bot, .pt 16 0, .pt 24 0, .bot, .bot, .bot, .bot, .bot, .bot, .bot, .bot, .bot, .bot, .bot, .bot, .bot, .bot, .bot, .bot, .bot, .bot, .bot, .bot, .bot, .bot, .bot, .bot, .bot, .bot, Bo (eqI y3.1 2), .bot, .pt 24 1, .bot, .pt 80000 0, I y11.1, .bot, .bot, .bot, .bot], [(24, .box [Ti y2.1.1, Ti y2.1.2.1, Ti y2.1.2.2.1, Ti y2.1.2.2.2]), (16, .box [Ti 0, Ti 0, Ti 0, Ti 0]), (80000, .pbox (σ 80000) [.sl (y11.2.1.map c5), Ti y11.2.2.1, .v (.int .u64 y11.2.2.2)])]⟩), (15, ⟨[.pt 80000 0, .bot, .pt 16 0, .pt 24 0, .bot, .bot, .bot, .bot, .bot, .bot, .bot, .bot, .bot, .bot, .bot, .bot, .bot, .bot, .bot, .bot, .bot, .bot, .bot, .bot, .bot, .bot, .bot, .bot, .bot, .bot, Bo (eqI y3.1 2), .bot, .pt 24 1, I y2.1.2.1, .pt 80000 0, I y11.1, .bot, .bot, .bot, .bot], [(24, .box [Ti y2.1.1, Ti y2.1.2.1, Ti y2.1.2.2.1, Ti y2.1.2.2.2]), (16, .box [Ti 0, Ti 0, Ti 0, Ti 0]), (80000, .pbox (σ 80000) [.sl (y11.2.1.map c5), Ti y11.2.2.1, .v (.int .u64 y11.2.2.2)])]⟩), (28, ⟨[.pt 80000 0, .bot, .pt 16 0, .pt 24 0, .bot, .bot, .bot, .bot, .bot, .bot, .bot, .bot, .bot, .bot, .bot, .bot, .bot, .bot, .bot, .bot, .bot, .bot, .bot, .bot, .bot, .bot, .bot, .bot, .bot, .bot, Bo (eqI y3.1 2), .bot, .bot, .bot, .pt 80000 0, I y11.1, I (w64 (1 + y11.1)), .bot, .bot, .bot], [(24, .box [Ti y2.1.1, Ti y2.1.2.1, Ti y2.1.2.2.1, Ti y2.1.2.2.2]), (16, .box [Ti 0, Ti 0, Ti 0, Ti 0]), (80000, .pbox (σ 80000) [.sl (y11.2.1.map c5), Ti y11.2.2.1, .v (.int .u64 y11.2.2.2)])]⟩), (29, ⟨[.pt 80000 0, .bot, .pt 16 0, .pt 24 0, .bot, .bot, .bot, .bot, .bot, .bot, .bot, .bot, .bot, .bot, .bot, .bot, .bot, .bot, .bot, .bot, .bot, .bot, .bot, .bot, .bot, .bot, .bot, .bot, .bot, .bot, Bo (eqI y3.1 2), .bot, .pt 24 1, .bot, .pt 80000 0, I y11.1, I (w64 (1 + y11.1)), .bot, .bot, .bot], [(24, .box [Ti y2.1.1, Ti y2.1.2.1, Ti y2.1.2.2.1, Ti y2.1.2.2.2]), (16, .box [Ti 0, Ti 0, Ti 0, Ti 0]), (80000, .pbox (σ 80000) [.sl (y11.2.1.map c5), Ti y11.2.2.1, .v (.int .u64 y11.2.2.2)])]⟩), (31, ⟨[.pt 80000 0, .bot, .pt 16 0, .pt 24 0, .bot, .bot, .bot, .bot, .bot, .bot, .bot, .bot, .bot, .bot, .bot, .bot, .bot, .bot, .bot, .bot, .bot, .bot, .bot, .bot, .bot, .bot, .bot, .bot, .bot, .bot, Bo (eqI y3.1 2), .bot, .pt 24 1, I y2.1.2.1, .pt 80000 0, I y11.1, I (w64 (1 + y11.1)), .bot, .bot, .bot], [(24, .box [Ti y2.1.1, Ti y2.1.2.1, Ti y2.1.2.2.1, Ti y2.1.2.2.2]), (16, .box [Ti 0, Ti 0, Ti 0, Ti 0]), (80000, .pbox (σ 80000) [.sl (y11.2.1.map c5), Ti y11.2.2.1, .v (.int .u64 y11.2.2.2)])]⟩), (63, ⟨[.pt 80000 0, .bot, .pt 16 0, .pt 24 0, .bot, .bot, .bot, .bot, .bot, .bot, .bot, .bot, .bot, .bot, .bot, .bot, .bot, .bot, .bot, .bot, .bot, .bot, .bot, .bot, .bot, .bot, .bot, .bot, .bot, .bot, Bo (eqI y3.1 2), .bot, .pt 24 1, I y2.1.2.1, .pt 80000 0, I y11.1, I (w64 (1 + y11.1)), I (w64 (y2.1.2.1 + (w64 (1 + y11.1)))), .bot, .bot], [(24, .box [Ti y2.1.1, Ti y2.1.2.1, Ti y2.1.2.2.1, Ti y2.1.2.2.2]), (16, .box [Ti 0, Ti 0, Ti 0, Ti 0]), (80000, .pbox (σ 80000) [.sl (y11.2.1.map c5), Ti y11.2.2.1, .v (.int .u64 y11.2.2.2)])]⟩), (127, ⟨[.pt 80000 0, .bot, .pt 16 0, .pt 24 0, .bot, .bot, .bot, .bot, .bot, .bot, .bot, .bot, .bot, .bot, .bot, .bot, .bot, .bot, .bot, .bot, .bot, .bot, .bot, .bot, .bot, .bot, .bot, .bot, .bot, .bot, Bo (eqI y3.1 2), .bot, .pt 24 1, I y2.1.2.1, .pt 80000 0, I y11.1, I (w64 (1 + y11.1)), I (w64 (y2.1.2.1 + (w64 (1 + y11.1)))), .pt 24 1, .bot], [(24, .box [Ti y2.1.1, Ti y2.1.2.1, Ti y2.1.2.2.1, Ti y2.1.2.2.2]), (16, .box [Ti 0, Ti 0, Ti 0, Ti 0]), (80000, .pbox (σ 80000) [.sl (y11.2.1.map c5), Ti y11.2.2.1, .v (.int .u64 y11.2.2.2)])]⟩), (255, ⟨[.pt 80000 0, .bot, .pt 16 0, .pt 24 0, .bot, .bot, .bot, .bot, .bot, .bot, .bot, .bot, .bot, .bot, .bot, .bot, .bot, .bot, .bot, .bot, .bot, .bot, .bot, .bot, .bot, .bot, .bot, .bot, .bot, .bot, Bo (eqI y3.1 2), .bot, .pt 24 1, I y2.1.2.1, .pt 80000 0, I y11.1, I (w64 (1 + y11.1)), I (w64 (y2.1.2.1 + (w64 (1 + y11.1)))), .pt 24 1, .bot], [(24, .box [Ti y2.1.1, Ti (w64 (y2.1.2.1 + (w64 (1 + y11.1)))), Ti y2.1.2.2.1, Ti y2.1.2.2.2]), (16, .box [Ti 0, Ti 0, Ti 0, Ti 0]), (80000, .pbox (σ 80000) [.sl (y11.2.1.map c5), Ti y11.2.2.1, .v (.int .u64 y11.2.2.2)])]⟩)] (s1 := ⟨[.bot, .bot, .pt 16 0, .pt 24 0, .bot, .bot, .bot, .bot, .bot, .bot, .bot, .bot, .bot, .bot, .bot, .bot, .bot, .bot, .bot, .bot, .bot, .bot, .bot, .bot, .bot, .bot, .bot, .bot, .bot, .bot, .bot, .bot, .bot, .bot, .bot, .bot, .bot, .bot, .bot, .bot], [(24, .box [Ti y2.1.1, Ti f12, Ti y2.1.2.2.1, Ti y2.1.2.2.2]), (16, .box [Ti 0, Ti 0, Ti 0, Ti 0]), (80000, .pbox (σ 80000) [.sl (y11.2.1.map c5), Ti y11.2.2.1, .v (.int .u64 y11.2.2.2)])]⟩) (by kernel_rfl) (by kernel_rfl) (by kernel_rfl) ?_ ?_
        · refine tab_row [2, 0] (by kernel_rfl) (by kernel_rfl) ?_ ?_
          · refine step_cons (s2 := ⟨[.pt 80000 0, .bot, .pt 16 0, .pt 24 0, .bot, .bot, .bot, .bot, .bot, .bot, .bot, .bot, .bot, .bot, .bot, .bot, .bot, .bot, .bot, .bot, .bot, .bot, .bot, .bot, .bot, .bot, .bot, .bot, .bot, .bot, Bo (eqI y3.1 2), .bot, .bot, .bot, .pt 80000 0, .bot, .bot, .bot, .bot, .bot], [(24, .box [Ti y2.1.1, Ti y2.1.2.1, Ti y2.1.2.2.1, Ti y2.1.2.2.2]), (16, .box [Ti 0, Ti 0, Ti 0, Ti 0]), (80000, .pbox (σ 80000) [.sl (y3.2.1.map c5), Ti y3.2.2.1, .v (.int .u64 y3.2.2.2)])]⟩) rfl rfl (X_of_Y0 rfl (E_move (.pt 80000 0) rfl (by kernel_rfl))) (by kernel_rfl) rfl (hE_cons (by kernel_rfl) (hE_cons (by kernel_rfl) (hE_cons (by kernel_rfl) hE_nil))) ?_
            refine step_cons (s2 := ⟨[.pt 80000 0, .bot, .pt 16 0, .pt 24 0, .bot, .bot, .bot, .bot, .bot, .bot, .bot, .bot, .bot, .bot, .bot, .bot, .bot, .bot, .bot, .bot, .bot, .bot, .bot, .bot, .bot, .bot, .bot, .bot, .bot, .bot, Bo (eqI y3.1 2), .bot, .pt 24 1, .bot, .bot, .bot, .bot, .bot, .bot, .bot], [(24, .box [Ti y2.1.1, Ti y2.1.2.1, Ti y2.1.2.2.1, Ti y2.1.2.2.2]), (16, .box [Ti 0, Ti 0, Ti 0, Ti 0]), (80000, .pbox (σ 80000) [.sl (y3.2.1.map c5), Ti y3.2.2.1, .v (.int .u64 y3.2.2.2)])]⟩) rfl rfl (X_of_Y0 rfl (E_field (.pt 24 1) Try.underlying27 rfl sz3 rfl (by kernel_rfl) (by intro hh; cases hh))) (by kernel_rfl) rfl (hE_cons (by kernel_rfl) (hE_cons (by kernel_rfl) (hE_cons (by kernel_rfl) hE_nil))) ?_
            exact step_nil
          refine tab_row [2, 1] (by kernel_rfl) (by kernel_rfl) ?_ ?_
          · refine step_cons (s2 := ⟨[.pt 80000 0, .bot, .pt 16 0, .pt 24 0, .bot, .bot, .bot, .bot, .bot, .bot, .bot, .bot, .bot, .bot, .bot, .bot, .bot, .bot, .bot, .bot, .bot, .bot, .bot, .bot, .bot, .bot, .bot, .bot, .bot, .bot, Bo (eqI y3.1 2), .bot, .pt 24 1, .bot, .pt 80000 0, .bot, .bot, .bot, .bot, .bot], [(24, .box [Ti y2.1.1, Ti y2.1.2.1, Ti y2.1.2.2.1, Ti y2.1.2.2.2]), (16, .box [Ti 0, Ti 0, Ti 0, Ti 0]), (80000, .pbox (σ 80000) [.sl (y3.2.1.map c5), Ti y3.2.2.1, .v (.int .u64 y3.2.2.2)])]⟩) rfl rfl (X_of_Y0 rfl (E_move (.pt 80000 0) rfl (by kernel_rfl))) (by kernel_rfl) rfl (hE_cons (by kernel_rfl) (hE_cons (by kernel_rfl) (hE_cons (by kernel_rfl) hE_nil))) ?_
            refine step_cons (s2 := ⟨[.pt 80000 0, .bot, .pt 16 0, .pt 24 0, .bot, .bot, .bot, .bot, .bot, .bot, .bot, .bot, .bot, .bot, .bot, .bot, .bot, .bot, .bot, .bot, .bot, .bot, .bot, .bot, .bot, .bot, .bot, .bot, .bot, .bot, Bo (eqI y3.1 2), .bot, .pt 24 1, I y2.1.2.1, .bot, .bot, .bot, .bot, .bot, .bot], [(24, .box [Ti y2.1.1, Ti y2.1.2.1, Ti y2.1.2.2.1, Ti y2.1.2.2.2]), (16, .box [Ti 0, Ti 0, Ti 0, Ti 0]), (80000, .pbox (σ 80000) [.sl (y3.2.1.map c5), Ti y3.2.2.1, .v (.int .u64 y3.2.2.2)])]⟩) rfl rfl (X_of_Y0 rfl (Y0_load1 (c := Ti y2.1.2.1) (cs := [Ti y2.1.2.2.1, Ti y2.1.2.2.2]) sc3 rfl (by kernel_rfl))) (by kernel_rfl) rfl (hE_cons (by kernel_rfl) (hE_cons (by kernel_rfl) (hE_cons (by kernel_rfl) hE_nil))) ?_
            exact step_nil
          refine tab_row [2] (by kernel_rfl) (by kernel_rfl) ?_ ?_
          · refine step_cons (s2 := ⟨[.pt 80000 0, .bot, .pt 16 0, .pt 24 0, .bot, .bot, .bot, .bot, .bot, .bot, .bot, .bot, .bot, .bot, .bot, .bot, .bot, .bot, .bot, .bot, .bot, .bot, .bot, .bot, .bot, .bot, .bot, .bot, .bot, .bot, Bo (eqI y3.1 2), .bot, .pt 24 1, I y2.1.2.1, .pt 80000 0, .bot, .bot, .bot, .bot, .bot], [(24, .box [Ti y2.1.1, Ti y2.1.2.1, Ti y2.1.2.2.1, Ti y2.1.2.2.2]), (16, .box [Ti 0, Ti 0, Ti 0, Ti 0]), (80000, .pbox (σ 80000) [.sl (y3.2.1.map c5), Ti y3.2.2.1, .v (.int .u64 y3.2.2.2)])]⟩) rfl rfl (X_of_Y0 rfl (E_move (.pt 80000 0) rfl (by kernel_rfl))) (by kernel_rfl) rfl (hE_cons (by kernel_rfl) (hE_cons (by kernel_rfl) (hE_cons (by kernel_rfl) hE_nil))) ?_
            exact step_nil
          refine tab_row [3, 0] (by kernel_rfl) (by kernel_rfl) ?_ ?_
          · refine step_cons (s2 := ⟨[.pt 80000 0, .bot, .pt 16 0, .pt 24 0, .bot, .bot, .bot, .bot, .bot, .bot, .bot, .bot, .bot, .bot, .bot, .bot, .bot, .bot, .bot, .bot, .bot, .bot, .bot, .bot, .bot, .bot, .bot, .bot, .bot, .bot, Bo (eqI y3.1 2), .bot, .bot, .bot, .pt 80000 0, I y11.1, .bot, .bot, .bot, .bot], [(24, .box [Ti y2.1.1, Ti y2.1.2.1, Ti y2.1.2.2.1, Ti y2.1.2.2.2]), (16, .box [Ti 0, Ti 0, Ti 0, Ti 0]), (80000, .pbox (σ 80000) [.sl (y11.2.1.map c5), Ti y11.2.2.1, .v (.int .u64 y11.2.2.2)])]⟩) rfl rfl (X_callR (E' := [(24, .box [Ti y2.1.1, Ti y2.1.2.1, Ti y2.1.2.2.1, Ti y2.1.2.2.2]), (16, .box [Ti 0, Ti 0, Ti 0, Ti 0]), (80000, .pbox (σ 80000) [.sl (y11.2.1.map c5), Ti y11.2.2.1, .v (.int .u64 y11.2.2.2)])]) [(80000, 80000)] 35 (s_spec_l1Cur_pick hy11) cf_spec_l1Cur_pick rfl rfl (by kernel_rfl) rfl (mE_cons (by kernel_rfl) mE_nil) rfl (by kernel_rfl) rfl rfl (by kernel_rfl)) (by kernel_rfl) rfl (hE_cons (by kernel_rfl) (hE_cons (by kernel_rfl) (hE_cons (by kernel_rfl) hE_nil))) ?_
            refine step_cons (s2 := ⟨[.pt 80000 0, .bot, .pt 16 0, .pt 24 0, .bot, .bot, .bot, .bot, .bot, .bot, .bot, .bot, .bot, .bot, .bot, .bot, .bot, .bot, .bot, .bot, .bot, .bot, .bot, .bot, .bot, .bot, .bot, .bot, .bot, .bot, Bo (eqI y3.1 2), .bot, .pt 24 1, .bot, .pt 80000 0, .bot, .bot, .bot, .bot, .bot], [(24, .box [Ti y2.1.1, Ti y2.1.2.1, Ti y2.1.2.2.1, Ti y2.1.2.2.2]), (16, .box [Ti 0, Ti 0, Ti 0, Ti 0]), (80000, .pbox (σ 80000) [.sl (y3.2.1.map c5), Ti y3.2.2.1, .v (.int .u64 y3.2.2.2)])]⟩) rfl rfl (X_of_Y0 rfl (E_field (.pt 24 1) Try.underlying27 rfl sz3 rfl (by kernel_rfl) (by intro hh; cases hh))) (by kernel_rfl) rfl (hE_cons (by kernel_rfl) (hE_cons (by kernel_rfl) (hE_cons (by kernel_rfl) hE_nil))) ?_
            exact step_nil
          refine tab_row [3, 1] (by kernel_rfl) (by kernel_rfl) ?_ ?_
          · refine step_cons (s2 := ⟨[.pt 80000 0, .bot, .pt 16 0, .pt 24 0, .bot, .bot, .bot, .bot, .bot, .bot, .bot, .bot, .bot, .bot, .bot, .bot, .bot, .bot, .bot, .bot, .bot, .bot, .bot, .bot, .bot, .bot, .bot, .bot, .bot, .bot, Bo (eqI y3.1 2), .bot, .pt 24 1, .bot, .pt 80000 0, I y11.1, .bot, .bot, .bot, .bot], [(24, .box [Ti y2.1.1, Ti y2.1.2.1, Ti y2.1.2.2.1, Ti y2.1.2.2.2]), (16, .box [Ti 0, Ti 0, Ti 0, Ti 0]), (80000, .pbox (σ 80000) [.sl (y11.2.1.map c5), Ti y11.2.2.1, .v (.int .u64 y11.2.2.2)])]⟩) rfl rfl (X_callR (E' := [(24, .box [Ti y2.1.1, Ti y2.1.2.1, Ti y2.1.2.2.1, Ti y2.1.2.2.2]), (16, .box [Ti 0, Ti 0, Ti 0, Ti 0]), (80000, .pbox (σ 80000) [.sl (y11.2.1.map c5), Ti y11.2.2.1, .v (.int .u64 y11.2.2.2)])]) [(80000, 80000)] 35 (s_spec_l1Cur_pick hy11) cf_spec_l1Cur_pick rfl rfl (by kernel_rfl) rfl (mE_cons (by kernel_rfl) mE_nil) rfl (by kernel_rfl) rfl rfl (by kernel_rfl)) (by kernel_rfl) rfl (hE_cons (by kernel_rfl) (hE_cons (by kernel_rfl) (hE_cons (by kernel_rfl) hE_nil))) ?_
            refine step_cons (s2 := ⟨[.pt 80000 0, .bot, .pt 16 0, .pt 24 0, .bot, .bot, .bot, .bot, .bot, .bot, .bot, .bot, .bot, .bot, .bot, .bot, .bot, .bot, .bot, .bot, .bot, .bot, .bot, .bot, .bot, .bot, .bot, .bot, .bot, .bot, Bo (eqI y3.1 2), .bot, .pt 24 1, I y2.1.2.1, .pt 80000 0, .bot, .bot, .bot, .bot, .bot], [(24, .box [Ti y2.1.1, Ti y2.1.2.1, Ti y2.1.2.2.1, Ti y2.1.2.2.2]), (16, .box [Ti 0, Ti 0, Ti 0, Ti 0]), (80000, .pbox (σ 80000) [.sl (y3.2.1.map c5), Ti y3.2.2.1, .v (.int .u64 y3.2.2.2)])]⟩) rfl rfl (X_of_Y0 rfl (Y0_load1 (c := Ti y2.1.2.1) (cs := [Ti y2.1.2.2.1, Ti y2.1.2.2.2]) sc3 rfl (by kernel_rfl))) (by kernel_rfl) rfl (hE_cons (by kernel_rfl) (hE_cons (by kernel_rfl) (hE_cons (by kernel_rfl) hE_nil))) ?_
            exact step_nil
          refine tab_row [3] (by kernel_rfl) (by kernel_rfl) ?_ ?_
          · refine step_cons (s2 := ⟨[.pt 80000 0, .bot, .pt 16 0, .pt 24 0, .bot, .bot, .bot, .bot, .bot, .bot, .bot, .bot, .bot, .bot, .bot, .bot, .bot, .bot, .bot, .bot, .bot, .bot, .bot, .bot, .bot, .bot, .bot, .bot, .bot, .bot, Bo (eqI y3.1 2), .bot, .pt 24 1, I y2.1.2.1, .pt 80000 0, I y11.1, .bot, .bot, .bot, .bot], [(24, .box [Ti y2.1.1, Ti y2.1.2.1, Ti y2.1.2.2.1, Ti y2.1.2.2.2]), (16, .box [Ti 0, Ti 0, Ti 0, Ti 0]), (80000, .pbox (σ 80000) [.sl (y11.2.1.map c5), Ti y11.2.2.1, .v (.int .u64 y11.2.2.2)])]⟩) rfl rfl (X_callR (E' := [(24, .box [Ti y2.1.1, Ti y2.1.2.1, Ti y2.1.2.2.1, Ti y2.1.2.2.2]), (16, .box [Ti 0, Ti 0, Ti 0, Ti 0]), (80000, .pbox (σ 80000) [.sl (y11.2.1.map c5), Ti y11.2.2.1, .v (.int .u64 y11.2.2.2)])]) [(80000, 80000)] 35 (s_spec_l1Cur_pick hy11) cf_spec_l1Cur_pick rfl rfl (by kernel_rfl) rfl (mE_cons (by kernel_rfl) mE_nil) rfl (by kernel_rfl) rfl rfl (by kernel_rfl)) (by kernel_rfl) rfl (hE_cons (by kernel_rfl) (hE_cons (by kernel_rfl) (hE_cons (by kernel_rfl) hE_nil))) ?_
            exact step_nil
          refine tab_row [4, 0] (by kernel_rfl) (by kernel_rfl) ?_ ?_
          · refine step_cons (s2 := ⟨[.pt 80000 0, .bot, .pt 16 0, .pt 24 0, .bot, .bot, .bot, .bot, .bot, .bot, .bot, .bot, .bot, .bot, .bot, .bot, .bot, .bot, .bot, .bot, .bot, .bot, .bot, .bot, .bot, .bot, .bot, .bot, .bot, .bot, Bo (eqI y3.1 2), .bot, .bot, .bot, .pt 80000 0, I y11.1, I (w64 (1 + y11.1)), .bot, .bot, .bot], [(24, .box [Ti y2.1.1, Ti y2.1.2.1, Ti y2.1.2.2.1, Ti y2.1.2.2.2]), (16, .box [Ti 0, Ti 0, Ti 0, Ti 0]), (80000, .pbox (σ 80000) [.sl (y11.2.1.map c5), Ti y11.2.2.1, .v (.int .u64 y11.2.2.2)])]⟩) rfl rfl (X_of_Y0 rfl (Y0_add64 (a := 1) (b := y11.1) rfl (by kernel_rfl) (by kernel_rfl))) (by kernel_rfl) rfl (hE_cons (by kernel_rfl) (hE_cons (by kernel_rfl) (hE_cons (by kernel_rfl) hE_nil))) ?_
            refine step_cons (s2 := ⟨[.pt 80000 0, .bot, .pt 16 0, .pt 24 0, .bot, .bot, .bot, .bot, .bot, .bot, .bot, .bot, .bot, .bot, .bot, .bot, .bot, .bot, .bot, .bot, .bot, .bot, .bot, .bot, .bot, .bot, .bot, .bot, .bot, .bot, Bo (eqI y3.1 2), .bot, .pt 24 1, .bot, .pt 80000 0, I y11.1, .bot, .bot, .bot, .bot], [(24, .box [Ti y2.1.1, Ti y2.1.2.1, Ti y2.1.2.2.1, Ti y2.1.2.2.2]), (16, .box [Ti 0, Ti 0, Ti 0, Ti 0]), (80000, .pbox (σ 80000) [.sl (y11.2.1.map c5), Ti y11.2.2.1, .v (.int .u64 y11.2.2.2)])]⟩) rfl rfl (X_of_Y0 rfl (E_field (.pt 24 1) Try.underlying27 rfl sz3 rfl (by kernel_rfl) (by intro hh; cases hh))) (by kernel_rfl) rfl (hE_cons (by kernel_rfl) (hE_cons (by kernel_rfl) (hE_cons (by kernel_rfl) hE_nil))) ?_
            exact step_nil
          refine tab_row [4, 1] (by kernel_rfl) (by kernel_rfl) ?_ ?_
          · refine step_cons (s2 := ⟨[.pt 80000 0, .bot, .pt 16 0, .pt 24 0, .bot, .bot, .bot, .bot, .bot, .bot, .bot, .bot, .bot, .bot, .bot, .bot, .bot, .bot, .bot, .bot, .bot, .bot, .bot, .bot, .bot, .bot, .bot, .bot, .bot, .bot, Bo (eqI y3.1 2), .bot, .pt 24 1, .bot, .pt 80000 0, I y11.1, I (w64 (1 + y11.1)), .bot, .bot, .bot], [(24, .box [Ti y2.1.1, Ti y2.1.2.1, Ti y2.1.2.2.1, Ti y2.1.2.2.2]), (16, .box [Ti 0, Ti 0, Ti 0, Ti 0]), (80000, .pbox (σ 80000) [.sl (y11.2.1.map c5), Ti y11.2.2.1, .v (.int .u64 y11.2.2.2)])]⟩) rfl rfl (X_of_Y0 rfl (Y0_add64 (a := 1) (b := y11.1) rfl (by kernel_rfl) (by kernel_rfl))) (by kernel_rfl) rfl (hE_cons (by kernel_rfl) (hE_cons (by kernel_rfl) (hE_cons (by kernel_rfl) hE_nil))) ?_
            refine step_cons (s2 := ⟨[.pt 80000 0, .bot, .pt 16 0, .pt 24 0, .bot, .bot, .bot, .bot, .bot, .bot, .bot, .bot, .bot, .bot, .bot, .bot, .bot, .bot, .bot, .bot, .bot, .bot, .bot, .bot, .bot, .bot, .bot, .bot, .bot, .bot, Bo (eqI y3.1 2), .bot, .pt 24 1, I y2.1.2.1, .pt 80000 0, I y11.1, .bot, .bot, .bot, .bot], [(24, .box [Ti y2.1.1, Ti y2.1.2.1, Ti y2.1.2.2.1, Ti y2.1.2.2.2]), (16, .box [Ti 0, Ti 0, Ti 0, Ti 0]), (80000, .pbox (σ 80000) [.sl (y11.2.1.map c5), Ti y11.2.2.1, .v (.int .u64 y11.2.2.2)])]⟩) rfl rfl (X_of_Y0 rfl (Y0_load1 (c := Ti y2.1.2.1) (cs := [Ti y2.1.2.2.1, Ti y2.1.2.2.2]) sc3 rfl (by kernel_rfl))) (by kernel_rfl) rfl (hE_cons (by kernel_rfl) (hE_cons (by kernel_rfl) (hE_cons (by kernel_rfl) hE_nil))) ?_
            exact step_nil
          refine tab_row [4] (by kernel_rfl) (by kernel_rfl) ?_ ?_
          · refine step_cons (s2 := ⟨[.pt 80000 0, .bot, .pt 16 0, .pt 24 0, .bot, .bot, .bot, .bot, .bot, .bot, .bot, .bot, .bot, .bot, .bot, .bot, .bot, .bot, .bot, .bot, .bot, .bot, .bot, .bot, .bot, .bot, .bot, .bot, .bot, .bot, Bo (eqI y3.1 2), .bot, .pt 24 1, I y2.1.2.1, .pt 80000 0, I y11.1, I (w64 (1 + y11.1)), .bot, .bot, .bot], [(24, .box [Ti y2.1.1, Ti y2.1.2.1, Ti y2.1.2.2.1, Ti y2.1.2.2.2]), (16, .box [Ti 0, Ti 0, Ti 0, Ti 0]), (80000, .pbox (σ 80000) [.sl (y11.2.1.map c5), Ti y11.2.2.1, .v (.int .u64 y11.2.2.2)])]⟩) rfl rfl (X_of_Y0 rfl (Y0_add64 (a := 1) (b := y11.1) rfl (by kernel_rfl) (by kernel_rfl))) (by kernel_rfl) rfl (hE_cons (by kernel_rfl) (hE_cons (by kernel_rfl) (hE_cons (by kernel_rfl) hE_nil))) ?_
            exact step_nil
          refine tab_row [0] (by kernel_rfl) (by kernel_rfl) ?_ ?_
          · refine step_cons (s2 := ⟨[.pt 80000 0, .bot, .pt 16 0, .pt 24 0, .bot, .bot, .bot, .bot, .bot, .bot, .bot, .bot, .bot, .bot, .bot, .bot, .bot, .bot, .bot, .bot, .bot, .bot, .bot, .bot, .bot, .bot, .bot, .bot, .bot, .bot, Bo (eqI y3.1 2), .bot, .pt 24 1, .bot, .pt 80000 0, I y11.1, I (w64 (1 + y11.1)), .bot, .bot, .bot], [(24, .box [Ti y2.1.1, Ti y2.1.2.1, Ti y2.1.2.2.1, Ti y2.1.2.2.2]), (16, .box [Ti 0, Ti 0, Ti 0, Ti 0]), (80000, .pbox (σ 80000) [.sl (y11.2.1.map c5), Ti y11.2.2.1, .v (.int .u64 y11.2.2.2)])]⟩) rfl rfl (X_of_Y0 rfl (E_field (.pt 24 1) Try.underlying27 rfl sz3 rfl (by kernel_rfl) (by intro hh; cases hh))) (by kernel_rfl) rfl (hE_cons (by kernel_rfl) (hE_cons (by kernel_rfl) (hE_cons (by kernel_rfl) hE_nil))) ?_
            exact step_nil
          refine tab_row [1] (by kernel_rfl) (by kernel_rfl) ?_ ?_
          · refine step_cons (s2 := ⟨[.pt 80000 0, .bot, .pt 16 0, .pt 24 0, .bot, .bot, .bot, .bot, .bot, .bot, .bot, .bot, .bot, .bot, .bot, .bot, .bot, .bot, .bot, .bot, .bot, .bot, .bot, .bot, .bot, .bot, .bot, .bot, .bot, .bot, Bo (eqI y3.1 2), .bot, .pt 24 1, I y2.1.2.1, .pt 80000 0, I y11.1, I (w64 (1 + y11.1)), .bot, .bot, .bot], [(24, .box [Ti y2.1.1, Ti y2.1.2.1, Ti y2.1.2.2.1, Ti y2.1.2.2.2]), (16, .box [Ti 0, Ti 0, Ti 0, Ti 0]), (80000, .pbox (σ 80000) [.sl (y11.2.1.map c5), Ti y11.2.2.1, .v (.int .u64 y11.2.2.2)])]⟩) rfl rfl (X_of_Y0 rfl (Y0_load1 (c := Ti y2.1.2.1) (cs := [Ti y2.1.2.2.1, Ti y2.1.2.2.2]) sc3 rfl (by kernel_rfl))) (by kernel_rfl) rfl (hE_cons (by kernel_rfl) (hE_cons (by kernel_rfl) (hE_cons (by kernel_rfl) hE_nil))) ?_
            exact step_nil
          refine tab_row [5] (by kernel_rfl) (by kernel_rfl) ?_ ?_
          · refine step_cons (s2 := ⟨[.pt 80000 0, .bot, .pt 16 0, .pt 24 0, .bot, .bot, .bot, .bot, .bot, .bot, .bot, .bot, .bot, .bot, .bot, .bot, .bot, .bot, .bot, .bot, .bot, .bot, .bot, .bot, .bot, .bot, .bot, .bot, .bot, .bot, Bo (eqI y3.1 2), .bot, .pt 24 1, I y2.1.2.1, .pt 80000 0, I y11.1, I (w64 (1 + y11.1)), I (w64 (y2.1.2.1 + (w64 (1 + y11.1)))), .bot, .bot], [(24, .box [Ti y2.1.1, Ti y2.1.2.1, Ti y2.1.2.2.1, Ti y2.1.2.2.2]), (16, .box [Ti 0, Ti 0, Ti 0, Ti 0]), (80000, .pbox (σ 80000) [.sl (y11.2.1.map c5), Ti y11.2.2.1, .v (.int .u64 y11.2.2.2)])]⟩) rfl rfl (X_of_Y0 rfl (Y0_add64 (a := y2.1.2.1) (b := w64 (1 + y11.1)) rfl (by kernel_rfl) (by kernel_rfl))) (by kernel_rfl) rfl (hE_cons (by kernel_rfl) (hE_cons (by kernel_rfl) (hE_cons (by kernel_rfl) hE_nil))) ?_
            exact step_nil
          refine tab_row [6] (by kernel_rfl) (by kernel_rfl) ?_ ?_
          · refine step_cons (s2 := ⟨[.pt 80000 0, .bot, .pt 16 0, .pt 24 0, .bot, .bot, .bot, .bot, .bot, .bot, .bot, .bot, .bot, .bot, .bot, .bot, .bot, .bot, .bot, .bot, .bot, .bot, .bot, .bot, .bot, .bot, .bot, .bot, .bot, .bot, Bo (eqI y3.1 2), .bot, .pt 24 1, I y2.1.2.1, .pt 80000 0, I y11.1, I (w64 (1 + y11.1)), I (w64 (y2.1.2.1 + (w64 (1 + y11.1)))), .pt 24 1, .bot], [(24, .box [Ti y2.1.1, Ti y2.1.2.1, Ti y2.1.2.2.1, Ti y2.1.2.2.2]), (16, .box [Ti 0, Ti 0, Ti 0, Ti 0]), (80000, .pbox (σ 80000) [.sl (y11.2.1.map c5), Ti y11.2.2.1, .v (.int .u64 y11.2.2.2)])]⟩) rfl rfl (X_of_Y0 rfl (E_field (.pt 24 1) Try.underlying27 rfl sz3 rfl (by kernel_rfl) (by intro hh; cases hh))) (by kernel_rfl) rfl (hE_cons (by kernel_rfl) (hE_cons (by kernel_rfl) (hE_cons (by kernel_rfl) hE_nil))) ?_
            exact step_nil
          refine tab_row [7] (by kernel_rfl) (by kernel_rfl) ?_ ?_
          · refine step_cons (s2 := ⟨[.pt 80000 0, .bot, .pt 16 0, .pt 24 0, .bot, .bot, .bot, .bot, .bot, .bot, .bot, .bot, .bot, .bot, .bot, .bot, .bot, .bot, .bot, .bot, .bot, .bot, .bot, .bot, .bot, .bot, .bot, .bot, .bot, .bot, Bo (eqI y3.1 2), .bot, .pt 24 1, I y2.1.2.1, .pt 80000 0, I y11.1, I (w64 (1 + y11.1)), I (w64 (y2.1.2.1 + (w64 (1 + y11.1)))), .pt 24 1, .bot], [(24, .box [Ti y2.1.1, Ti (w64 (y2.1.2.1 + (w64 (1 + y11.1)))), Ti y2.1.2.2.1, Ti y2.1.2.2.2]), (16, .box [Ti 0, Ti 0, Ti 0, Ti 0]), (80000, .pbox (σ 80000) [.sl (y11.2.1.map c5), Ti y11.2.2.1, .v (.int .u64 y11.2.2.2)])]⟩) rfl rfl (E_store (id := 24) (off := 1) (cs := [Ti y2.1.1, Ti y2.1.2.1, Ti y2.1.2.2.1, Ti y2.1.2.2.2]) (vc := [Ti (w64 (y2.1.2.1 + (w64 (1 + y11.1))))]) [Ti y2.1.1, Ti (w64 (y2.1.2.1 + (w64 (1 + y11.1)))), Ti y2.1.2.2.1, Ti y2.1.2.2.2] rfl rfl (by kernel_rfl) (by kernel_rfl) (by kernel_rfl) sz3 (Nat.le_of_ble_eq_true rfl) (by kernel_rfl)) (by kernel_rfl) rfl (hE_cons (by kernel_rfl) (hE_cons (by kernel_rfl) (hE_cons (by kernel_rfl) hE_nil))) ?_
            exact step_nil
          refine tab_last (by kernel_rfl) ?_ tab_nil
          subst hf12
          kernel_rfl
        show V _ _ _ _
        refine V_sreg [false, false, true, false, false, false, false, false, false, false, false, false, false, false, false, false, false, false, false, false, false, false, false, false, false, false, false, false, false, false, false, false, false, false, false, false, false, false, false, false] [16, 80000] (s1 := ⟨[.bot, .bot, .pt 16 0, .bot, .bot, .bot, .bot, .bot, .bot, .bot, .bot, .bot, .bot, .bot, .bot, .bot, .bot, .bot, .bot, .bot, .bot, .bot, .bot, .bot, .bot, .bot, .bot, .bot, .bot, .bot, .bot, .bot, .bot, .bot, .bot, .bot, .bot, .bot, .bot, .bot], [(16, .box [Ti y2.1.1, Ti f12, Ti y2.1.2.2.1, Ti y2.1.2.2.2]), (80000, .pbox (σ 80000) [.sl (y11.2.1.map c5), Ti y11.2.2.1, .v (.int .u64 y11.2.2.2)])]⟩) ?_ ?_
        · refine XL_cons rfl (X_of_Y0 rfl (E_loadn (cs := [Ti y2.1.1, Ti f12, Ti y2.1.2.2.1, Ti y2.1.2.2.2]) [Ti y2.1.1, Ti f12, Ti y2.1.2.2.1, Ti y2.1.2.2.2] wd27 rfl (by kernel_rfl) (Nat.le_of_ble_eq_true rfl) (by kernel_rfl))) ?_
          refine XL_cons rfl (E_store (id := 16) (off := 0) (cs := [Ti 0, Ti 0, Ti 0, Ti 0]) (vc := [Ti y2.1.1, Ti f12, Ti y2.1.2.2.1, Ti y2.1.2.2.2]) [Ti y2.1.1, Ti f12, Ti y2.1.2.2.1, Ti y2.1.2.2.2] rfl rfl (by kernel_rfl) (by kernel_rfl) (by kernel_rfl) sz27 (Nat.le_of_ble_eq_true rfl) (by kernel_rfl)) ?_
          refine XL_nil ?_
          kernel_rfl
        refine V_ret ?_
        obtain rfl := some_inj h
        show PostR _ _ _ _ _ _
        exact ⟨⟨.inr rfl, rfl, rfl, rfl⟩, ⟨rfl, trivial⟩⟩
      · have h := of_false h hc10
        refine V_skip ?_
        show V _ _ _ _
        refine V_sreg [false, false, true, false, false, false, false, false, false, false, false, false, false, false, false, false, false, false, false, false, false, false, false, false, false, false, false, false, false, false, false, false, false, false, false, false, false, false, false, false] [16, 80000] (s1 := ⟨[.bot, .bot, .pt 16 0, .bot, .bot, .bot, .bot, .bot, .bot, .bot, .bot, .bot, .bot, .bot, .bot, .bot, .bot, .bot, .bot, .bot, .bot, .bot, .bot, .bot, .bot, .bot, .bot, .bot, .bot, .bot, .bot, .bot, .bot, .bot, .bot, .bot, .bot, .bot, .bot, .bot], [(16, .box [Ti y2.1.1, Ti y2.1.2.1, Ti y2.1.2.2.1, Ti y2.1.2.2.2]), (80000, .pbox (σ 80000) [.sl (y3.2.1.map c5), Ti y3.2.2.1, .v (.int .u64 y3.2.2.2)])]⟩) ?_ ?_
        · refine XL_cons rfl (X_of_Y0 rfl (E_loadn (cs := [Ti y2.1.1, Ti y2.1.2.1, Ti y2.1.2.2.1, Ti y2.1.2.2.2]) [Ti y2.1.1, Ti y2.1.2.1, Ti y2.1.2.2.1, Ti y2.1.2.2.2] wd27 rfl (by kernel_rfl) (Nat.le_of_ble_eq_true rfl) (by kernel_rfl))) ?_
          refine XL_cons rfl (E_store (id := 16) (off := 0) (cs := [Ti 0, Ti 0, Ti 0, Ti 0]) (vc := [Ti y2.1.1, Ti y2.1.2.1, Ti y2.1.2.2.1, Ti y2.1.2.2.2]) [Ti y2.1.1, Ti y2.1.2.1, Ti y2.1.2.2.1, Ti y2.1.2.2.2] rfl rfl (by kernel_rfl) (by kernel_rfl) (by kernel_rfl) sz27 (Nat.le_of_ble_eq_true rfl) (by kernel_rfl)) ?_
          refine XL_nil ?_
          kernel_rfl
        refine V_ret ?_
        obtain rfl := some_inj h
        show PostR _ _ _ _ _ _
        exact ⟨⟨.inr rfl, rfl, rfl, rfl⟩, ⟨rfl, trivial⟩⟩
theorem cf_spec_DrawSubstitute : ∀ args w, (callFunc 16 args).run Try.prog w = .ok (.enter 16 args) w := run_callFunc Try.func16 (by kernel_rfl) (by kernel_rfl)
set_option maxRecDepth 100000 in
set_option maxHeartbeats 400000 in
theorem s_spec_DrawSubstitute {code1 : List Int} {r : (((Int × Int × Int)) × ((Int × Int × Int × Int)))} (h : r_spec_DrawSubstitute code1 = some r) : CallS Try.prog 16 [.c (.sl (code1.map c5))] (.tc (.ag [Ti r.1.1, Ti r.1.2.1, Ti r.1.2.2]) (.tc (.ag [Ti r.2.1, Ti r.2.2.1, Ti r.2.2.2.1, Ti r.2.2.2.2]) .tn)) [] := by
  refine CallS_of_text (rs := [.w 2 3, .w 3 4]) (vs := [.cell 2 25, .cell 3 27]) Try.func16 rfl rfl (.cons ⟨rfl, wd25⟩ (.cons ⟨rfl, wd27⟩ FitsL.nil)) (by decide) 14 rfl ?_
  unfold r_spec_DrawSubstitute at h
  show V _ _ ⟨[.c (.sl (code1.map c5)), .bot, .bot, .bot, .bot, .bot, .bot, .bot, .bot, .bot, .bot, .bot, .bot, .bot], []⟩ _
  refine V_sreg [true, false, true, true, false, false, false, false, false, false, false, false, false, false] [24, 16] (s1 := ⟨[.c (.sl (code1.map c5)), .bot, .pt 16 0, .pt 24 0, .bot, .bot, .bot, .bot, .bot, .bot, .bot, .bot, .bot, .bot], [(24, .box [Ti 0, Ti 0, Ti 0, Ti 0]), (16, .box [Ti 0, Ti 0, Ti 0])]⟩) ?_ ?_
  · refine XL_cons rfl (X_of_Y1 rfl (Y1_alloc (z := zv25) rfl zf25 rfl)) ?_
    refine XL_cons rfl (X_of_Y1 rfl (Y1_alloc (z := zv27) rfl zf27 rfl)) ?_
    refine XL_nil ?_
    kernel_rfl
  refine V_sreg [false, false, true, true, true, false, false, false, false, false, false, false, false, false] [64, 24, 16] (s1 := ⟨[.bot, .bot, .pt 16 0, .pt 24 0, .pt 64 0, .bot, .bot, .bot, .bot, .bot, .bot, .bot, .bot, .bot], [(64, .box [.sl (code1.map c5), Ti 0, .v (.int .u64 0)]), (24, .box [Ti 0, Ti 0, Ti 0, Ti 0]), (16, .box [Ti 0, Ti 0, Ti 0])]⟩) ?_ ?_
  · refine XL_cons rfl (X_of_Y0 rfl (E_move (.c (.sl (code1.map c5))) rfl (by kernel_rfl))) ?_
    refine XL_cons rfl (X_of_Y0 rfl (Y0_build (cs := [.sl (code1.map c5), Ti 0, .v (.int .u64 0)]) pl100 bt100 rfl rfl (by kernel_rfl))) ?_
    refine XL_cons rfl (X_of_Y1 rfl (Y1_box (cs := [.sl (code1.map c5), Ti 0, .v (.int .u64 0)]) rfl (by kernel_rfl))) ?_
    refine XL_cons rfl (X_of_Y0 rfl (E_assign (.pt 64 0) rfl (by kernel_rfl))) ?_
    refine XL_nil ?_
    kernel_rfl
  obtain ⟨y2, hy2, h⟩ := of_bind h
  refine V_sreg [false, false, true, true, true, true, false, false, false, false, false, false, false, false] [40, 64, 24, 16] (s1 := ⟨[.bot, .bot, .pt 16 0, .pt 24 0, .pt 64 0, .pt 40 0, .bot, .bot, .bot, .bot, .bot, .bot, .bot, .bot], [(40, .box [Ti y2.1.1, Ti y2.1.2.1, Ti y2.1.2.2]), (64, .box [.sl (y2.2.1.map c5), Ti y2.2.2.1, .v (.int .u64 y2.2.2.2)]), (24, .box [Ti 0, Ti 0, Ti 0, Ti 0]), (16, .box [Ti 0, Ti 0, Ti 0])]⟩) ?_ ?_
  · refine XL_cons rfl (X_of_Y0 rfl (E_move (.pt 64 0) rfl (by kernel_rfl))) ?_
    refine XL_cons rfl (X_callR (E' := [(64, .box [.sl (y2.2.1.map c5), Ti y2.2.2.1, .v (.int .u64 y2.2.2.2)]), (24, .box [Ti 0, Ti 0, Ti 0, Ti 0]), (16, .box [Ti 0, Ti 0, Ti 0])]) [(80000, 64)] 10 (s_spec_l1Cur_form hy2) cf_spec_l1Cur_form rfl rfl (by kernel_rfl) rfl (mE_cons (by kernel_rfl) mE_nil) rfl (by kernel_rfl) rfl rfl (by kernel_rfl)) ?_
    refine XL_cons rfl (X_of_Y1 rfl (Y1_alloc (z := zv25) rfl zf25 rfl)) ?_
    refine XL_cons rfl (E_store (id := 40) (off := 0) (cs := [Ti 0, Ti 0, Ti 0]) (vc := [Ti y2.1.1, Ti y2.1.2.1, Ti y2.1.2.2]) [Ti y2.1.1, Ti y2.1.2.1, Ti y2.1.2.2] rfl rfl (by kernel_rfl) (by kernel_rfl) (by kernel_rfl) sz25 (Nat.le_of_ble_eq_true rfl) (by kernel_rfl)) ?_
    refine XL_nil ?_
    kernel_rfl
  obtain ⟨y3, hy3, h⟩ := of_bind h
  refine V_sdagK [false, false, true, true, false, false, false, false, false, false, false, false, false, false] [24, 16] [0, 0, 2, 7, 15] [(0, ⟨[.bot, .bot, .pt 16 0, .pt 24 0, .pt 64 0, .pt 40 0, .bot, .bot, .bot, .bot, .bot, .bot, .bot, .bot], [(40, .box [Ti y2.1.1, Ti y2.1.2.1, Ti y2.1.2.2]), (64, .box [.sl (y2.2.1.map c5), Ti y2.2.2.1, .v (.int .u64 y2.2.2.2)]), (24, .box [Ti 0, Ti 0, Ti 0, Ti 0]), (16, .box [Ti 0, Ti 0, Ti 0])]⟩), (1, ⟨[.bot, .bot, .pt 16 0, .pt 24 0, .pt 64 0, .pt 40 0, .bot, .bot, .bot, .bot, .bot, .ag [Ti y2.1.1, Ti y2.1.2.1, Ti y2.1.2.2], .bot, .bot], [(40, .box [Ti y2.1.1, Ti y2.1.2.1, Ti y2.1.2.2]), (64, .box [.sl (y2.2.1.map c5), Ti y2.2.2.1, .v (.int .u64 y2.2.2.2)]), (24, .box [Ti 0, Ti 0, Ti 0, Ti 0]), (16, .box [Ti 0, Ti 0, Ti 0])]⟩), (2, ⟨[.bot, .bot, .pt 16 0, .pt 24 0, .pt 64 0, .pt 40 0, .bot, .bot, .bot, .bot, .bot, .bot, .pt 64 0, .bot], [(40, .box [Ti y2.1.1, Ti y2.1.2.1, Ti y2.1.2.2]), (64, .box [.sl (y2.2.1.map c5), Ti y2.2.2.1, .v (.int .u64 y2.2.2.2)]), (24, .box [Ti 0, Ti 0, Ti 0, Ti 0]), (16, .box [Ti 0, Ti 0, Ti 0])]⟩), (3, ⟨[.bot, .bot, .pt 16 0, .pt 24 0, .pt 64 0, .pt 40 0, .bot, .bot, .bot, .bot, .bot, .ag [Ti y2.1.1, Ti y2.1.2.1, Ti y2.1.2.2], .pt 64 0, .bot], [(40, .box [Ti y2.1.1, Ti y2.1.2.1, Ti y2.1.2.2]), (64, .box [.sl (y2.2.1.map c5), Ti y2.2.2.1, .v (.int .u64 y2.2.2.2)]), (24, .box [Ti 0, Ti 0, Ti 0, Ti 0]), (16, .box [Ti 0, Ti 0, Ti 0])]⟩), (6, ⟨[.bot, .bot, .pt 16 0, .pt 24 0, .pt 64 0, .pt 40 0, .bot, .bot, .bot, .bot, .bot, .bot, .pt 64 0, .ag [Ti y3.1.1, Ti y3.1.2.1, Ti y3.1.2.2.1, Ti y3.1.2.2.2]], [(40, .box [Ti y2.1.1, Ti y2.1.2.1, Ti y2.1.2.2]), (64, .box [.sl (y3.2.1.map c5), Ti y3.2.2.1, .v (.int .u64 y3.2.2.2)]), (24, .box [Ti 0, Ti 0, Ti 0, Ti 0]), (16, .box [Ti 0, Ti 0, Ti 0])]⟩), (7, ⟨[.bot, .bot, .pt 16 0, .pt 24 0, .pt 64 0, .pt 40 0, .bot, .bot, .bot, .bot, .bot, .ag [Ti y2.1.1, Ti y2.1.2.1, Ti y2.1.2.2], .pt 64 0, .ag [Ti y3.1.1, Ti y3.1.2.1, Ti y3.1.2.2.1, Ti y3.1.2.2.2]], [(40, .box [Ti y2.1.1, Ti y2.1.2.1, Ti y2.1.2.2]), (64, .box [.sl (y3.2.1.map c5), Ti y3.2.2.1, .v (.int .u64 y3.2.2.2)]), (24, .box [Ti 0, Ti 0, Ti 0, Ti 0]), (16, .box [Ti 0, Ti 0, Ti 0])]⟩), (15, ⟨[.bot, .bot, .pt 16 0, .pt 24 0, .pt 64 0, .pt 40 0, .bot, .bot, .bot, .bot, .bot, .ag [Ti y2.1.1, Ti y2.1.2.1, Ti y2.1.2.2], .pt 64 0, .ag [Ti y3.1.1, Ti y3.1.2.1, Ti y3.1.2.2.1, Ti y3.1.2.2.2]], [(40, .box [Ti y2.1.1, Ti y2.1.2.1, Ti y2.1.2.2]), (64, .box [.sl (y3.2.1.map c5), Ti y3.2.2.1, .v (.int .u64 y3.2.2.2)]), (24, .box [Ti 0, Ti 0, Ti 0, Ti 0]), (16, .box [Ti y2.1.1, Ti y2.1.2.1, Ti y2.1.2.2])]⟩), (31, ⟨[.bot, .bot, .pt 16 0, .pt 24 0, .pt 64 0, .pt 40 0, .bot, .bot, .bot, .bot, .bot, .ag [Ti y2.1.1, Ti y2.1.2.1, Ti y2.1.2.2], .pt 64 0, .ag [Ti y3.1.1, Ti y3.1.2.1, Ti y3.1.2.2.1, Ti y3.1.2.2.2]], [(40, .box [Ti y2.1.1, Ti y2.1.2.1, Ti y2.1.2.2]), (64, .box [.sl (y3.2.1.map c5), Ti y3.2.2.1, .v (.int .u64 y3.2.2.2)]), (24, .box [Ti y3.1.1, Ti y3.1.2.1, Ti y3.1.2.2.1, Ti y3.1.2.2.2]), (16, .box [Ti y2.1.1, Ti y2.1.2.1, Ti y2.1.2.2])]⟩)] (s1 := ⟨[.bot, .bot, .pt 16 0, .pt 24 0, .bot, .bot, .bot, .bot, .bot, .bot, .bot, .bot, .bot, .bot], [(24, .box [Ti y3.1.1, Ti y3.1.2.1, Ti y3.1.2.2.1, Ti y3.1.2.2.2]), (16, .box [Ti y2.1.1, Ti y2.1.2.1, Ti y2.1.2.2])]⟩) (by kernel_rfl) (by kernel_rfl) (by kernel_rfl) ?_ ?_
  · refine tab_row [1, 0] (by kernel_rfl) (by kernel_rfl) ?_ ?_
    · refine step_cons (s2 := ⟨[.bot, .bot, .pt 16 0, .pt 24 0, .pt 64 0, .pt 40 0, .bot, .bot, .bot, .bot, .bot, .bot, .pt 64 0, .bot], [(40, .box [Ti y2.1.1, Ti y2.1.2.1, Ti y2.1.2.2]), (64, .box [.sl (y2.2.1.map c5), Ti y2.2.2.1, .v (.int .u64 y2.2.2.2)]), (24, .box [Ti 0, Ti 0, Ti 0, Ti 0]), (16, .box [Ti 0, Ti 0, Ti 0])]⟩) rfl rfl (X_of_Y0 rfl (E_move (.pt 64 0) rfl (by kernel_rfl))) (by kernel_rfl) rfl (hE_cons (by kernel_rfl) (hE_cons (by kernel_rfl) (hE_cons (by kernel_rfl) (hE_cons (by kernel_rfl) hE_nil)))) ?_
      refine step_cons (s2 := ⟨[.bot, .bot, .pt 16 0, .pt 24 0, .pt 64 0, .pt 40 0, .bot, .bot, .bot, .bot, .bot, .ag [Ti y2.1.1, Ti y2.1.2.1, Ti y2.1.2.2], .bot, .bot], [(40, .box [Ti y2.1.1, Ti y2.1.2.1, Ti y2.1.2.2]), (64, .box [.sl (y2.2.1.map c5), Ti y2.2.2.1, .v (.int .u64 y2.2.2.2)]), (24, .box [Ti 0, Ti 0, Ti 0, Ti 0]), (16, .box [Ti 0, Ti 0, Ti 0])]⟩) rfl rfl (X_of_Y0 rfl (E_loadn (cs := [Ti y2.1.1, Ti y2.1.2.1, Ti y2.1.2.2]) [Ti y2.1.1, Ti y2.1.2.1, Ti y2.1.2.2] wd25 rfl (by kernel_rfl) (Nat.le_of_ble_eq_true rfl) (by kernel_rfl))) (by kernel_rfl) rfl (hE_cons (by kernel_rfl) (hE_cons (by kernel_rfl) (hE_cons (by kernel_rfl) (hE_cons (by kernel_rfl) hE_nil)))) ?_
      exact step_nil
    refine tab_row [1] (by kernel_rfl) (by kernel_rfl) ?_ ?_
    · refine step_cons (s2 := ⟨[.bot, .bot, .pt 16 0, .pt 24 0, .pt 64 0, .pt 40 0, .bot, .bot, .bot, .bot, .bot, .ag [Ti y2.1.1, Ti y2.1.2.1, Ti y2.1.2.2], .pt 64 0, .bot], [(40, .box [Ti y2.1.1, Ti y2.1.2.1, Ti y2.1.2.2]), (64, .box [.sl (y2.2.1.map c5), Ti y2.2.2.1, .v (.int .u64 y2.2.2.2)]), (24, .box [Ti 0, Ti 0, Ti 0, Ti 0]), (16, .box [Ti 0, Ti 0, Ti 0])]⟩) rfl rfl (X_of_Y0 rfl (E_move (.pt 64 0) rfl (by kernel_rfl))) (by kernel_rfl) rfl (hE_cons (by kernel_rfl) (hE_cons (by kernel_rfl) (hE_cons (by kernel_rfl) (hE_cons (by kernel_rfl) hE_nil)))) ?_
      exact step_nil
    refine tab_row [2, 0] (by kernel_rfl) (by kernel_rfl) ?_ ?_
    · refine step_cons (s2 := ⟨[.bot, .bot, .pt 16 0, .pt 24 0, .pt 64 0, .pt 40 0, .bot, .bot, .bot, .bot, .bot, .bot, .pt 64 0, .ag [Ti y3.1.1, Ti y3.1.2.1, Ti y3.1.2.2.1, Ti y3.1.2.2.2]], [(40, .box [Ti y2.1.1, Ti y2.1.2.1, Ti y2.1.2.2]), (64, .box [.sl (y3.2.1.map c5), Ti y3.2.2.1, .v (.int .u64 y3.2.2.2)]), (24, .box [Ti 0, Ti 0, Ti 0, Ti 0]), (16, .box [Ti 0, Ti 0, Ti 0])]⟩) rfl rfl (X_callR (E' := [(40, .box [Ti y2.1.1, Ti y2.1.2.1, Ti y2.1.2.2]), (64, .box [.sl (y3.2.1.map c5), Ti y3.2.2.1, .v (.int .u64 y3.2.2.2)]), (24, .box [Ti 0, Ti 0, Ti 0, Ti 0]), (16, .box [Ti 0, Ti 0, Ti 0])]) [(80000, 64)] 13 (s_spec_l1Cur_matrix hy3) cf_spec_l1Cur_matrix rfl rfl (by kernel_rfl) rfl (mE_cons (by kernel_rfl) mE_nil) rfl (by kernel_rfl) rfl rfl (by kernel_rfl)) (by kernel_rfl) rfl (hE_cons (by kernel_rfl) (hE_cons (by kernel_rfl) (hE_cons (by kernel_rfl) (hE_cons (by kernel_rfl) hE_nil)))) ?_
      refine step_cons (s2 := ⟨[.bot, .bot, .pt 16 0, .pt 24 0, .pt 64 0, .pt 40 0, .bot, .bot, .bot, .bot, .bot, .ag [Ti y2.1.1, Ti y2.1.2.1, Ti y2.1.2.2], .pt 64 0, .bot], [(40, .box [Ti y2.1.1, Ti y2.1.2.1, Ti y2.1.2.2]), (64, .box [.sl (y2.2.1.map c5), Ti y2.2.2.1, .v (.int .u64 y2.2.2.2)]), (24, .box [Ti 0, Ti 0, Ti 0, Ti 0]), (16, .box [Ti 0, Ti 0, Ti 0])]⟩) rfl rfl (X_of_Y0 rfl (E_loadn (cs := [Ti y2.1.1, Ti y2.1.2.1, Ti y2.1.2.2]) [Ti y2.1.1, Ti y2.1.2.1, Ti y2.1.2.2] wd25 rfl (by kernel_rfl) (Nat.le_of_ble_eq_true rfl) (by kernel_rfl))) (by kernel_rfl) rfl (hE_cons (by kernel_rfl) (hE_cons (by kernel_rfl) (hE_cons (by kernel_rfl) (hE_cons (by kernel_rfl) hE_nil)))) ?_
      exact step_nil
    refine tab_row [2] (by kernel_rfl) (by kernel_rfl) ?_ ?_
    · refine step_cons (s2 := ⟨[.bot, .bot, .pt 16 0, .pt 24 0, .pt 64 0, .pt 40 0, .bot, .bot, .bot, .bot, .bot, .ag [Ti y2.1.1, Ti y2.1.2.1, Ti y2.1.2.2], .pt 64 0, .ag [Ti y3.1.1, Ti y3.1.2.1, Ti y3.1.2.2.1, Ti y3.1.2.2.2]], [(40, .box [Ti y2.1.1, Ti y2.1.2.1, Ti y2.1.2.2]), (64, .box [.sl (y3.2.1.map c5), Ti y3.2.2.1, .v (.int .u64 y3.2.2.2)]), (24, .box [Ti 0, Ti 0, Ti 0, Ti 0]), (16, .box [Ti 0, Ti 0, Ti 0])]⟩) rfl rfl (X_callR (E' := [(40, .box [Ti y2.1.1, Ti y2.1.2.1, Ti y2.1.2.2]), (64, .box [.sl (y3.2.1.map c5), Ti y3.2.2.1, .v (.int .u64 y3.2.2.2)]), (24, .box [Ti 0, Ti 0, Ti 0, Ti 0]), (16, .box [Ti 0, Ti 0, Ti 0])]) [(80000, 64)] 13 (s_spec_l1Cur_matrix hy3) cf_spec_l1Cur_matrix rfl rfl (by kernel_rfl) rfl (mE_cons (by kernel_rfl) mE_nil) rfl (by kernel_rfl) rfl rfl (by kernel_rfl)) (by kernel_rfl) rfl (hE_cons (by kernel_rfl) (hE_cons (by kernel_rfl) (hE_cons (by kernel_rfl) (hE_cons (by kernel_rfl) hE_nil)))) ?_
      exact step_nil
    refine tab_row [0] (by kernel_rfl) (by kernel_rfl) ?_ ?_
    · refine step_cons (s2 := ⟨[.bot, .bot, .pt 16 0, .pt 24 0, .pt 64 0, .pt 40 0, .bot, .bot, .bot, .bot, .bot, .ag [Ti y2.1.1, Ti y2.1.2.1, Ti y2.1.2.2], .pt 64 0, .ag [Ti y3.1.1, Ti y3.1.2.1, Ti y3.1.2.2.1, Ti y3.1.2.2.2]], [(40, .box [Ti y2.1.1, Ti y2.1.2.1, Ti y2.1.2.2]), (64, .box [.sl (y3.2.1.map c5), Ti y3.2.2.1, .v (.int .u64 y3.2.2.2)]), (24, .box [Ti 0, Ti 0, Ti 0, Ti 0]), (16, .box [Ti 0, Ti 0, Ti 0])]⟩) rfl rfl (X_of_Y0 rfl (E_loadn (cs := [Ti y2.1.1, Ti y2.1.2.1, Ti y2.1.2.2]) [Ti y2.1.1, Ti y2.1.2.1, Ti y2.1.2.2] wd25 rfl (by kernel_rfl) (Nat.le_of_ble_eq_true rfl) (by kernel_rfl))) (by kernel_rfl) rfl (hE_cons (by kernel_rfl) (hE_cons (by kernel_rfl) (hE_cons (by kernel_rfl) (hE_cons (by kernel_rfl) hE_nil)))) ?_
      exact step_nil
    refine tab_row [3] (by kernel_rfl) (by kernel_rfl) ?_ ?_
    · refine step_cons (s2 := ⟨[.bot, .bot, .pt 16 0, .pt 24 0, .pt 64 0, .pt 40 0, .bot, .bot, .bot, .bot, .bot, .ag [Ti y2.1.1, Ti y2.1.2.1, Ti y2.1.2.2], .pt 64 0, .ag [Ti y3.1.1, Ti y3.1.2.1, Ti y3.1.2.2.1, Ti y3.1.2.2.2]], [(40, .box [Ti y2.1.1, Ti y2.1.2.1, Ti y2.1.2.2]), (64, .box [.sl (y3.2.1.map c5), Ti y3.2.2.1, .v (.int .u64 y3.2.2.2)]), (24, .box [Ti 0, Ti 0, Ti 0, Ti 0]), (16, .box [Ti y2.1.1, Ti y2.1.2.1, Ti y2.1.2.2])]⟩) rfl rfl (E_store (id := 16) (off := 0) (cs := [Ti 0, Ti 0, Ti 0]) (vc := [Ti y2.1.1, Ti y2.1.2.1, Ti y2.1.2.2]) [Ti y2.1.1, Ti y2.1.2.1, Ti y2.1.2.2] rfl rfl (by kernel_rfl) (by kernel_rfl) (by kernel_rfl) sz25 (Nat.le_of_ble_eq_true rfl) (by kernel_rfl)) (by kernel_rfl) rfl (hE_cons (by kernel_rfl) (hE_cons (by kernel_rfl) (hE_cons (by kernel_rfl) (hE_cons (by kernel_rfl) hE_nil)))) ?_
      exact step_nil
    refine tab_row [4] (by kernel_rfl) (by kernel_rfl) ?_ ?_
    · refine step_cons (s2 := ⟨[.bot, .bot, .pt 16 0, .pt 24 0, .pt 64 0, .pt 40 0, .bot, .bot, .bot, .bot, .bot, .ag [Ti y2.1.1, Ti y2.1.2.1, Ti y2.1.2.2], .pt 64 0, .ag [Ti y3.1.1, Ti y3.1.2.1, Ti y3.1.2.2.1, Ti y3.1.2.2.2]], [(40, .box [Ti y2.1.1, Ti y2.1.2.1, Ti y2.1.2.2]), (64, .box [.sl (y3.2.1.map c5), Ti y3.2.2.1, .v (.int .u64 y3.2.2.2)]), (24, .box [Ti y3.1.1, Ti y3.1.2.1, Ti y3.1.2.2.1, Ti y3.1.2.2.2]), (16, .box [Ti y2.1.1, Ti y2.1.2.1, Ti y2.1.2.2])]⟩) rfl rfl (E_store (id := 24) (off := 0) (cs := [Ti 0, Ti 0, Ti 0, Ti 0]) (vc := [Ti y3.1.1, Ti y3.1.2.1, Ti y3.1.2.2.1, Ti y3.1.2.2.2]) [Ti y3.1.1, Ti y3.1.2.1, Ti y3.1.2.2.1, Ti y3.1.2.2.2] rfl rfl (by kernel_rfl) (by kernel_rfl) (by kernel_rfl) sz27 (Nat.le_of_ble_eq_true rfl) (by kernel_rfl)) (by kernel_rfl) rfl (hE_cons (by kernel_rfl) (hE_cons (by kernel_rfl) (hE_cons (by kernel_rfl) (hE_cons (by kernel_rfl) hE_nil)))) ?_
      exact step_nil
    refine tab_last (by kernel_rfl) ?_ tab_nil
    kernel_rfl
  refine V_ret ?_
  obtain rfl := some_inj h
  show Post _ _ _ _ _
  exact ⟨.inr rfl, rfl, rfl, rfl⟩
theorem cf_impl_areNumbers : ∀ args w, (callFunc 133 args).run Try.prog w = .ok (.enter 133 args) w := run_callFunc Try.func133 (by kernel_rfl) (by kernel_rfl)
set_option maxRecDepth 100000 in
set_option maxHeartbeats 400000 in
theorem s_impl_areNumbers {list1 : List Int} {r : Bool} (h : r_impl_areNumbers list1 = some r) : CallS Try.prog 133 [.c (.sl (list1.map c3))] (Bo r) [] := by
  refine CallS_of_text (rs := [.t 2]) (vs := [.tmp 2]) Try.func133 rfl rfl (.cons rfl FitsL.nil) (by decide) 18 rfl ?_
  unfold r_impl_areNumbers at h
  show V _ _ ⟨[.c (.sl (list1.map c3)), .bot, .bot, .bot, .bot, .bot, .bot, .bot, .bot, .bot, .bot, .bot, .bot, .bot, .bot, .bot, .bot, .bot], []⟩ _
  refine V_sreg [true, false, false, false, false, false, false, false, false, false, false, false, false, false, false, false, false, false] [] (s1 := ⟨[.c (.sl (list1.map c3)), .bot, .bot, .bot, .bot, .bot, .bot, .bot, .bot, .bot, .bot, .bot, .bot, .bot, .bot, .bot, .bot, .bot], []⟩) ?_ ?_
  · refine XL_cons rfl (X_of_Y0 rfl (E_assign (Bo false) rfl (by kernel_rfl))) ?_
    refine XL_nil ?_
    kernel_rfl
  refine V_seq ?_
  refine V_sreg [false, false, false, false, false, true, true, true, false, false, false, false, false, false, false, false, false, false] [] (s1 := ⟨[.bot, .bot, .bot, .bot, .bot, .c (.sl (list1.map c3)), I ((list1.length : Int)), I 0, .bot, .bot, .bot, .bot, .bot, .bot, .bot, .bot, .bot, .bot], []⟩) ?_ ?_
  · refine XL_cons rfl (X_of_Y0 rfl (E_move (.c (.sl (list1.map c3))) rfl (by kernel_rfl))) ?_
    refine XL_cons rfl (X_of_Y0 rfl (Y0_lenM (c := c3) (xs := list1) Try.underlying53 rfl (by kernel_rfl))) ?_
    refine XL_cons rfl (X_of_Y0 rfl (E_move (I 0) rfl (by kernel_rfl))) ?_
    refine XL_nil ?_
    kernel_rfl
  obtain ⟨qo4, hLo4, hko4⟩ := of_bind h
  refine V_toS (q := qo4) (S := fun o4 => ⟨[.bot, .bot, .bot, .bot, .bot, .bot, .bot, .bot, .bot, .bot, .bot, .bot, .bot, .bot, .bot, .bot, .bot, .bot], []⟩) [false, false, false, false, false, false, false, false, false, false, false, false, false, false, false, false, false, false] [] ?_ ?_
  · refine V_block (V_loop (fun n s => ∃ (t2 : Int), s.keep [false, false, false, false, false, true, true, true, false, false, false, false, false, false, false, false, false, false] [] = (⟨[.bot, .bot, .bot, .bot, .bot, .c (.sl (list1.map c3)), I ((list1.length : Int)), I t2, .bot, .bot, .bot, .bot, .bot, .bot, .bot, .bot, .bot, .bot], []⟩ : St) ∧ r_impl_areNumbers_L3 list1 n t2 = some qo4) FU ⟨_,  by rfl, hLo4⟩ ?_)
    clear hLo4
    rintro n s ⟨t2, hs, h⟩
    refine V_keep _ _ hs ?_
    clear hs
    cases n with
    | zero => cases h
    | succ n =>
      rw [r_impl_areNumbers_L3] at h
      refine V_sreg [false, false, false, false, false, true, true, true, true, false, false, false, false, false, false, false, false, false] [] (s1 := ⟨[.bot, .bot, .bot, .bot, .bot, .c (.sl (list1.map c3)), I ((list1.length : Int)), I t2, Bo (ltI t2 ((list1.length : Int))), .bot, .bot, .bot, .bot, .bot, .bot, .bot, .bot, .bot], []⟩) ?_ ?_
      · refine XL_cons rfl (X_of_Y0 rfl (Y0_ltw (k := .i64) (a := t2) (b := (list1.length : Int)) rfl (by kernel_rfl) (by kernel_rfl))) ?_
        refine XL_nil ?_
        kernel_rfl
      refine V_seq ?_
      refine V_cond rfl (fun hc5 => ?_) (fun hc5 => ?_)
      · have h := of_true h hc5
        refine V_skip ?_
        show V _ _ _ _
        refine V_seq ?_
        refine V_block ?_
        obtain ⟨e6, he6, h⟩ := of_bind h
        refine V_sreg [false, false, false, false, true, true, true, true, false, false, false, false, false, false, false, false, false, false] [] (s1 := ⟨[.bot, .bot, .bot, .bot, I e6, .c (.sl (list1.map c3)), I ((list1.length : Int)), I t2, .bot, .bot, .bot, .bot, .bot, .bot, .bot, .bot, .bot, .bot], []⟩) ?_ ?_
        · refine XL_cons rfl (X_of_Y0 rfl (Y0_idxM (c := c3) (xs := list1) (v := e6) (n := t2) Try.underlying53 sz3 rfl (by kernel_rfl) (by kernel_rfl) he6)) ?_
          refine XL_cons rfl (X_of_Y0 rfl (Y0_load1 (c := Ti e6) (cs := []) sc3 rfl (by kernel_rfl))) ?_
          refine XL_cons rfl (X_of_Y0 rfl (E_assign (I e6) rfl (by kernel_rfl))) ?_
          refine XL_nil ?_
          kernel_rfl
        refine V_sreg [false, false, false, false, false, true, true, true, false, false, false, false, false, false, false, false, true, false] [] (s1 := ⟨[.bot, .bot, .bot, .bot, .bot, .c (.sl (list1.map c3)), I ((list1.length : Int)), I t2, .bot, .bot, .bot, .bot, .bot, .bot, .bot, .bot, Bo (bif (ltI e6 (-1000000)) then true else (ltI 1000000 e6)), .bot], []⟩) ?_ ?_
        · refine XL_cons rfl (X_of_Y0 rfl (E_move (I e6) rfl (by kernel_rfl))) ?_
          refine XL_cons rfl (X_of_Y0 rfl (Y0_ltw (k := .i64) (a := e6) (b := -1000000) rfl (by kernel_rfl) (by kernel_rfl))) ?_
          refine XL_cons rfl (X_of_Y0 rfl (E_move (Bo (ltI e6 (-1000000))) rfl (by kernel_rfl))) ?_
          refine XL_split (ltI e6 (-1000000)) (fun hc7 => ?_) (fun hc7 => ?_)
          · refine XL_skipF (ltI e6 (-1000000)) rfl rfl (by kernel_rfl) hc7 rfl ?_
            refine XL_skipF (ltI e6 (-1000000)) rfl rfl (by kernel_rfl) hc7 rfl ?_
            refine XL_cons rfl (X_of_Y0 rfl (Y0_pick1 (b := ltI e6 (-1000000)) (p := true) (q := ltI 1000000 e6) rfl (by kernel_rfl) hc7 (by kernel_rfl))) ?_
            refine XL_nil ?_
            kernel_rfl
          · refine XL_takeC (ltI e6 (-1000000)) rfl rfl (by kernel_rfl) hc7 (X_of_Y0 rfl (E_move (I e6) rfl (by kernel_rfl))) ?_
            refine XL_takeC (ltI e6 (-1000000)) rfl rfl (by kernel_rfl) hc7 (X_of_Y0 rfl (Y0_gtw (k := .i64) (a := e6) (b := 1000000) rfl (by kernel_rfl) (by kernel_rfl))) ?_
            refine XL_cons rfl (X_of_Y0 rfl (Y0_pick0 (b := ltI e6 (-1000000)) (p := true) (q := ltI 1000000 e6) rfl (by kernel_rfl) hc7 (by kernel_rfl))) ?_
            refine XL_nil ?_
            kernel_rfl
        refine V_cond rfl (fun hc8 => ?_) (fun hc8 => ?_)
        · have h := of_true h hc8
          refine V_sreg [false, false, true, false, false, false, false, false, false, false, false, false, false, false, false, false, false, false] [] (s1 := ⟨[.bot, .bot, Bo false, .bot, .bot, .bot, .bot, .bot, .bot, .bot, .bot, .bot, .bot, .bot, .bot, .bot, .bot, .bot], []⟩) ?_ ?_
          · refine XL_cons rfl (X_of_Y0 rfl (E_assign (Bo false) rfl (by kernel_rfl))) ?_
            refine XL_nil ?_
            kernel_rfl
          refine V_ret ?_
          obtain rfl := some_inj h
          have h := hko4
          obtain rfl := some_inj h
          show Post _ _ _ _ _
          exact ⟨.inr rfl, rfl, rfl, rfl⟩
        · have h := of_false h hc8
          refine V_skip ?_
          show V _ _ _ _
          obtain ⟨t9, ht9, h⟩ := of_sI h
          refine V_reg [false, false, false, false, false, true, true, true, false, false, false, false, false, false, false, false, false, false] [] (s1 := ⟨[.bot, .bot, .bot, .bot, .bot, .c (.sl (list1.map c3)), I ((list1.length : Int)), I t9, .bot, .bot, .bot, .bot, .bot, .bot, .bot, .bot, .bot, .bot], []⟩) ?_ ?_
          · refine XL_cons rfl (X_of_Y0 rfl (Y0_add64 (a := t2) (b := 1) rfl (by kernel_rfl) (by kernel_rfl))) ?_
            refine XL_cons rfl (X_of_Y0 rfl (E_move (I (w64 (t2 + 1))) rfl (by kernel_rfl))) ?_
            refine XL_nil ?_
            subst ht9
            kernel_rfl
          exact ⟨n, Nat.lt_succ_self n, _,  by rfl, h⟩
      · have h := of_false h hc5
        refine V_exit ?_
        obtain rfl := some_inj h
        exact ⟨_, rfl, by rfl⟩
  rintro o4 rfl
  have h := hko4
  clear hko4
  show V _ _ _ _
  refine V_sreg [false, false, true, false, false, false, false, false, false, false, false, false, false, false, false, false, false, false] [] (s1 := ⟨[.bot, .bot, Bo true, .bot, .bot, .bot, .bot, .bot, .bot, .bot, .bot, .bot, .bot, .bot, .bot, .bot, .bot, .bot], []⟩) ?_ ?_
  · refine XL_cons rfl (X_of_Y0 rfl (E_assign (Bo true) rfl (by kernel_rfl))) ?_
    refine XL_nil ?_
    kernel_rfl
  refine V_ret ?_
  obtain rfl := some_inj h
  show Post _ _ _ _ _
  exact ⟨.inr rfl, rfl, rfl, rfl⟩
theorem cf_impl_IsForm : ∀ args w, (callFunc 123 args).run Try.prog w = .ok (.enter 123 args) w := run_callFunc Try.func123 (by kernel_rfl) (by kernel_rfl)
set_option maxRecDepth 100000 in
set_option maxHeartbeats 400000 in
theorem s_impl_IsForm {f1 : (Int × Int × Int)} {r : Bool} (h : r_impl_IsForm f1 = some r) : CallS Try.prog 123 [.ag [Ti f1.1, Ti f1.2.1, Ti f1.2.2]] (Bo r) [] := by
  refine CallS_of_text (rs := [.t 2]) (vs := [.tmp 2]) Try.func123 rfl rfl (.cons rfl FitsL.nil) (by decide) 11 rfl ?_
  unfold r_impl_IsForm at h
  show V _ _ ⟨[.ag [Ti f1.1, Ti f1.2.1, Ti f1.2.2], .bot, .bot, .bot, .bot, .bot, .bot, .bot, .bot, .bot, .bot], []⟩ _
  refine V_sreg [false, true, false, false, false, false, false, false, false, false, false] [8] (s1 := ⟨[.bot, .pt 8 0, .bot, .bot, .bot, .bot, .bot, .bot, .bot, .bot, .bot], [(8, .box [Ti f1.1, Ti f1.2.1, Ti f1.2.2])]⟩) ?_ ?_
  · refine XL_cons rfl (X_of_Y1 rfl (Y1_box (cs := [Ti f1.1, Ti f1.2.1, Ti f1.2.2]) rfl (by kernel_rfl))) ?_
    refine XL_cons rfl (X_of_Y0 rfl (E_assign (Bo false) rfl (by kernel_rfl))) ?_
    refine XL_nil ?_
    kernel_rfl
  obtain ⟨y2, hy2, h⟩ := of_bind h
  refine V_sreg [false, false, true, false, false, false, false, false, false, false, false] [] (s1 := ⟨[.bot, .bot, Bo y2, .bot, .bot, .bot, .bot, .bot, .bot, .bot, .bot], []⟩) ?_ ?_
  · refine XL_cons rfl (X_of_Y0 rfl (E_field (.pt 8 0) Try.underlying25 rfl sz3 rfl (by kernel_rfl) (by intro hh; cases hh))) ?_
    refine XL_cons rfl (X_of_Y0 rfl (Y0_load1 (c := Ti f1.1) (cs := [Ti f1.2.1, Ti f1.2.2]) sc3 rfl (by kernel_rfl))) ?_
    refine XL_cons rfl (X_of_Y0 rfl (E_field (.pt 8 1) Try.underlying25 rfl sz3 rfl (by kernel_rfl) (by intro hh; cases hh))) ?_
    refine XL_cons rfl (X_of_Y0 rfl (Y0_load1 (c := Ti f1.2.1) (cs := [Ti f1.2.2]) sc3 rfl (by kernel_rfl))) ?_
    refine XL_cons rfl (X_of_Y0 rfl (E_field (.pt 8 2) Try.underlying25 rfl sz3 rfl (by kernel_rfl) (by intro hh; cases hh))) ?_
    refine XL_cons rfl (X_of_Y0 rfl (Y0_load1 (c := Ti f1.2.2) (cs := []) sc3 rfl (by kernel_rfl))) ?_
    refine XL_cons rfl (X_of_Y1 rfl (Y1_bslice (z := zv3) (els := [f1.1, f1.2.1, f1.2.2].map c3) Try.underlying53 iz3 rfl (by decide) rfl (by kernel_rfl) rfl (by simp [c3]) (by decide) (by decide))) ?_
    refine XL_cons rfl (X_of_Y1 rfl (Y1_callS (s_impl_areNumbers hy2) cf_impl_areNumbers rfl (by kernel_rfl) rfl rfl)) ?_
    refine XL_cons rfl (X_of_Y0 rfl (E_assign (Bo y2) rfl (by kernel_rfl))) ?_
    refine XL_nil ?_
    kernel_rfl
  refine V_ret ?_
  obtain rfl := some_inj h
  show Post _ _ _ _ _
  exact ⟨.inr rfl, rfl, rfl, rfl⟩
theorem cf_impl_IsMatrix : ∀ args w, (callFunc 124 args).run Try.prog w = .ok (.enter 124 args) w := run_callFunc Try.func124 (by kernel_rfl) (by kernel_rfl)
set_option maxRecDepth 100000 in
set_option maxHeartbeats 400000 in
theorem s_impl_IsMatrix {vm1 : (Int × Int × Int × Int)} {r : Bool} (h : r_impl_IsMatrix vm1 = some r) : CallS Try.prog 124 [.ag [Ti vm1.1, Ti vm1.2.1, Ti vm1.2.2.1, Ti vm1.2.2.2]] (Bo r) [] := by
  refine CallS_of_text (rs := [.t 2]) (vs := [.tmp 2]) Try.func124 rfl rfl (.cons rfl FitsL.nil) (by decide) 13 rfl ?_
  unfold r_impl_IsMatrix at h
  show V _ _ ⟨[.ag [Ti vm1.1, Ti vm1.2.1, Ti vm1.2.2.1, Ti vm1.2.2.2], .bot, .bot, .bot, .bot, .bot, .bot, .bot, .bot, .bot, .bot, .bot, .bot], []⟩ _
  refine V_sreg [false, true, false, false, false, false, false, false, false, false, false, false, false] [8] (s1 := ⟨[.bot, .pt 8 0, .bot, .bot, .bot, .bot, .bot, .bot, .bot, .bot, .bot, .bot, .bot], [(8, .box [Ti vm1.1, Ti vm1.2.1, Ti vm1.2.2.1, Ti vm1.2.2.2])]⟩) ?_ ?_
  · refine XL_cons rfl (X_of_Y1 rfl (Y1_box (cs := [Ti vm1.1, Ti vm1.2.1, Ti vm1.2.2.1, Ti vm1.2.2.2]) rfl (by kernel_rfl))) ?_
    refine XL_cons rfl (X_of_Y0 rfl (E_assign (Bo false) rfl (by kernel_rfl))) ?_
    refine XL_nil ?_
    kernel_rfl
  obtain ⟨y2, hy2, h⟩ := of_bind h
  refine V_sreg [false, false, true, false, false, false, false, false, false, false, false, false, false] [] (s1 := ⟨[.bot, .bot, Bo y2, .bot, .bot, .bot, .bot, .bot, .bot, .bot, .bot, .bot, .bot], []⟩) ?_ ?_
  · refine XL_cons rfl (X_of_Y0 rfl (E_field (.pt 8 0) Try.underlying27 rfl sz3 rfl (by kernel_rfl) (by intro hh; cases hh))) ?_
    refine XL_cons rfl (X_of_Y0 rfl (Y0_load1 (c := Ti vm1.1) (cs := [Ti vm1.2.1, Ti vm1.2.2.1, Ti vm1.2.2.2]) sc3 rfl (by kernel_rfl))) ?_
    refine XL_cons rfl (X_of_Y0 rfl (E_field (.pt 8 1) Try.underlying27 rfl sz3 rfl (by kernel_rfl) (by intro hh; cases hh))) ?_
    refine XL_cons rfl (X_of_Y0 rfl (Y0_load1 (c := Ti vm1.2.1) (cs := [Ti vm1.2.2.1, Ti vm1.2.2.2]) sc3 rfl (by kernel_rfl))) ?_
    refine XL_cons rfl (X_of_Y0 rfl (E_field (.pt 8 2) Try.underlying27 rfl sz3 rfl (by kernel_rfl) (by intro hh; cases hh))) ?_
    refine XL_cons rfl (X_of_Y0 rfl (Y0_load1 (c := Ti vm1.2.2.1) (cs := [Ti vm1.2.2.2]) sc3 rfl (by kernel_rfl))) ?_
    refine XL_cons rfl (X_of_Y0 rfl (E_field (.pt 8 3) Try.underlying27 rfl sz3 rfl (by kernel_rfl) (by intro hh; cases hh))) ?_
    refine XL_cons rfl (X_of_Y0 rfl (Y0_load1 (c := Ti vm1.2.2.2) (cs := []) sc3 rfl (by kernel_rfl))) ?_
    refine XL_cons rfl (X_of_Y1 rfl (Y1_bslice (z := zv3) (els := [vm1.1, vm1.2.1, vm1.2.2.1, vm1.2.2.2].map c3) Try.underlying53 iz3 rfl (by decide) rfl (by kernel_rfl) rfl (by simp [c3]) (by decide) (by decide))) ?_
    refine XL_cons rfl (X_of_Y1 rfl (Y1_callS (s_impl_areNumbers hy2) cf_impl_areNumbers rfl (by kernel_rfl) rfl rfl)) ?_
    refine XL_cons rfl (X_of_Y0 rfl (E_assign (Bo y2) rfl (by kernel_rfl))) ?_
    refine XL_nil ?_
    kernel_rfl
  refine V_ret ?_
  obtain rfl := some_inj h
  show Post _ _ _ _ _
  exact ⟨.inr rfl, rfl, rfl, rfl⟩
theorem cf_impl_Form_at : ∀ args w, (callFunc 134 args).run Try.prog w = .ok (.enter 134 args) w := run_callFunc Try.func134 (by kernel_rfl) (by kernel_rfl)
set_option maxRecDepth 100000 in
set_option maxHeartbeats 400000 in
theorem s_impl_Form_at {f1 : (Int × Int × Int)} {x2 : Int} {y3 : Int} {r : Int} (h : r_impl_Form_at f1 x2 y3 = some r) : CallS Try.prog 134 [.ag [Ti f1.1, Ti f1.2.1, Ti f1.2.2], I x2, I y3] (I r) [] := by
  refine CallS_of_text (rs := [.t 6]) (vs := [.tmp 6]) Try.func134 rfl rfl (.cons rfl FitsL.nil) (by decide) 27 rfl ?_
  unfold r_impl_Form_at at h
  show V _ _ ⟨[.ag [Ti f1.1, Ti f1.2.1, Ti f1.2.2], I x2, I y3, .bot, .bot, .bot, .bot, .bot, .bot, .bot, .bot, .bot, .bot, .bot, .bot, .bot, .bot, .bot, .bot, .bot, .bot, .bot, .bot, .bot, .bot, .bot, .bot], []⟩ _
  refine V_sreg [false, true, true, true, false, false, false, false, false, false, false, false, false, false, false, false, false, false, false, false, false, false, false, false, false, false, false] [24] (s1 := ⟨[.bot, I x2, I y3, .pt 24 0, .bot, .bot, .bot, .bot, .bot, .bot, .bot, .bot, .bot, .bot, .bot, .bot, .bot, .bot, .bot, .bot, .bot, .bot, .bot, .bot, .bot, .bot, .bot], [(24, .box [Ti f1.1, Ti f1.2.1, Ti f1.2.2])]⟩) ?_ ?_
  · refine XL_cons rfl (X_of_Y1 rfl (Y1_box (cs := [Ti f1.1, Ti f1.2.1, Ti f1.2.2]) rfl (by kernel_rfl))) ?_
    refine XL_cons rfl (X_of_Y0 rfl (E_assign (I 0) rfl (by kernel_rfl))) ?_
    refine XL_nil ?_
    kernel_rfl
  obtain ⟨t4, ht4, h⟩ := of_sI h
  refine V_sreg [false, false, false, false, false, false, true, false, false, false, false, false, false, false, false, false, false, false, false, false, false, false, false, false, false, false, false] [] (s1 := ⟨[.bot, .bot, .bot, .bot, .bot, .bot, I t4, .bot, .bot, .bot, .bot, .bot, .bot, .bot, .bot, .bot, .bot, .bot, .bot, .bot, .bot, .bot, .bot, .bot, .bot, .bot, .bot], []⟩) ?_ ?_
  · refine XL_cons rfl (X_of_Y0 rfl (E_field (.pt 24 0) Try.underlying25 rfl sz3 rfl (by kernel_rfl) (by intro hh; cases hh))) ?_
    refine XL_cons rfl (X_of_Y0 rfl (Y0_load1 (c := Ti f1.1) (cs := [Ti f1.2.1, Ti f1.2.2]) sc3 rfl (by kernel_rfl))) ?_
    refine XL_cons rfl (X_of_Y0 rfl (E_move (I x2) rfl (by kernel_rfl))) ?_
    refine XL_cons rfl (X_of_Y0 rfl (Y0_mul64 (a := f1.1) (b := x2) rfl (by kernel_rfl) (by kernel_rfl))) ?_
    refine XL_cons rfl (X_of_Y0 rfl (E_move (I x2) rfl (by kernel_rfl))) ?_
    refine XL_cons rfl (X_of_Y0 rfl (Y0_mul64 (a := w64 (f1.1 * x2)) (b := x2) rfl (by kernel_rfl) (by kernel_rfl))) ?_
    refine XL_cons rfl (X_of_Y0 rfl (E_field (.pt 24 1) Try.underlying25 rfl sz3 rfl (by kernel_rfl) (by intro hh; cases hh))) ?_
    refine XL_cons rfl (X_of_Y0 rfl (Y0_load1 (c := Ti f1.2.1) (cs := [Ti f1.2.2]) sc3 rfl (by kernel_rfl))) ?_
    refine XL_cons rfl (X_of_Y0 rfl (E_move (I x2) rfl (by kernel_rfl))) ?_
    refine XL_cons rfl (X_of_Y0 rfl (Y0_mul64 (a := f1.2.1) (b := x2) rfl (by kernel_rfl) (by kernel_rfl))) ?_
    refine XL_cons rfl (X_of_Y0 rfl (E_move (I y3) rfl (by kernel_rfl))) ?_
    refine XL_cons rfl (X_of_Y0 rfl (Y0_mul64 (a := w64 (f1.2.1 * x2)) (b := y3) rfl (by kernel_rfl) (by kernel_rfl))) ?_
    refine XL_cons rfl (X_of_Y0 rfl (Y0_add64 (a := w64 ((w64 (f1.1 * x2)) * x2)) (b := w64 ((w64 (f1.2.1 * x2)) * y3)) rfl (by kernel_rfl) (by kernel_rfl))) ?_
    refine XL_cons rfl (X_of_Y0 rfl (E_field (.pt 24 2) Try.underlying25 rfl sz3 rfl (by kernel_rfl) (by intro hh; cases hh))) ?_
    refine XL_cons rfl (X_of_Y0 rfl (Y0_load1 (c := Ti f1.2.2) (cs := []) sc3 rfl (by kernel_rfl))) ?_
    refine XL_cons rfl (X_of_Y0 rfl (E_move (I y3) rfl (by kernel_rfl))) ?_
    refine XL_cons rfl (X_of_Y0 rfl (Y0_mul64 (a := f1.2.2) (b := y3) rfl (by kernel_rfl) (by kernel_rfl))) ?_
    refine XL_cons rfl (X_of_Y0 rfl (E_move (I y3) rfl (by kernel_rfl))) ?_
    refine XL_cons rfl (X_of_Y0 rfl (Y0_mul64 (a := w64 (f1.2.2 * y3)) (b := y3) rfl (by kernel_rfl) (by kernel_rfl))) ?_
    refine XL_cons rfl (X_of_Y0 rfl (Y0_add64 (a := w64 ((w64 ((w64 (f1.1 * x2)) * x2)) + (w64 ((w64 (f1.2.1 * x2)) * y3)))) (b := w64 ((w64 (f1.2.2 * y3)) * y3)) rfl (by kernel_rfl) (by kernel_rfl))) ?_
    refine XL_cons rfl (X_of_Y0 rfl (E_assign (I (w64 ((w64 ((w64 ((w64 (f1.1 * x2)) * x2)) + (w64 ((w64 (f1.2.1 * x2)) * y3)))) + (w64 ((w64 (f1.2.2 * y3)) * y3))))) rfl (by kernel_rfl))) ?_
    refine XL_nil ?_
    subst ht4
    kernel_rfl
  refine V_ret ?_
  obtain rfl := some_inj h
  show Post _ _ _ _ _
  exact ⟨.inr rfl, rfl, rfl, rfl⟩
theorem cf_impl_Form_polar : ∀ args w, (callFunc 249 args).run Try.prog w = .ok (.enter 249 args) w := run_callFunc Try.func249 (by kernel_rfl) (by kernel_rfl)
set_option maxRecDepth 100000 in
set_option maxHeartbeats 400000 in
theorem s_impl_Form_polar {f1 : (Int × Int × Int)} {x2 : Int} {y3 : Int} {u4 : Int} {v5 : Int} {r : Int} (h : r_impl_Form_polar f1 x2 y3 u4 v5 = some r) : CallS Try.prog 249 [.ag [Ti f1.1, Ti f1.2.1, Ti f1.2.2], I x2, I y3, I u4, I v5] (I r) [] := by
  refine CallS_of_text (rs := [.t 10]) (vs := [.tmp 10]) Try.func249 rfl rfl (.cons rfl FitsL.nil) (by decide) 37 rfl ?_
  unfold r_impl_Form_polar at h
  show V _ _ ⟨[.ag [Ti f1.1, Ti f1.2.1, Ti f1.2.2], I x2, I y3, I u4, I v5, .bot, .bot, .bot, .bot, .bot, .bot, .bot, .bot, .bot, .bot, .bot, .bot, .bot, .bot, .bot, .bot, .bot, .bot, .bot, .bot, .bot, .bot, .bot, .bot, .bot, .bot, .bot, .bot, .bot, .bot, .bot, .bot], []⟩ _
  refine V_sreg [false, true, true, true, true, true, false, false, false, false, false, false, false, false, false, false, false, false, false, false, false, false, false, false, false, false, false, false, false, false, false, false, false, false, false, false, false] [40] (s1 := ⟨[.bot, I x2, I y3, I u4, I v5, .pt 40 0, .bot, .bot, .bot, .bot, .bot, .bot, .bot, .bot, .bot, .bot, .bot, .bot, .bot, .bot, .bot, .bot, .bot, .bot, .bot, .bot, .bot, .bot, .bot, .bot, .bot, .bot, .bot, .bot, .bot, .bot, .bot], [(40, .box [Ti f1.1, Ti f1.2.1, Ti f1.2.2])]⟩) ?_ ?_
  · refine XL_cons rfl (X_of_Y1 rfl (Y1_box (cs := [Ti f1.1, Ti f1.2.1, Ti f1.2.2]) rfl (by kernel_rfl))) ?_
    refine XL_cons rfl (X_of_Y0 rfl (E_assign (I 0) rfl (by kernel_rfl))) ?_
    refine XL_nil ?_
    kernel_rfl
  obtain ⟨t6, ht6, h⟩ := of_sI h
  refine V_sreg [false, false, false, false, false, false, false, false, false, false, true, false, false, false, false, false, false, false, false, false, false, false, false, false, false, false, false, false, false, false, false, false, false, false, false, false, false] [] (s1 := ⟨[.bot, .bot, .bot, .bot, .bot, .bot, .bot, .bot, .bot, .bot, I t6, .bot, .bot, .bot, .bot, .bot, .bot, .bot, .bot, .bot, .bot, .bot, .bot, .bot, .bot, .bot, .bot, .bot, .bot, .bot, .bot, .bot, .bot, .bot, .bot, .bot, .bot], []⟩) ?_ ?_
  · refine XL_cons rfl (X_of_Y0 rfl (E_field (.pt 40 0) Try.underlying25 rfl sz3 rfl (by kernel_rfl) (by intro hh; cases hh))) ?_
    refine XL_cons rfl (X_of_Y0 rfl (Y0_load1 (c := Ti f1.1) (cs := [Ti f1.2.1, Ti f1.2.2]) sc3 rfl (by kernel_rfl))) ?_
    refine XL_cons rfl (X_of_Y0 rfl (Y0_mul64 (a := 2) (b := f1.1) rfl (by kernel_rfl) (by kernel_rfl))) ?_
    refine XL_cons rfl (X_of_Y0 rfl (E_move (I x2) rfl (by kernel_rfl))) ?_
    refine XL_cons rfl (X_of_Y0 rfl (Y0_mul64 (a := w64 (2 * f1.1)) (b := x2) rfl (by kernel_rfl) (by kernel_rfl))) ?_
    refine XL_cons rfl (X_of_Y0 rfl (E_move (I u4) rfl (by kernel_rfl))) ?_
    refine XL_cons rfl (X_of_Y0 rfl (Y0_mul64 (a := w64 ((w64 (2 * f1.1)) * x2)) (b := u4) rfl (by kernel_rfl) (by kernel_rfl))) ?_
    refine XL_cons rfl (X_of_Y0 rfl (E_field (.pt 40 1) Try.underlying25 rfl sz3 rfl (by kernel_rfl) (by intro hh; cases hh))) ?_
    refine XL_cons rfl (X_of_Y0 rfl (Y0_load1 (c := Ti f1.2.1) (cs := [Ti f1.2.2]) sc3 rfl (by kernel_rfl))) ?_
    refine XL_cons rfl (X_of_Y0 rfl (E_move (I x2) rfl (by kernel_rfl))) ?_
    refine XL_cons rfl (X_of_Y0 rfl (E_move (I v5) rfl (by kernel_rfl))) ?_
    refine XL_cons rfl (X_of_Y0 rfl (Y0_mul64 (a := x2) (b := v5) rfl (by kernel_rfl) (by kernel_rfl))) ?_
    refine XL_cons rfl (X_of_Y0 rfl (E_move (I y3) rfl (by kernel_rfl))) ?_
    refine XL_cons rfl (X_of_Y0 rfl (E_move (I u4) rfl (by kernel_rfl))) ?_
    refine XL_cons rfl (X_of_Y0 rfl (Y0_mul64 (a := y3) (b := u4) rfl (by kernel_rfl) (by kernel_rfl))) ?_
    refine XL_cons rfl (X_of_Y0 rfl (Y0_add64 (a := w64 (x2 * v5)) (b := w64 (y3 * u4)) rfl (by kernel_rfl) (by kernel_rfl))) ?_
    refine XL_cons rfl (X_of_Y0 rfl (Y0_mul64 (a := f1.2.1) (b := w64 ((w64 (x2 * v5)) + (w64 (y3 * u4)))) rfl (by kernel_rfl) (by kernel_rfl))) ?_
    refine XL_cons rfl (X_of_Y0 rfl (Y0_add64 (a := w64 ((w64 ((w64 (2 * f1.1)) * x2)) * u4)) (b := w64 (f1.2.1 * (w64 ((w64 (x2 * v5)) + (w64 (y3 * u4)))))) rfl (by kernel_rfl) (by kernel_rfl))) ?_
    refine XL_cons rfl (X_of_Y0 rfl (E_field (.pt 40 2) Try.underlying25 rfl sz3 rfl (by kernel_rfl) (by intro hh; cases hh))) ?_
    refine XL_cons rfl (X_of_Y0 rfl (Y0_load1 (c := Ti f1.2.2) (cs := []) sc3 rfl (by kernel_rfl))) ?_
    refine XL_cons rfl (X_of_Y0 rfl (Y0_mul64 (a := 2) (b := f1.2.2) rfl (by kernel_rfl) (by kernel_rfl))) ?_
    refine XL_cons rfl (X_of_Y0 rfl (E_move (I y3) rfl (by kernel_rfl))) ?_
    refine XL_cons rfl (X_of_Y0 rfl (Y0_mul64 (a := w64 (2 * f1.2.2)) (b := y3) rfl (by kernel_rfl) (by kernel_rfl))) ?_
    refine XL_cons rfl (X_of_Y0 rfl (E_move (I v5) rfl (by kernel_rfl))) ?_
    refine XL_cons rfl (X_of_Y0 rfl (Y0_mul64 (a := w64 ((w64 (2 * f1.2.2)) * y3)) (b := v5) rfl (by kernel_rfl) (by kernel_rfl))) ?_
    refine XL_cons rfl (X_of_Y0 rfl (Y0_add64 (a := w64 ((w64 ((w64 ((w64 (2 * f1.1)) * x2)) * u4)) + (w64 (f1.2.1 * (w64 ((w64 (x2 * v5)) + (w64 (y3 * u4)))))))) (b := w64 ((w64 ((w64 (2 * f1.2.2)) * y3)) * v5)) rfl (by kernel_rfl) (by kernel_rfl))) ?_
    refine XL_cons rfl (X_of_Y0 rfl (E_assign (I (w64 ((w64 ((w64 ((w64 ((w64 (2 * f1.1)) * x2)) * u4)) + (w64 (f1.2.1 * (w64 ((w64 (x2 * v5)) + (w64 (y3 * u4)))))))) + (w64 ((w64 ((w64 (2 * f1.2.2)) * y3)) * v5))))) rfl (by kernel_rfl))) ?_
    refine XL_nil ?_
    subst ht6
    kernel_rfl
  refine V_ret ?_
  obtain rfl := some_inj h
  show Post _ _ _ _ _
  exact ⟨.inr rfl, rfl, rfl, rfl⟩
theorem cf_impl_Form_substitute : ∀ args w, (callFunc 125 args).run Try.prog w = .ok (.enter 125 args) w := run_callFunc Try.func125 (by kernel_rfl) (by kernel_rfl)
set_option maxRecDepth 100000 in
set_option maxHeartbeats 400000 in
theorem s_impl_Form_substitute {f1 : (Int × Int × Int)} {vm2 : (Int × Int × Int × Int)} {r : (Int × Int × Int)} (h : r_impl_Form_substitute f1 vm2 = some r) : CallS Try.prog 125 [.ag [Ti f1.1, Ti f1.2.1, Ti f1.2.2], .ag [Ti vm2.1, Ti vm2.2.1, Ti vm2.2.2.1, Ti vm2.2.2.2]] (.ag [Ti r.1, Ti r.2.1, Ti r.2.2]) [] := by
  refine CallS_of_text (rs := [.w 4 3]) (vs := [.cell 4 25]) Try.func125 rfl rfl (.cons ⟨rfl, wd25⟩ FitsL.nil) (by decide) 28 rfl ?_
  unfold r_impl_Form_substitute at h
  show V _ _ ⟨[.ag [Ti f1.1, Ti f1.2.1, Ti f1.2.2], .ag [Ti vm2.1, Ti vm2.2.1, Ti vm2.2.2.1, Ti vm2.2.2.2], .bot, .bot, .bot, .bot, .bot, .bot, .bot, .bot, .bot, .bot, .bot, .bot, .bot, .bot, .bot, .bot, .bot, .bot, .bot, .bot, .bot, .bot, .bot, .bot, .bot, .bot], []⟩ _
  refine V_sreg [false, false, true, true, true, false, false, false, false, false, false, false, false, false, false, false, false, false, false, false, false, false, false, false, false, false, false, false] [32, 24, 16] (s1 := ⟨[.bot, .bot, .pt 16 0, .pt 24 0, .pt 32 0, .bot, .bot, .bot, .bot, .bot, .bot, .bot, .bot, .bot, .bot, .bot, .bot, .bot, .bot, .bot, .bot, .bot, .bot, .bot, .bot, .bot, .bot, .bot], [(32, .box [Ti 0, Ti 0, Ti 0]), (24, .box [Ti vm2.1, Ti vm2.2.1, Ti vm2.2.2.1, Ti vm2.2.2.2]), (16, .box [Ti f1.1, Ti f1.2.1, Ti f1.2.2])]⟩) ?_ ?_
  · refine XL_cons rfl (X_of_Y1 rfl (Y1_box (cs := [Ti f1.1, Ti f1.2.1, Ti f1.2.2]) rfl (by kernel_rfl))) ?_
    refine XL_cons rfl (X_of_Y1 rfl (Y1_box (cs := [Ti vm2.1, Ti vm2.2.1, Ti vm2.2.2.1, Ti vm2.2.2.2]) rfl (by kernel_rfl))) ?_
    refine XL_cons rfl (X_of_Y1 rfl (Y1_alloc (z := zv25) rfl zf25 rfl)) ?_
    refine XL_nil ?_
    kernel_rfl
  obtain ⟨y3, hy3, h⟩ := of_bind h
  obtain ⟨y4, hy4, h⟩ := of_bind h
  obtain ⟨y5, hy5, h⟩ := of_bind h
  refine V_sdreg [0, 0, 2, 0, 8, 31, 0, 0, 128, 0, 512, 0, 2048, 0, 8192, 32767, 0, 0, 131072, 0, 524288, 2097151, 4194303, 8388607] 23 [[.z, .b, .b, .b, .b, .z, .b, .b, .b, .b, .b, .b, .b, .b, .b, .z, .b, .b, .b, .b, .b, .z, .z], [.b, .z, .z, .b, .b, .z, .b, .b, .b, .b, .b, .b, .b, .b, .b, .z, .b, .b, .b, .b, .b, .z, .z], [.b, .a, .z, .b, .b, .z, .b, .b, .b, .b, .b, .b, .b, .b, .b, .z, .b, .b, .b, .b, .b, .z, .z], [.b, .b, .b, .z, .z, .z, .b, .b, .b, .b, .b, .b, .b, .b, .b, .z, .b, .b, .b, .b, .b, .z, .z], [.b, .b, .b, .a, .z, .z, .b, .b, .b, .b, .b, .b, .b, .b, .b, .z, .b, .b, .b, .b, .b, .z, .z], [.a, .a, .a, .a, .a, .z, .b, .b, .b, .b, .b, .b, .b, .b, .b, .z, .b, .b, .b, .b, .b, .z, .z], [.b, .b, .b, .b, .b, .b, .z, .b, .b, .b, .b, .b, .b, .b, .b, .z, .b, .b, .b, .b, .b, .z, .z], [.b, .b, .b, .b, .b, .b, .b, .z, .z, .b, .b, .b, .b, .b, .b, .z, .b, .b, .b, .b, .b, .z, .z], [.b, .b, .b, .b, .b, .b, .b, .a, .z, .b, .b, .b, .b, .b, .b, .z, .b, .b, .b, .b, .b, .z, .z], [.b, .b, .b, .b, .b, .b, .b, .b, .b, .z, .z, .b, .b, .b, .b, .z, .b, .b, .b, .b, .b, .z, .z], [.b, .b, .b, .b, .b, .b, .b, .b, .b, .a, .z, .b, .b, .b, .b, .z, .b, .b, .b, .b, .b, .z, .z], [.b, .b, .b, .b, .b, .b, .b, .b, .b, .b, .b, .z, .z, .b, .b, .z, .b, .b, .b, .b, .b, .z, .z], [.b, .b, .b, .b, .b, .b, .b, .b, .b, .b, .b, .a, .z, .b, .b, .z, .b, .b, .b, .b, .b, .z, .z], [.b, .b, .b, .b, .b, .b, .b, .b, .b, .b, .b, .b, .b, .z, .z, .z, .b, .b, .b, .b, .b, .z, .z], [.b, .b, .b, .b, .b, .b, .b, .b, .b, .b, .b, .b, .b, .a, .z, .z, .b, .b, .b, .b, .b, .z, .z], [.a, .a, .a, .a, .a, .a, .a, .a, .a, .a, .a, .a, .a, .a, .a, .z, .b, .b, .b, .b, .b, .z, .z], [.b, .b, .b, .b, .b, .b, .b, .b, .b, .b, .b, .b, .b, .b, .b, .b, .z, .b, .b, .b, .b, .z, .z], [.b, .b, .b, .b, .b, .b, .b, .b, .b, .b, .b, .b, .b, .b, .b, .b, .b, .z, .z, .b, .b, .z, .z], [.b, .b, .b, .b, .b, .b, .b, .b, .b, .b, .b, .b, .b, .b, .b, .b, .b, .a, .z, .b, .b, .z, .z], [.b, .b, .b, .b, .b, .b, .b, .b, .b, .b, .b, .b, .b, .b, .b, .b, .b, .b, .b, .z, .z, .z, .z], [.b, .b, .b, .b, .b, .b, .b, .b, .b, .b, .b, .b, .b, .b, .b, .b, .b, .b, .b, .a, .z, .z, .z], [.a, .a, .a, .a, .a, .a, .a, .a, .a, .a, .a, .a, .a, .a, .a, .a, .a, .a, .a, .a, .a, .z, .z], [.a, .a, .a, .a, .a, .a, .a, .a, .a, .a, .a, .a, .a, .a, .a, .a, .a, .a, .a, .a, .a, .a, .z]] [false, false, false, false, true, false, false, false, false, false, false, false, false, false, false, false, false, false, false, false, false, false, false, false, false, false, false, false] [32] (s1 := ⟨[.bot, .bot, .bot, .bot, .pt 32 0, .bot, .bot, .bot, .bot, .bot, .bot, .bot, .bot, .bot, .bot, .bot, .bot, .bot, .bot, .bot, .bot, .bot, .bot, .bot, .bot, .bot, .bot, .bot], [(32, .box [Ti y3, Ti y4, Ti y5])]⟩) (by kernel_rfl) (by kernel_rfl) ?_ ?_
  · refine DE_0 0 (.ag [Ti f1.1, Ti f1.2.1, Ti f1.2.2]) (by kernel_rfl) rfl rfl rfl (gsat_none rfl) (by kernel_rfl) (E_loadn (cs := [Ti f1.1, Ti f1.2.1, Ti f1.2.2]) [Ti f1.1, Ti f1.2.1, Ti f1.2.2] wd25 rfl (by kernel_rfl) (Nat.le_of_ble_eq_true rfl) (by kernel_rfl)) 5 rfl ?_
    refine DE_0 1 (.pt 24 0) (by kernel_rfl) rfl rfl rfl (gsat_none rfl) (by kernel_rfl) (E_field (.pt 24 0) Try.underlying27 rfl sz3 rfl (by kernel_rfl) (by intro hh; cases hh)) 6 rfl ?_
    refine DE_0 2 (I vm2.1) (by kernel_rfl) rfl rfl rfl (gsat_none rfl) (by kernel_rfl) (Y0_load1 (c := Ti vm2.1) (cs := [Ti vm2.2.1, Ti vm2.2.2.1, Ti vm2.2.2.2]) sc3 rfl (by kernel_rfl)) 7 rfl ?_
    refine DE_0 3 (.pt 24 2) (by kernel_rfl) rfl rfl rfl (gsat_none rfl) (by kernel_rfl) (E_field (.pt 24 2) Try.underlying27 rfl sz3 rfl (by kernel_rfl) (by intro hh; cases hh)) 8 rfl ?_
    refine DE_0 4 (I vm2.2.2.1) (by kernel_rfl) rfl rfl rfl (gsat_none rfl) (by kernel_rfl) (Y0_load1 (c := Ti vm2.2.2.1) (cs := [Ti vm2.2.2.2]) sc3 rfl (by kernel_rfl)) 9 rfl ?_
    refine DE_1 5 (by kernel_rfl) rfl rfl rfl (gsat_none rfl) (Y1_call (s_impl_Form_at hy3) cf_impl_Form_at rfl (by kernel_rfl)) rfl rfl rfl 10 rfl ?_
    refine DE_0 6 (.ag [Ti f1.1, Ti f1.2.1, Ti f1.2.2]) (by kernel_rfl) rfl rfl rfl (gsat_none rfl) (by kernel_rfl) (E_loadn (cs := [Ti f1.1, Ti f1.2.1, Ti f1.2.2]) [Ti f1.1, Ti f1.2.1, Ti f1.2.2] wd25 rfl (by kernel_rfl) (Nat.le_of_ble_eq_true rfl) (by kernel_rfl)) 11 rfl ?_
    refine DE_0 7 (.pt 24 0) (by kernel_rfl) rfl rfl rfl (gsat_none rfl) (by kernel_rfl) (E_field (.pt 24 0) Try.underlying27 rfl sz3 rfl (by kernel_rfl) (by intro hh; cases hh)) 12 rfl ?_
    refine DE_0 8 (I vm2.1) (by kernel_rfl) rfl rfl rfl (gsat_none rfl) (by kernel_rfl) (Y0_load1 (c := Ti vm2.1) (cs := [Ti vm2.2.1, Ti vm2.2.2.1, Ti vm2.2.2.2]) sc3 rfl (by kernel_rfl)) 13 rfl ?_
    refine DE_0 9 (.pt 24 2) (by kernel_rfl) rfl rfl rfl (gsat_none rfl) (by kernel_rfl) (E_field (.pt 24 2) Try.underlying27 rfl sz3 rfl (by kernel_rfl) (by intro hh; cases hh)) 14 rfl ?_
    refine DE_0 10 (I vm2.2.2.1) (by kernel_rfl) rfl rfl rfl (gsat_none rfl) (by kernel_rfl) (Y0_load1 (c := Ti vm2.2.2.1) (cs := [Ti vm2.2.2.2]) sc3 rfl (by kernel_rfl)) 15 rfl ?_
    refine DE_0 11 (.pt 24 1) (by kernel_rfl) rfl rfl rfl (gsat_none rfl) (by kernel_rfl) (E_field (.pt 24 1) Try.underlying27 rfl sz3 rfl (by kernel_rfl) (by intro hh; cases hh)) 16 rfl ?_
    refine DE_0 12 (I vm2.2.1) (by kernel_rfl) rfl rfl rfl (gsat_none rfl) (by kernel_rfl) (Y0_load1 (c := Ti vm2.2.1) (cs := [Ti vm2.2.2.1, Ti vm2.2.2.2]) sc3 rfl (by kernel_rfl)) 17 rfl ?_
    refine DE_0 13 (.pt 24 3) (by kernel_rfl) rfl rfl rfl (gsat_none rfl) (by kernel_rfl) (E_field (.pt 24 3) Try.underlying27 rfl sz3 rfl (by kernel_rfl) (by intro hh; cases hh)) 18 rfl ?_
    refine DE_0 14 (I vm2.2.2.2) (by kernel_rfl) rfl rfl rfl (gsat_none rfl) (by kernel_rfl) (Y0_load1 (c := Ti vm2.2.2.2) (cs := []) sc3 rfl (by kernel_rfl)) 19 rfl ?_
    refine DE_1 15 (by kernel_rfl) rfl rfl rfl (gsat_none rfl) (Y1_call (s_impl_Form_polar hy4) cf_impl_Form_polar rfl (by kernel_rfl)) rfl rfl rfl 20 rfl ?_
    refine DE_0 16 (.ag [Ti f1.1, Ti f1.2.1, Ti f1.2.2]) (by kernel_rfl) rfl rfl rfl (gsat_none rfl) (by kernel_rfl) (E_loadn (cs := [Ti f1.1, Ti f1.2.1, Ti f1.2.2]) [Ti f1.1, Ti f1.2.1, Ti f1.2.2] wd25 rfl (by kernel_rfl) (Nat.le_of_ble_eq_true rfl) (by kernel_rfl)) 21 rfl ?_
    refine DE_0 17 (.pt 24 1) (by kernel_rfl) rfl rfl rfl (gsat_none rfl) (by kernel_rfl) (E_field (.pt 24 1) Try.underlying27 rfl sz3 rfl (by kernel_rfl) (by intro hh; cases hh)) 22 rfl ?_
    refine DE_0 18 (I vm2.2.1) (by kernel_rfl) rfl rfl rfl (gsat_none rfl) (by kernel_rfl) (Y0_load1 (c := Ti vm2.2.1) (cs := [Ti vm2.2.2.1, Ti vm2.2.2.2]) sc3 rfl (by kernel_rfl)) 23 rfl ?_
    refine DE_0 19 (.pt 24 3) (by kernel_rfl) rfl rfl rfl (gsat_none rfl) (by kernel_rfl) (E_field (.pt 24 3) Try.underlying27 rfl sz3 rfl (by kernel_rfl) (by intro hh; cases hh)) 24 rfl ?_
    refine DE_0 20 (I vm2.2.2.2) (by kernel_rfl) rfl rfl rfl (gsat_none rfl) (by kernel_rfl) (Y0_load1 (c := Ti vm2.2.2.2) (cs := []) sc3 rfl (by kernel_rfl)) 25 rfl ?_
    refine DE_1 21 (by kernel_rfl) rfl rfl rfl (gsat_none rfl) (Y1_call (s_impl_Form_at hy5) cf_impl_Form_at rfl (by kernel_rfl)) rfl rfl rfl 26 rfl ?_
    refine DE_0 22 (.ag [Ti y3, Ti y4, Ti y5]) (by kernel_rfl) rfl rfl rfl (gsat_none rfl) (by kernel_rfl) (Y0_build (cs := [Ti y3, Ti y4, Ti y5]) pl25 bt25 rfl rfl (by kernel_rfl)) 27 rfl ?_
    refine DL_nil (by kernel_rfl) ?_
    refine XL_cons rfl (E_store (id := 32) (off := 0) (cs := [Ti 0, Ti 0, Ti 0]) (vc := [Ti y3, Ti y4, Ti y5]) [Ti y3, Ti y4, Ti y5] rfl rfl (by kernel_rfl) (by kernel_rfl) (by kernel_rfl) sz25 (Nat.le_of_ble_eq_true rfl) (by kernel_rfl)) ?_
    refine XL_nil ?_
    kernel_rfl
  refine V_ret ?_
  obtain rfl := some_inj h
  show Post _ _ _ _ _
  exact ⟨.inr rfl, rfl, rfl, rfl⟩
theorem cf_impl_Substitute : ∀ args w, (callFunc 17 args).run Try.prog w = .ok (.enter 17 args) w := run_callFunc Try.func17 (by kernel_rfl) (by kernel_rfl)
set_option maxRecDepth 100000 in
set_option maxHeartbeats 400000 in
theorem s_impl_Substitute {f1 : (Int × Int × Int)} {vm2 : (Int × Int × Int × Int)} {r : (((Int × Int × Int)) × Bool)} (h : r_impl_Substitute f1 vm2 = some r) : CallS Try.prog 17 [.ag [Ti f1.1, Ti f1.2.1, Ti f1.2.2], .ag [Ti vm2.1, Ti vm2.2.1, Ti vm2.2.2.1, Ti vm2.2.2.2]] (.tc (.ag [Ti r.1.1, Ti r.1.2.1, Ti r.1.2.2]) (.tc (Bo r.2) .tn)) [] := by
  refine CallS_of_text (rs := [.w 4 3, .t 5]) (vs := [.cell 4 25, .tmp 5]) Try.func17 rfl rfl (.cons ⟨rfl, wd25⟩ (.cons rfl FitsL.nil)) (by decide) 24 rfl ?_
  unfold r_impl_Substitute at h
  show V _ _ ⟨[.ag [Ti f1.1, Ti f1.2.1, Ti f1.2.2], .ag [Ti vm2.1, Ti vm2.2.1, Ti vm2.2.2.1, Ti vm2.2.2.2], .bot, .bot, .bot, .bot, .bot, .bot, .bot, .bot, .bot, .bot, .bot, .bot, .bot, .bot, .bot, .bot, .bot, .bot, .bot, .bot, .bot, .bot], []⟩ _
  refine V_sreg [false, false, true, true, true, false, false, false, false, false, false, false, false, false, false, false, false, false, false, false, false, false, false, false] [32, 24, 16] (s1 := ⟨[.bot, .bot, .pt 16 0, .pt 24 0, .pt 32 0, .bot, .bot, .bot, .bot, .bot, .bot, .bot, .bot, .bot, .bot, .bot, .bot, .bot, .bot, .bot, .bot, .bot, .bot, .bot], [(32, .box [Ti 0, Ti 0, Ti 0]), (24, .box [Ti vm2.1, Ti vm2.2.1, Ti vm2.2.2.1, Ti vm2.2.2.2]), (16, .box [Ti f1.1, Ti f1.2.1, Ti f1.2.2])]⟩) ?_ ?_
  · refine XL_cons rfl (X_of_Y1 rfl (Y1_box (cs := [Ti f1.1, Ti f1.2.1, Ti f1.2.2]) rfl (by kernel_rfl))) ?_
    refine XL_cons rfl (X_of_Y1 rfl (Y1_box (cs := [Ti vm2.1, Ti vm2.2.1, Ti vm2.2.2.1, Ti vm2.2.2.2]) rfl (by kernel_rfl))) ?_
    refine XL_cons rfl (X_of_Y1 rfl (Y1_alloc (z := zv25) rfl zf25 rfl)) ?_
    refine XL_cons rfl (X_of_Y0 rfl (E_assign (Bo false) rfl (by kernel_rfl))) ?_
    refine XL_nil ?_
    kernel_rfl
  refine V_seq ?_
  obtain ⟨y3, hy3, h⟩ := of_bind h
  obtain ⟨b6, hb6, h⟩ := of_bind h
  refine V_sreg [false, false, true, true, true, false, false, false, false, false, false, false, false, false, true, false, false, false, false, false, false, false, false, false] [32, 24, 16] (s1 := ⟨[.bot, .bot, .pt 16 0, .pt 24 0, .pt 32 0, .bot, .bot, .bot, .bot, .bot, .bot, .bot, .bot, .bot, Bo b6, .bot, .bot, .bot, .bot, .bot, .bot, .bot, .bot, .bot], [(32, .box [Ti 0, Ti 0, Ti 0]), (24, .box [Ti vm2.1, Ti vm2.2.1, Ti vm2.2.2.1, Ti vm2.2.2.2]), (16, .box [Ti f1.1, Ti f1.2.1, Ti f1.2.2])]⟩) ?_ ?_
  · refine XL_cons rfl (X_of_Y0 rfl (E_loadn (cs := [Ti f1.1, Ti f1.2.1, Ti f1.2.2]) [Ti f1.1, Ti f1.2.1, Ti f1.2.2] wd25 rfl (by kernel_rfl) (Nat.le_of_ble_eq_true rfl) (by kernel_rfl))) ?_
    refine XL_cons rfl (X_of_Y1 rfl (Y1_call (s_impl_IsForm hy3) cf_impl_IsForm rfl (by kernel_rfl))) ?_
    refine XL_cons rfl (X_of_Y0 rfl (Y0_not (b := y3) rfl (by kernel_rfl))) ?_
    refine XL_cons rfl (X_of_Y0 rfl (E_move (Bo (!y3)) rfl (by kernel_rfl))) ?_
    refine XL_split (!y3) (fun hc4 => ?_) (fun hc4 => ?_)
    · have hb6 := some_inj (of_true hb6 hc4)
      refine XL_skipF (!y3) rfl rfl (by kernel_rfl) hc4 rfl ?_
      refine XL_skipF (!y3) rfl rfl (by kernel_rfl) hc4 rfl ?_
      refine XL_skipF (!y3) rfl rfl (by kernel_rfl) hc4 rfl ?_
      refine XL_cons rfl (X_of_Y0 rfl (Y0_pickTe (b := !y3) (p := true) rfl (by kernel_rfl) hc4 (by kernel_rfl) hb6)) ?_
      refine XL_nil ?_
      kernel_rfl
    · have hb6 := of_false hb6 hc4
      obtain ⟨y5, hy5, hb6⟩ := of_bind hb6
      have hb6 := some_inj hb6
      refine XL_takeC (!y3) rfl rfl (by kernel_rfl) hc4 (X_of_Y0 rfl (E_loadn (cs := [Ti vm2.1, Ti vm2.2.1, Ti vm2.2.2.1, Ti vm2.2.2.2]) [Ti vm2.1, Ti vm2.2.1, Ti vm2.2.2.1, Ti vm2.2.2.2] wd27 rfl (by kernel_rfl) (Nat.le_of_ble_eq_true rfl) (by kernel_rfl))) ?_
      refine XL_takeC (!y3) rfl rfl (by kernel_rfl) hc4 (X_of_Y1 rfl (Y1_call (s_impl_IsMatrix hy5) cf_impl_IsMatrix rfl (by kernel_rfl))) ?_
      refine XL_takeC (!y3) rfl rfl (by kernel_rfl) hc4 (X_of_Y0 rfl (Y0_not (b := y5) rfl (by kernel_rfl))) ?_
      refine XL_cons rfl (X_of_Y0 rfl (Y0_pickFe (b := !y3) (p := !y5) rfl (by kernel_rfl) hc4 (by kernel_rfl) hb6)) ?_
      refine XL_nil ?_
      kernel_rfl
  refine V_cond rfl (fun hc7 => ?_) (fun hc7 => ?_)
  · have h := of_true h hc7
    refine V_sreg [false, false, false, false, true, true, false, false, false, false, false, false, false, false, false, false, false, false, false, false, false, false, false, false] [32] (s1 := ⟨[.bot, .bot, .bot, .bot, .pt 32 0, Bo false, .bot, .bot, .bot, .bot, .bot, .bot, .bot, .bot, .bot, .bot, .bot, .bot, .bot, .bot, .bot, .bot, .bot, .bot], [(32, .box [Ti 0, Ti 0, Ti 0])]⟩) ?_ ?_
    · refine XL_cons rfl (X_of_Y0 rfl (Y0_build (cs := [Ti 0, Ti 0, Ti 0]) pl25 bt25 rfl rfl (by kernel_rfl))) ?_
      refine XL_cons rfl (E_store (id := 32) (off := 0) (cs := [Ti 0, Ti 0, Ti 0]) (vc := [Ti 0, Ti 0, Ti 0]) [Ti 0, Ti 0, Ti 0] rfl rfl (by kernel_rfl) (by kernel_rfl) (by kernel_rfl) sz25 (Nat.le_of_ble_eq_true rfl) (by kernel_rfl)) ?_
      refine XL_cons rfl (X_of_Y0 rfl (E_assign (Bo false) rfl (by kernel_rfl))) ?_
      refine XL_nil ?_
      kernel_rfl
    refine V_ret ?_
    obtain rfl := some_inj h
    show Post _ _ _ _ _
    exact ⟨.inr rfl, rfl, rfl, rfl⟩
  · have h := of_false h hc7
    refine V_skip ?_
    show V _ _ _ _
    obtain ⟨y8, hy8, h⟩ := of_bind h
    refine V_sreg [false, false, false, false, true, false, true, false, false, false, false, false, false, false, false, false, false, false, false, false, false, false, false, false] [48, 32] (s1 := ⟨[.bot, .bot, .bot, .bot, .pt 32 0, .bot, .pt 48 0, .bot, .bot, .bot, .bot, .bot, .bot, .bot, .bot, .bot, .bot, .bot, .bot, .bot, .bot, .bot, .bot, .bot], [(48, .box [Ti y8.1, Ti y8.2.1, Ti y8.2.2]), (32, .box [Ti 0, Ti 0, Ti 0])]⟩) ?_ ?_
    · refine XL_cons rfl (X_of_Y0 rfl (E_loadn (cs := [Ti f1.1, Ti f1.2.1, Ti f1.2.2]) [Ti f1.1, Ti f1.2.1, Ti f1.2.2] wd25 rfl (by kernel_rfl) (Nat.le_of_ble_eq_true rfl) (by kernel_rfl))) ?_
      refine XL_cons rfl (X_of_Y0 rfl (E_loadn (cs := [Ti vm2.1, Ti vm2.2.1, Ti vm2.2.2.1, Ti vm2.2.2.2]) [Ti vm2.1, Ti vm2.2.1, Ti vm2.2.2.1, Ti vm2.2.2.2] wd27 rfl (by kernel_rfl) (Nat.le_of_ble_eq_true rfl) (by kernel_rfl))) ?_
      refine XL_cons rfl (X_of_Y1 rfl (Y1_call (s_impl_Form_substitute hy8) cf_impl_Form_substitute rfl (by kernel_rfl))) ?_
      refine XL_cons rfl (X_of_Y1 rfl (Y1_alloc (z := zv25) rfl zf25 rfl)) ?_
      refine XL_cons rfl (E_store (id := 48) (off := 0) (cs := [Ti 0, Ti 0, Ti 0]) (vc := [Ti y8.1, Ti y8.2.1, Ti y8.2.2]) [Ti y8.1, Ti y8.2.1, Ti y8.2.2] rfl rfl (by kernel_rfl) (by kernel_rfl) (by kernel_rfl) sz25 (Nat.le_of_ble_eq_true rfl) (by kernel_rfl)) ?_
      refine XL_nil ?_
      kernel_rfl
    refine V_seq ?_
    obtain ⟨y9, hy9, h⟩ := of_bind h
    refine V_sreg [false, false, false, false, true, false, true, false, false, false, false, false, false, false, false, false, false, false, false, false, false, true, false, false] [48, 32] (s1 := ⟨[.bot, .bot, .bot, .bot, .pt 32 0, .bot, .pt 48 0, .bot, .bot, .bot, .bot, .bot, .bot, .bot, .bot, .bot, .bot, .bot, .bot, .bot, .bot, Bo (!y9), .bot, .bot], [(48, .box [Ti y8.1, Ti y8.2.1, Ti y8.2.2]), (32, .box [Ti 0, Ti 0, Ti 0])]⟩) ?_ ?_
    · refine XL_cons rfl (X_of_Y0 rfl (E_loadn (cs := [Ti y8.1, Ti y8.2.1, Ti y8.2.2]) [Ti y8.1, Ti y8.2.1, Ti y8.2.2] wd25 rfl (by kernel_rfl) (Nat.le_of_ble_eq_true rfl) (by kernel_rfl))) ?_
      refine XL_cons rfl (X_of_Y1 rfl (Y1_call (s_impl_IsForm hy9) cf_impl_IsForm rfl (by kernel_rfl))) ?_
      refine XL_cons rfl (X_of_Y0 rfl (Y0_not (b := y9) rfl (by kernel_rfl))) ?_
      refine XL_nil ?_
      kernel_rfl
    refine V_cond rfl (fun hc10 => ?_) (fun hc10 => ?_)
    · have h := of_true h hc10
      refine V_sreg [false, false, false, false, true, true, false, false, false, false, false, false, false, false, false, false, false, false, false, false, false, false, false, false] [32] (s1 := ⟨[.bot, .bot, .bot, .bot, .pt 32 0, Bo false, .bot, .bot, .bot, .bot, .bot, .bot, .bot, .bot, .bot, .bot, .bot, .bot, .bot, .bot, .bot, .bot, .bot, .bot], [(32, .box [Ti 0, Ti 0, Ti 0])]⟩) ?_ ?_
      · refine XL_cons rfl (X_of_Y0 rfl (Y0_build (cs := [Ti 0, Ti 0, Ti 0]) pl25 bt25 rfl rfl (by kernel_rfl))) ?_
        refine XL_cons rfl (E_store (id := 32) (off := 0) (cs := [Ti 0, Ti 0, Ti 0]) (vc := [Ti 0, Ti 0, Ti 0]) [Ti 0, Ti 0, Ti 0] rfl rfl (by kernel_rfl) (by kernel_rfl) (by kernel_rfl) sz25 (Nat.le_of_ble_eq_true rfl) (by kernel_rfl)) ?_
        refine XL_cons rfl (X_of_Y0 rfl (E_assign (Bo false) rfl (by kernel_rfl))) ?_
        refine XL_nil ?_
        kernel_rfl
      refine V_ret ?_
      obtain rfl := some_inj h
      show Post _ _ _ _ _
      exact ⟨.inr rfl, rfl, rfl, rfl⟩
    · have h := of_false h hc10
      refine V_skip ?_
      show V _ _ _ _
      refine V_sreg [false, false, false, false, true, true, false, false, false, false, false, false, false, false, false, false, false, false, false, false, false, false, false, false] [32] (s1 := ⟨[.bot, .bot, .bot, .bot, .pt 32 0, Bo true, .bot, .bot, .bot, .bot, .bot, .bot, .bot, .bot, .bot, .bot, .bot, .bot, .bot, .bot, .bot, .bot, .bot, .bot], [(32, .box [Ti y8.1, Ti y8.2.1, Ti y8.2.2])]⟩) ?_ ?_
      · refine XL_cons rfl (X_of_Y0 rfl (E_loadn (cs := [Ti y8.1, Ti y8.2.1, Ti y8.2.2]) [Ti y8.1, Ti y8.2.1, Ti y8.2.2] wd25 rfl (by kernel_rfl) (Nat.le_of_ble_eq_true rfl) (by kernel_rfl))) ?_
        refine XL_cons rfl (E_store (id := 32) (off := 0) (cs := [Ti 0, Ti 0, Ti 0]) (vc := [Ti y8.1, Ti y8.2.1, Ti y8.2.2]) [Ti y8.1, Ti y8.2.1, Ti y8.2.2] rfl rfl (by kernel_rfl) (by kernel_rfl) (by kernel_rfl) sz25 (Nat.le_of_ble_eq_true rfl) (by kernel_rfl)) ?_
        refine XL_cons rfl (X_of_Y0 rfl (E_assign (Bo true) rfl (by kernel_rfl))) ?_
        refine XL_nil ?_
        kernel_rfl
      refine V_ret ?_
      obtain rfl := some_inj h
      show Post _ _ _ _ _
      exact ⟨.inr rfl, rfl, rfl, rfl⟩
theorem cf_spec_l1In : ∀ args w, (callFunc 151 args).run Try.prog w = .ok (.enter 151 args) w := run_callFunc Try.func151 (by kernel_rfl) (by kernel_rfl)
set_option maxRecDepth 100000 in
set_option maxHeartbeats 400000 in
theorem s_spec_l1In {vn1 : Int} {lo2 : Int} {hi3 : Int} {r : Bool} (h : r_spec_l1In vn1 lo2 hi3 = some r) : CallS Try.prog 151 [I vn1, I lo2, I hi3] (Bo r) [] := by
  refine CallS_of_text (rs := [.t 6]) (vs := [.tmp 6]) Try.func151 rfl rfl (.cons rfl FitsL.nil) (by decide) 15 rfl ?_
  unfold r_spec_l1In at h
  show V _ _ ⟨[I vn1, I lo2, I hi3, .bot, .bot, .bot, .bot, .bot, .bot, .bot, .bot, .bot, .bot, .bot, .bot], []⟩ _
  refine V_sreg [true, true, true, false, false, false, false, false, false, false, false, false, false, false, false] [] (s1 := ⟨[I vn1, I lo2, I hi3, .bot, .bot, .bot, .bot, .bot, .bot, .bot, .bot, .bot, .bot, .bot, .bot], []⟩) ?_ ?_
  · refine XL_cons rfl (X_of_Y0 rfl (E_assign (Bo false) rfl (by kernel_rfl))) ?_
    refine XL_nil ?_
    kernel_rfl
  refine V_sreg [false, false, false, false, false, false, true, false, false, false, false, false, false, false, false] [] (s1 := ⟨[.bot, .bot, .bot, .bot, .bot, .bot, Bo (bif (leI lo2 vn1) then (leI vn1 hi3) else false), .bot, .bot, .bot, .bot, .bot, .bot, .bot, .bot], []⟩) ?_ ?_
  · refine XL_cons rfl (X_of_Y0 rfl (E_move (I vn1) rfl (by kernel_rfl))) ?_
    refine XL_cons rfl (X_of_Y0 rfl (E_move (I lo2) rfl (by kernel_rfl))) ?_
    refine XL_cons rfl (X_of_Y0 rfl (Y0_gew (k := .i64) (a := vn1) (b := lo2) rfl (by kernel_rfl) (by kernel_rfl))) ?_
    refine XL_cons rfl (X_of_Y0 rfl (E_move (Bo (leI lo2 vn1)) rfl (by kernel_rfl))) ?_
    refine XL_split (leI lo2 vn1) (fun hc4 => ?_) (fun hc4 => ?_)
    · refine XL_takeC (leI lo2 vn1) rfl rfl (by kernel_rfl) hc4 (X_of_Y0 rfl (E_move (I vn1) rfl (by kernel_rfl))) ?_
      refine XL_takeC (leI lo2 vn1) rfl rfl (by kernel_rfl) hc4 (X_of_Y0 rfl (E_move (I hi3) rfl (by kernel_rfl))) ?_
      refine XL_takeC (leI lo2 vn1) rfl rfl (by kernel_rfl) hc4 (X_of_Y0 rfl (Y0_lew (k := .i64) (a := vn1) (b := hi3) rfl (by kernel_rfl) (by kernel_rfl))) ?_
      refine XL_cons rfl (X_of_Y0 rfl (Y0_pick1 (b := leI lo2 vn1) (p := leI vn1 hi3) (q := false) rfl (by kernel_rfl) hc4 (by kernel_rfl))) ?_
      refine XL_cons rfl (X_of_Y0 rfl (E_assign (Bo (bif (leI lo2 vn1) then (leI vn1 hi3) else false)) rfl (by kernel_rfl))) ?_
      refine XL_nil ?_
      kernel_rfl
    · refine XL_skipT (leI lo2 vn1) rfl rfl (by kernel_rfl) hc4 rfl ?_
      refine XL_skipT (leI lo2 vn1) rfl rfl (by kernel_rfl) hc4 rfl ?_
      refine XL_skipT (leI lo2 vn1) rfl rfl (by kernel_rfl) hc4 rfl ?_
      refine XL_cons rfl (X_of_Y0 rfl (Y0_pick0 (b := leI lo2 vn1) (p := leI vn1 hi3) (q := false) rfl (by kernel_rfl) hc4 (by kernel_rfl))) ?_
      refine XL_cons rfl (X_of_Y0 rfl (E_assign (Bo (bif (leI lo2 vn1) then (leI vn1 hi3) else false)) rfl (by kernel_rfl))) ?_
      refine XL_nil ?_
      kernel_rfl
  refine V_ret ?_
  obtain rfl := some_inj h
  show Post _ _ _ _ _
  exact ⟨.inr rfl, rfl, rfl, rfl⟩
theorem cf_spec_nuGood : ∀ args w, (callFunc 163 args).run Try.prog w = .ok (.enter 163 args) w := run_callFunc Try.func163 (by kernel_rfl) (by kernel_rfl)
set_option maxRecDepth 100000 in
set_option maxHeartbeats 400000 in
theorem s_spec_nuGood {vn1 : Int} {r : Bool} (h : r_spec_nuGood vn1 = some r) : CallS Try.prog 163 [I vn1] (Bo r) [] := by
  refine CallS_of_text (rs := [.t 2]) (vs := [.tmp 2]) Try.func163 rfl rfl (.cons rfl FitsL.nil) (by decide) 5 rfl ?_
  unfold r_spec_nuGood at h
  show V _ _ ⟨[I vn1, .bot, .bot, .bot, .bot], []⟩ _
  refine V_sreg [true, false, false, false, false] [] (s1 := ⟨[I vn1, .bot, .bot, .bot, .bot], []⟩) ?_ ?_
  · refine XL_cons rfl (X_of_Y0 rfl (E_assign (Bo false) rfl (by kernel_rfl))) ?_
    refine XL_nil ?_
    kernel_rfl
  obtain ⟨y2, hy2, h⟩ := of_bind h
  refine V_sreg [false, false, true, false, false] [] (s1 := ⟨[.bot, .bot, Bo y2, .bot, .bot], []⟩) ?_ ?_
  · refine XL_cons rfl (X_of_Y0 rfl (E_move (I vn1) rfl (by kernel_rfl))) ?_
    refine XL_cons rfl (X_of_Y1 rfl (Y1_call (s_spec_l1In hy2) cf_spec_l1In rfl (by kernel_rfl))) ?_
    refine XL_cons rfl (X_of_Y0 rfl (E_assign (Bo y2) rfl (by kernel_rfl))) ?_
    refine XL_nil ?_
    kernel_rfl
  refine V_ret ?_
  obtain rfl := some_inj h
  show Post _ _ _ _ _
  exact ⟨.inr rfl, rfl, rfl, rfl⟩
theorem cf_spec_foGood : ∀ args w, (callFunc 126 args).run Try.prog w = .ok (.enter 126 args) w := run_callFunc Try.func126 (by kernel_rfl) (by kernel_rfl)
set_option maxRecDepth 100000 in
set_option maxHeartbeats 400000 in
theorem s_spec_foGood {f1 : (Int × Int × Int)} {r : Bool} (h : r_spec_foGood f1 = some r) : CallS Try.prog 126 [.ag [Ti f1.1, Ti f1.2.1, Ti f1.2.2]] (Bo r) [] := by
  refine CallS_of_text (rs := [.t 2]) (vs := [.tmp 2]) Try.func126 rfl rfl (.cons rfl FitsL.nil) (by decide) 16 rfl ?_
  unfold r_spec_foGood at h
  show V _ _ ⟨[.ag [Ti f1.1, Ti f1.2.1, Ti f1.2.2], .bot, .bot, .bot, .bot, .bot, .bot, .bot, .bot, .bot, .bot, .bot, .bot, .bot, .bot, .bot], []⟩ _
  refine V_sreg [false, true, false, false, false, false, false, false, false, false, false, false, false, false, false, false] [8] (s1 := ⟨[.bot, .pt 8 0, .bot, .bot, .bot, .bot, .bot, .bot, .bot, .bot, .bot, .bot, .bot, .bot, .bot, .bot], [(8, .box [Ti f1.1, Ti f1.2.1, Ti f1.2.2])]⟩) ?_ ?_
  · refine XL_cons rfl (X_of_Y1 rfl (Y1_box (cs := [Ti f1.1, Ti f1.2.1, Ti f1.2.2]) rfl (by kernel_rfl))) ?_
    refine XL_cons rfl (X_of_Y0 rfl (E_assign (Bo false) rfl (by kernel_rfl))) ?_
    refine XL_nil ?_
    kernel_rfl
  obtain ⟨y2, hy2, h⟩ := of_bind h
  obtain ⟨b5, hb5, h⟩ := of_bind h
  obtain ⟨b8, hb8, h⟩ := of_bind h
  refine V_sreg [false, false, true, false, false, false, false, false, false, false, false, false, false, false, false, false] [] (s1 := ⟨[.bot, .bot, Bo b8, .bot, .bot, .bot, .bot, .bot, .bot, .bot, .bot, .bot, .bot, .bot, .bot, .bot], []⟩) ?_ ?_
  · refine XL_cons rfl (X_of_Y0 rfl (E_field (.pt 8 0) Try.underlying25 rfl sz3 rfl (by kernel_rfl) (by intro hh; cases hh))) ?_
    refine XL_cons rfl (X_of_Y0 rfl (Y0_load1 (c := Ti f1.1) (cs := [Ti f1.2.1, Ti f1.2.2]) sc3 rfl (by kernel_rfl))) ?_
    refine XL_cons rfl (X_of_Y1 rfl (Y1_call (s_spec_nuGood hy2) cf_spec_nuGood rfl (by kernel_rfl))) ?_
    refine XL_cons rfl (X_of_Y0 rfl (E_move (Bo y2) rfl (by kernel_rfl))) ?_
    refine XL_split y2 (fun hc3 => ?_) (fun hc3 => ?_)
    · have hb5 := of_true hb5 hc3
      obtain ⟨y4, hy4, hb5⟩ := of_bind hb5
      have hb5 := some_inj hb5
      refine XL_takeC (y2) rfl rfl (by kernel_rfl) hc3 (X_of_Y0 rfl (E_field (.pt 8 1) Try.underlying25 rfl sz3 rfl (by kernel_rfl) (by intro hh; cases hh))) ?_
      refine XL_takeC (y2) rfl rfl (by kernel_rfl) hc3 (X_of_Y0 rfl (Y0_load1 (c := Ti f1.2.1) (cs := [Ti f1.2.2]) sc3 rfl (by kernel_rfl))) ?_
      refine XL_takeC (y2) rfl rfl (by kernel_rfl) hc3 (X_of_Y1 rfl (Y1_call (s_spec_nuGood hy4) cf_spec_nuGood rfl (by kernel_rfl))) ?_
      refine XL_cons rfl (X_of_Y0 rfl (Y0_pickTe (b := y2) (p := y4) rfl (by kernel_rfl) hc3 (by kernel_rfl) hb5)) ?_
      refine XL_cons rfl (X_of_Y0 rfl (E_move (Bo b5) rfl (by kernel_rfl))) ?_
      refine XL_split b5 (fun hc6 => ?_) (fun hc6 => ?_)
      · have hb8 := of_true hb8 hc6
        obtain ⟨y7, hy7, hb8⟩ := of_bind hb8
        have hb8 := some_inj hb8
        refine XL_takeC (b5) rfl rfl (by kernel_rfl) hc6 (X_of_Y0 rfl (E_field (.pt 8 2) Try.underlying25 rfl sz3 rfl (by kernel_rfl) (by intro hh; cases hh))) ?_
        refine XL_takeC (b5) rfl rfl (by kernel_rfl) hc6 (X_of_Y0 rfl (Y0_load1 (c := Ti f1.2.2) (cs := []) sc3 rfl (by kernel_rfl))) ?_
        refine XL_takeC (b5) rfl rfl (by kernel_rfl) hc6 (X_of_Y1 rfl (Y1_call (s_spec_nuGood hy7) cf_spec_nuGood rfl (by kernel_rfl))) ?_
        refine XL_cons rfl (X_of_Y0 rfl (Y0_pickTe (b := b5) (p := y7) rfl (by kernel_rfl) hc6 (by kernel_rfl) hb8)) ?_
        refine XL_cons rfl (X_of_Y0 rfl (E_assign (Bo b8) rfl (by kernel_rfl))) ?_
        refine XL_nil ?_
        kernel_rfl
      · have hb8 := some_inj (of_false hb8 hc6)
        refine XL_skipT (b5) rfl rfl (by kernel_rfl) hc6 rfl ?_
        refine XL_skipT (b5) rfl rfl (by kernel_rfl) hc6 rfl ?_
        refine XL_skipT (b5) rfl rfl (by kernel_rfl) hc6 rfl ?_
        refine XL_cons rfl (X_of_Y0 rfl (Y0_pickFe (b := b5) (p := false) rfl (by kernel_rfl) hc6 (by kernel_rfl) hb8)) ?_
        refine XL_cons rfl (X_of_Y0 rfl (E_assign (Bo b8) rfl (by kernel_rfl))) ?_
        refine XL_nil ?_
        kernel_rfl
    · have hb5 := some_inj (of_false hb5 hc3)
      refine XL_skipT (y2) rfl rfl (by kernel_rfl) hc3 rfl ?_
      refine XL_skipT (y2) rfl rfl (by kernel_rfl) hc3 rfl ?_
      refine XL_skipT (y2) rfl rfl (by kernel_rfl) hc3 rfl ?_
      refine XL_cons rfl (X_of_Y0 rfl (Y0_pickFe (b := y2) (p := false) rfl (by kernel_rfl) hc3 (by kernel_rfl) hb5)) ?_
      refine XL_cons rfl (X_of_Y0 rfl (E_move (Bo b5) rfl (by kernel_rfl))) ?_
      refine XL_split b5 (fun hc6 => ?_) (fun hc6 => ?_)
      · have hb8 := of_true hb8 hc6
        obtain ⟨y7, hy7, hb8⟩ := of_bind hb8
        have hb8 := some_inj hb8
        refine XL_takeC (b5) rfl rfl (by kernel_rfl) hc6 (X_of_Y0 rfl (E_field (.pt 8 2) Try.underlying25 rfl sz3 rfl (by kernel_rfl) (by intro hh; cases hh))) ?_
        refine XL_takeC (b5) rfl rfl (by kernel_rfl) hc6 (X_of_Y0 rfl (Y0_load1 (c := Ti f1.2.2) (cs := []) sc3 rfl (by kernel_rfl))) ?_
        refine XL_takeC (b5) rfl rfl (by kernel_rfl) hc6 (X_of_Y1 rfl (Y1_call (s_spec_nuGood hy7) cf_spec_nuGood rfl (by kernel_rfl))) ?_
        refine XL_cons rfl (X_of_Y0 rfl (Y0_pickTe (b := b5) (p := y7) rfl (by kernel_rfl) hc6 (by kernel_rfl) hb8)) ?_
        refine XL_cons rfl (X_of_Y0 rfl (E_assign (Bo b8) rfl (by kernel_rfl))) ?_
        refine XL_nil ?_
        kernel_rfl
      · have hb8 := some_inj (of_false hb8 hc6)
        refine XL_skipT (b5) rfl rfl (by kernel_rfl) hc6 rfl ?_
        refine XL_skipT (b5) rfl rfl (by kernel_rfl) hc6 rfl ?_
        refine XL_skipT (b5) rfl rfl (by kernel_rfl) hc6 rfl ?_
        refine XL_cons rfl (X_of_Y0 rfl (Y0_pickFe (b := b5) (p := false) rfl (by kernel_rfl) hc6 (by kernel_rfl) hb8)) ?_
        refine XL_cons rfl (X_of_Y0 rfl (E_assign (Bo b8) rfl (by kernel_rfl))) ?_
        refine XL_nil ?_
        kernel_rfl
  refine V_ret ?_
  obtain rfl := some_inj h
  show Post _ _ _ _ _
  exact ⟨.inr rfl, rfl, rfl, rfl⟩
theorem cf_spec_foMatrix : ∀ args w, (callFunc 127 args).run Try.prog w = .ok (.enter 127 args) w := run_callFunc Try.func127 (by kernel_rfl) (by kernel_rfl)
set_option maxRecDepth 100000 in
set_option maxHeartbeats 400000 in
theorem s_spec_foMatrix {vm1 : (Int × Int × Int × Int)} {r : Bool} (h : r_spec_foMatrix vm1 = some r) : CallS Try.prog 127 [.ag [Ti vm1.1, Ti vm1.2.1, Ti vm1.2.2.1, Ti vm1.2.2.2]] (Bo r) [] := by
  refine CallS_of_text (rs := [.t 2]) (vs := [.tmp 2]) Try.func127 rfl rfl (.cons rfl FitsL.nil) (by decide) 21 rfl ?_
  unfold r_spec_foMatrix at h
  show V _ _ ⟨[.ag [Ti vm1.1, Ti vm1.2.1, Ti vm1.2.2.1, Ti vm1.2.2.2], .bot, .bot, .bot, .bot, .bot, .bot, .bot, .bot, .bot, .bot, .bot, .bot, .bot, .bot, .bot, .bot, .bot, .bot, .bot, .bot], []⟩ _
  refine V_sreg [false, true, false, false, false, false, false, false, false, false, false, false, false, false, false, false, false, false, false, false, false] [8] (s1 := ⟨[.bot, .pt 8 0, .bot, .bot, .bot, .bot, .bot, .bot, .bot, .bot, .bot, .bot, .bot, .bot, .bot, .bot, .bot, .bot, .bot, .bot, .bot], [(8, .box [Ti vm1.1, Ti vm1.2.1, Ti vm1.2.2.1, Ti vm1.2.2.2])]⟩) ?_ ?_
  · refine XL_cons rfl (X_of_Y1 rfl (Y1_box (cs := [Ti vm1.1, Ti vm1.2.1, Ti vm1.2.2.1, Ti vm1.2.2.2]) rfl (by kernel_rfl))) ?_
    refine XL_cons rfl (X_of_Y0 rfl (E_assign (Bo false) rfl (by kernel_rfl))) ?_
    refine XL_nil ?_
    kernel_rfl
  obtain ⟨y2, hy2, h⟩ := of_bind h
  obtain ⟨b5, hb5, h⟩ := of_bind h
  obtain ⟨b8, hb8, h⟩ := of_bind h
  obtain ⟨b11, hb11, h⟩ := of_bind h
  refine V_sreg [false, false, true, false, false, false, false, false, false, false, false, false, false, false, false, false, false, false, false, false, false] [] (s1 := ⟨[.bot, .bot, Bo b11, .bot, .bot, .bot, .bot, .bot, .bot, .bot, .bot, .bot, .bot, .bot, .bot, .bot, .bot, .bot, .bot, .bot, .bot], []⟩) ?_ ?_
  · refine XL_cons rfl (X_of_Y0 rfl (E_field (.pt 8 0) Try.underlying27 rfl sz3 rfl (by kernel_rfl) (by intro hh; cases hh))) ?_
    refine XL_cons rfl (X_of_Y0 rfl (Y0_load1 (c := Ti vm1.1) (cs := [Ti vm1.2.1, Ti vm1.2.2.1, Ti vm1.2.2.2]) sc3 rfl (by kernel_rfl))) ?_
    refine XL_cons rfl (X_of_Y1 rfl (Y1_call (s_spec_nuGood hy2) cf_spec_nuGood rfl (by kernel_rfl))) ?_
    refine XL_cons rfl (X_of_Y0 rfl (E_move (Bo y2) rfl (by kernel_rfl))) ?_
    refine XL_split y2 (fun hc3 => ?_) (fun hc3 => ?_)
    · have hb5 := of_true hb5 hc3
      obtain ⟨y4, hy4, hb5⟩ := of_bind hb5
      have hb5 := some_inj hb5
      refine XL_takeC (y2) rfl rfl (by kernel_rfl) hc3 (X_of_Y0 rfl (E_field (.pt 8 1) Try.underlying27 rfl sz3 rfl (by kernel_rfl) (by intro hh; cases hh))) ?_
      refine XL_takeC (y2) rfl rfl (by kernel_rfl) hc3 (X_of_Y0 rfl (Y0_load1 (c := Ti vm1.2.1) (cs := [Ti vm1.2.2.1, Ti vm1.2.2.2]) sc3 rfl (by kernel_rfl))) ?_
      refine XL_takeC (y2) rfl rfl (by kernel_rfl) hc3 (X_of_Y1 rfl (Y1_call (s_spec_nuGood hy4) cf_spec_nuGood rfl (by kernel_rfl))) ?_
      refine XL_cons rfl (X_of_Y0 rfl (Y0_pickTe (b := y2) (p := y4) rfl (by kernel_rfl) hc3 (by kernel_rfl) hb5)) ?_
      refine XL_cons rfl (X_of_Y0 rfl (E_move (Bo b5) rfl (by kernel_rfl))) ?_
      refine XL_split b5 (fun hc6 => ?_) (fun hc6 => ?_)
      · have hb8 := of_true hb8 hc6
        obtain ⟨y7, hy7, hb8⟩ := of_bind hb8
        have hb8 := some_inj hb8
        refine XL_takeC (b5) rfl rfl (by kernel_rfl) hc6 (X_of_Y0 rfl (E_field (.pt 8 2) Try.underlying27 rfl sz3 rfl (by kernel_rfl) (by intro hh; cases hh))) ?_
        refine XL_takeC (b5) rfl rfl (by kernel_rfl) hc6 (X_of_Y0 rfl (Y0_load1 (c := Ti vm1.2.2.1) (cs := [Ti vm1.2.2.2]) sc3 rfl (by kernel_rfl))) ?_
        refine XL_takeC (b5) rfl rfl (by kernel_rfl) hc6 (X_of_Y1 rfl (Y1_call (s_spec_nuGood hy7) cf_spec_nuGood rfl (by kernel_rfl))) ?_
        refine XL_cons rfl (X_of_Y0 rfl (Y0_pickTe (b := b5) (p := y7) rfl (by kernel_rfl) hc6 (by kernel_rfl) hb8)) ?_
        refine XL_cons rfl (X_of_Y0 rfl (E_move (Bo b8) rfl (by kernel_rfl))) ?_
        refine XL_split b8 (fun hc9 => ?_) (fun hc9 => ?_)
        · have hb11 := of_true hb11 hc9
          obtain ⟨y10, hy10, hb11⟩ := of_bind hb11
          have hb11 := some_inj hb11
          refine XL_takeC (b8) rfl rfl (by kernel_rfl) hc9 (X_of_Y0 rfl (E_field (.pt 8 3) Try.underlying27 rfl sz3 rfl (by kernel_rfl) (by intro hh; cases hh))) ?_
          refine XL_takeC (b8) rfl rfl (by kernel_rfl) hc9 (X_of_Y0 rfl (Y0_load1 (c := Ti vm1.2.2.2) (cs := []) sc3 rfl (by kernel_rfl))) ?_
          refine XL_takeC (b8) rfl rfl (by kernel_rfl) hc9 (X_of_Y1 rfl (Y1_call (s_spec_nuGood hy10) cf_spec_nuGood rfl (by kernel_rfl))) ?_
          refine XL_cons rfl (X_of_Y0 rfl (Y0_pickTe (b := b8) (p := y10) rfl (by kernel_rfl) hc9 (by kernel_rfl) hb11)) ?_
          refine XL_cons rfl (X_of_Y0 rfl (E_assign (Bo b11) rfl (by kernel_rfl))) ?_
          refine XL_nil ?_
          kernel_rfl
        · have hb11 := some_inj (of_false hb11 hc9)
          refine XL_skipT (b8) rfl rfl (by kernel_rfl) hc9 rfl ?_
          refine XL_skipT (b8) rfl rfl (by kernel_rfl) hc9 rfl ?_
          refine XL_skipT (b8) rfl rfl (by kernel_rfl) hc9 rfl ?_
          refine XL_cons rfl (X_of_Y0 rfl (Y0_pickFe (b := b8) (p := false) rfl (by kernel_rfl) hc9 (by kernel_rfl) hb11)) ?_
          refine XL_cons rfl (X_of_Y0 rfl (E_assign (Bo b11) rfl (by kernel_rfl))) ?_
          refine XL_nil ?_
          kernel_rfl
      · have hb8 := some_inj (of_false hb8 hc6)
        refine XL_skipT (b5) rfl rfl (by kernel_rfl) hc6 rfl ?_
        refine XL_skipT (b5) rfl rfl (by kernel_rfl) hc6 rfl ?_
        refine XL_skipT (b5) rfl rfl (by kernel_rfl) hc6 rfl ?_
        refine XL_cons rfl (X_of_Y0 rfl (Y0_pickFe (b := b5) (p := false) rfl (by kernel_rfl) hc6 (by kernel_rfl) hb8)) ?_
        refine XL_cons rfl (X_of_Y0 rfl (E_move (Bo b8) rfl (by kernel_rfl))) ?_
        refine XL_split b8 (fun hc9 => ?_) (fun hc9 => ?_)
        · have hb11 := of_true hb11 hc9
          obtain ⟨y10, hy10, hb11⟩ := of_bind hb11
          have hb11 := some_inj hb11
          refine XL_takeC (b8) rfl rfl (by kernel_rfl) hc9 (X_of_Y0 rfl (E_field (.pt 8 3) Try.underlying27 rfl sz3 rfl (by kernel_rfl) (by intro hh; cases hh))) ?_
          refine XL_takeC (b8) rfl rfl (by kernel_rfl) hc9 (X_of_Y0 rfl (Y0_load1 (c := Ti vm1.2.2.2) (cs := []) sc3 rfl (by kernel_rfl))) ?_
          refine XL_takeC (b8) rfl rfl (by kernel_rfl) hc9 (X_of_Y1 rfl (Y1_call (s_spec_nuGood hy10) cf_spec_nuGood rfl (by kernel_rfl))) ?_
          refine XL_cons rfl (X_of_Y0 rfl (Y0_pickTe (b := b8) (p := y10) rfl (by kernel_rfl) hc9 (by kernel_rfl) hb11)) ?_
          refine XL_cons rfl (X_of_Y0 rfl (E_assign (Bo b11) rfl (by kernel_rfl))) ?_
          refine XL_nil ?_
          kernel_rfl
        · have hb11 := some_inj (of_false hb11 hc9)
          refine XL_skipT (b8) rfl rfl (by kernel_rfl) hc9 rfl ?_
          refine XL_skipT (b8) rfl rfl (by kernel_rfl) hc9 rfl ?_
          refine XL_skipT (b8) rfl rfl (by kernel_rfl) hc9 rfl ?_
          refine XL_cons rfl (X_of_Y0 rfl (Y0_pickFe (b := b8) (p := false) rfl (by kernel_rfl) hc9 (by kernel_rfl) hb11)) ?_
          refine XL_cons rfl (X_of_Y0 rfl (E_assign (Bo b11) rfl (by kernel_rfl))) ?_
          refine XL_nil ?_
          kernel_rfl
    · have hb5 := some_inj (of_false hb5 hc3)
      refine XL_skipT (y2) rfl rfl (by kernel_rfl) hc3 rfl ?_
      refine XL_skipT (y2) rfl rfl (by kernel_rfl) hc3 rfl ?_
      refine XL_skipT (y2) rfl rfl (by kernel_rfl) hc3 rfl ?_
      refine XL_cons rfl (X_of_Y0 rfl (Y0_pickFe (b := y2) (p := false) rfl (by kernel_rfl) hc3 (by kernel_rfl) hb5)) ?_
      refine XL_cons rfl (X_of_Y0 rfl (E_move (Bo b5) rfl (by kernel_rfl))) ?_
      refine XL_split b5 (fun hc6 => ?_) (fun hc6 => ?_)
      · have hb8 := of_true hb8 hc6
        obtain ⟨y7, hy7, hb8⟩ := of_bind hb8
        have hb8 := some_inj hb8
        refine XL_takeC (b5) rfl rfl (by kernel_rfl) hc6 (X_of_Y0 rfl (E_field (.pt 8 2) Try.underlying27 rfl sz3 rfl (by kernel_rfl) (by intro hh; cases hh))) ?_
        refine XL_takeC (b5) rfl rfl (by kernel_rfl) hc6 (X_of_Y0 rfl (Y0_load1 (c := Ti vm1.2.2.1) (cs := [Ti vm1.2.2.2]) sc3 rfl (by kernel_rfl))) ?_
        refine XL_takeC (b5) rfl rfl (by kernel_rfl) hc6 (X_of_Y1 rfl (Y1_call (s_spec_nuGood hy7) cf_spec_nuGood rfl (by kernel_rfl))) ?_
        refine XL_cons rfl (X_of_Y0 rfl (Y0_pickTe (b := b5) (p := y7) rfl (by kernel_rfl) hc6 (by kernel_rfl) hb8)) ?_
        refine XL_cons rfl (X_of_Y0 rfl (E_move (Bo b8) rfl (by kernel_rfl))) ?_
        refine XL_split b8 (fun hc9 => ?_) (fun hc9 => ?_)
        · have hb11 := of_true hb11 hc9
          obtain ⟨y10, hy10, hb11⟩ := of_bind hb11
          have hb11 := some_inj hb11
          refine XL_takeC (b8) rfl rfl (by kernel_rfl) hc9 (X_of_Y0 rfl (E_field (.pt 8 3) Try.underlying27 rfl sz3 rfl (by kernel_rfl) (by intro hh; cases hh))) ?_
          refine XL_takeC (b8) rfl rfl (by kernel_rfl) hc9 (X_of_Y0 rfl (Y0_load1 (c := Ti vm1.2.2.2) (cs := []) sc3 rfl (by kernel_rfl))) ?_
          refine XL_takeC (b8) rfl rfl (by kernel_rfl) hc9 (X_of_Y1 rfl (Y1_call (s_spec_nuGood hy10) cf_spec_nuGood rfl (by kernel_rfl))) ?_
          refine XL_cons rfl (X_of_Y0 rfl (Y0_pickTe (b := b8) (p := y10) rfl (by kernel_rfl) hc9 (by kernel_rfl) hb11)) ?_
          refine XL_cons rfl (X_of_Y0 rfl (E_assign (Bo b11) rfl (by kernel_rfl))) ?_
          refine XL_nil ?_
          kernel_rfl
        · have hb11 := some_inj (of_false hb11 hc9)
          refine XL_skipT (b8) rfl rfl (by kernel_rfl) hc9 rfl ?_
          refine XL_skipT (b8) rfl rfl (by kernel_rfl) hc9 rfl ?_
          refine XL_skipT (b8) rfl rfl (by kernel_rfl) hc9 rfl ?_
          refine XL_cons rfl (X_of_Y0 rfl (Y0_pickFe (b := b8) (p := false) rfl (by kernel_rfl) hc9 (by kernel_rfl) hb11)) ?_
          refine XL_cons rfl (X_of_Y0 rfl (E_assign (Bo b11) rfl (by kernel_rfl))) ?_
          refine XL_nil ?_
          kernel_rfl
      · have hb8 := some_inj (of_false hb8 hc6)
        refine XL_skipT (b5) rfl rfl (by kernel_rfl) hc6 rfl ?_
        refine XL_skipT (b5) rfl rfl (by kernel_rfl) hc6 rfl ?_
        refine XL_skipT (b5) rfl rfl (by kernel_rfl) hc6 rfl ?_
        refine XL_cons rfl (X_of_Y0 rfl (Y0_pickFe (b := b5) (p := false) rfl (by kernel_rfl) hc6 (by kernel_rfl) hb8)) ?_
        refine XL_cons rfl (X_of_Y0 rfl (E_move (Bo b8) rfl (by kernel_rfl))) ?_
        refine XL_split b8 (fun hc9 => ?_) (fun hc9 => ?_)
        · have hb11 := of_true hb11 hc9
          obtain ⟨y10, hy10, hb11⟩ := of_bind hb11
          have hb11 := some_inj hb11
          refine XL_takeC (b8) rfl rfl (by kernel_rfl) hc9 (X_of_Y0 rfl (E_field (.pt 8 3) Try.underlying27 rfl sz3 rfl (by kernel_rfl) (by intro hh; cases hh))) ?_
          refine XL_takeC (b8) rfl rfl (by kernel_rfl) hc9 (X_of_Y0 rfl (Y0_load1 (c := Ti vm1.2.2.2) (cs := []) sc3 rfl (by kernel_rfl))) ?_
          refine XL_takeC (b8) rfl rfl (by kernel_rfl) hc9 (X_of_Y1 rfl (Y1_call (s_spec_nuGood hy10) cf_spec_nuGood rfl (by kernel_rfl))) ?_
          refine XL_cons rfl (X_of_Y0 rfl (Y0_pickTe (b := b8) (p := y10) rfl (by kernel_rfl) hc9 (by kernel_rfl) hb11)) ?_
          refine XL_cons rfl (X_of_Y0 rfl (E_assign (Bo b11) rfl (by kernel_rfl))) ?_
          refine XL_nil ?_
          kernel_rfl
        · have hb11 := some_inj (of_false hb11 hc9)
          refine XL_skipT (b8) rfl rfl (by kernel_rfl) hc9 rfl ?_
          refine XL_skipT (b8) rfl rfl (by kernel_rfl) hc9 rfl ?_
          refine XL_skipT (b8) rfl rfl (by kernel_rfl) hc9 rfl ?_
          refine XL_cons rfl (X_of_Y0 rfl (Y0_pickFe (b := b8) (p := false) rfl (by kernel_rfl) hc9 (by kernel_rfl) hb11)) ?_
          refine XL_cons rfl (X_of_Y0 rfl (E_assign (Bo b11) rfl (by kernel_rfl))) ?_
          refine XL_nil ?_
          kernel_rfl
  refine V_ret ?_
  obtain rfl := some_inj h
  show Post _ _ _ _ _
  exact ⟨.inr rfl, rfl, rfl, rfl⟩
theorem cf_spec_foValue : ∀ args w, (callFunc 223 args).run Try.prog w = .ok (.enter 223 args) w := run_callFunc Try.func223 (by kernel_rfl) (by kernel_rfl)
set_option maxRecDepth 100000 in
set_option maxHeartbeats 400000 in
theorem s_spec_foValue {f1 : (Int × Int × Int)} {x2 : Int} {y3 : Int} {r : Int} (h : r_spec_foValue f1 x2 y3 = some r) : CallS Try.prog 223 [.ag [Ti f1.1, Ti f1.2.1, Ti f1.2.2], I x2, I y3] (I r) [] := by
  refine CallS_of_text (rs := [.t 6]) (vs := [.tmp 6]) Try.func223 rfl rfl (.cons rfl FitsL.nil) (by decide) 27 rfl ?_
  unfold r_spec_foValue at h
  show V _ _ ⟨[.ag [Ti f1.1, Ti f1.2.1, Ti f1.2.2], I x2, I y3, .bot, .bot, .bot, .bot, .bot, .bot, .bot, .bot, .bot, .bot, .bot, .bot, .bot, .bot, .bot, .bot, .bot, .bot, .bot, .bot, .bot, .bot, .bot, .bot], []⟩ _
  refine V_sreg [false, true, true, true, false, false, false, false, false, false, false, false, false, false, false, false, false, false, false, false, false, false, false, false, false, false, false] [24] (s1 := ⟨[.bot, I x2, I y3, .pt 24 0, .bot, .bot, .bot, .bot, .bot, .bot, .bot, .bot, .bot, .bot, .bot, .bot, .bot, .bot, .bot, .bot, .bot, .bot, .bot, .bot, .bot, .bot, .bot], [(24, .box [Ti f1.1, Ti f1.2.1, Ti f1.2.2])]⟩) ?_ ?_
  · refine XL_cons rfl (X_of_Y1 rfl (Y1_box (cs := [Ti f1.1, Ti f1.2.1, Ti f1.2.2]) rfl (by kernel_rfl))) ?_
    refine XL_cons rfl (X_of_Y0 rfl (E_assign (I 0) rfl (by kernel_rfl))) ?_
    refine XL_nil ?_
    kernel_rfl
  obtain ⟨t4, ht4, h⟩ := of_sI h
  refine V_sreg [false, false, false, false, false, false, true, false, false, false, false, false, false, false, false, false, false, false, false, false, false, false, false, false, false, false, false] [] (s1 := ⟨[.bot, .bot, .bot, .bot, .bot, .bot, I t4, .bot, .bot, .bot, .bot, .bot, .bot, .bot, .bot, .bot, .bot, .bot, .bot, .bot, .bot, .bot, .bot, .bot, .bot, .bot, .bot], []⟩) ?_ ?_
  · refine XL_cons rfl (X_of_Y0 rfl (E_field (.pt 24 0) Try.underlying25 rfl sz3 rfl (by kernel_rfl) (by intro hh; cases hh))) ?_
    refine XL_cons rfl (X_of_Y0 rfl (Y0_load1 (c := Ti f1.1) (cs := [Ti f1.2.1, Ti f1.2.2]) sc3 rfl (by kernel_rfl))) ?_
    refine XL_cons rfl (X_of_Y0 rfl (E_move (I x2) rfl (by kernel_rfl))) ?_
    refine XL_cons rfl (X_of_Y0 rfl (Y0_mul64 (a := f1.1) (b := x2) rfl (by kernel_rfl) (by kernel_rfl))) ?_
    refine XL_cons rfl (X_of_Y0 rfl (E_move (I x2) rfl (by kernel_rfl))) ?_
    refine XL_cons rfl (X_of_Y0 rfl (Y0_mul64 (a := w64 (f1.1 * x2)) (b := x2) rfl (by kernel_rfl) (by kernel_rfl))) ?_
    refine XL_cons rfl (X_of_Y0 rfl (E_field (.pt 24 1) Try.underlying25 rfl sz3 rfl (by kernel_rfl) (by intro hh; cases hh))) ?_
    refine XL_cons rfl (X_of_Y0 rfl (Y0_load1 (c := Ti f1.2.1) (cs := [Ti f1.2.2]) sc3 rfl (by kernel_rfl))) ?_
    refine XL_cons rfl (X_of_Y0 rfl (E_move (I x2) rfl (by kernel_rfl))) ?_
    refine XL_cons rfl (X_of_Y0 rfl (Y0_mul64 (a := f1.2.1) (b := x2) rfl (by kernel_rfl) (by kernel_rfl))) ?_
    refine XL_cons rfl (X_of_Y0 rfl (E_move (I y3) rfl (by kernel_rfl))) ?_
    refine XL_cons rfl (X_of_Y0 rfl (Y0_mul64 (a := w64 (f1.2.1 * x2)) (b := y3) rfl (by kernel_rfl) (by kernel_rfl))) ?_
    refine XL_cons rfl (X_of_Y0 rfl (Y0_add64 (a := w64 ((w64 (f1.1 * x2)) * x2)) (b := w64 ((w64 (f1.2.1 * x2)) * y3)) rfl (by kernel_rfl) (by kernel_rfl))) ?_
    refine XL_cons rfl (X_of_Y0 rfl (E_field (.pt 24 2) Try.underlying25 rfl sz3 rfl (by kernel_rfl) (by intro hh; cases hh))) ?_
    refine XL_cons rfl (X_of_Y0 rfl (Y0_load1 (c := Ti f1.2.2) (cs := []) sc3 rfl (by kernel_rfl))) ?_
    refine XL_cons rfl (X_of_Y0 rfl (E_move (I y3) rfl (by kernel_rfl))) ?_
    refine XL_cons rfl (X_of_Y0 rfl (Y0_mul64 (a := f1.2.2) (b := y3) rfl (by kernel_rfl) (by kernel_rfl))) ?_
    refine XL_cons rfl (X_of_Y0 rfl (E_move (I y3) rfl (by kernel_rfl))) ?_
    refine XL_cons rfl (X_of_Y0 rfl (Y0_mul64 (a := w64 (f1.2.2 * y3)) (b := y3) rfl (by kernel_rfl) (by kernel_rfl))) ?_
    refine XL_cons rfl (X_of_Y0 rfl (Y0_add64 (a := w64 ((w64 ((w64 (f1.1 * x2)) * x2)) + (w64 ((w64 (f1.2.1 * x2)) * y3)))) (b := w64 ((w64 (f1.2.2 * y3)) * y3)) rfl (by kernel_rfl) (by kernel_rfl))) ?_
    refine XL_cons rfl (X_of_Y0 rfl (E_assign (I (w64 ((w64 ((w64 ((w64 (f1.1 * x2)) * x2)) + (w64 ((w64 (f1.2.1 * x2)) * y3)))) + (w64 ((w64 (f1.2.2 * y3)) * y3))))) rfl (by kernel_rfl))) ?_
    refine XL_nil ?_
    subst ht4
    kernel_rfl
  refine V_ret ?_
  obtain rfl := some_inj h
  show Post _ _ _ _ _
  exact ⟨.inr rfl, rfl, rfl, rfl⟩
theorem cf_spec_foPolar : ∀ args w, (callFunc 250 args).run Try.prog w = .ok (.enter 250 args) w := run_callFunc Try.func250 (by kernel_rfl) (by kernel_rfl)
set_option maxRecDepth 100000 in
set_option maxHeartbeats 400000 in
theorem s_spec_foPolar {f1 : (Int × Int × Int)} {x2 : Int} {y3 : Int} {u4 : Int} {v5 : Int} {r : Int} (h : r_spec_foPolar f1 x2 y3 u4 v5 = some r) : CallS Try.prog 250 [.ag [Ti f1.1, Ti f1.2.1, Ti f1.2.2], I x2, I y3, I u4, I v5] (I r) [] := by
  refine CallS_of_text (rs := [.t 10]) (vs := [.tmp 10]) Try.func250 rfl rfl (.cons rfl FitsL.nil) (by decide) 37 rfl ?_
  unfold r_spec_foPolar at h
  show V _ _ ⟨[.ag [Ti f1.1, Ti f1.2.1, Ti f1.2.2], I x2, I y3, I u4, I v5, .bot, .bot, .bot, .bot, .bot, .bot, .bot, .bot, .bot, .bot, .bot, .bot, .bot, .bot, .bot, .bot, .bot, .bot, .bot, .bot, .bot, .bot, .bot, .bot, .bot, .bot, .bot, .bot, .bot, .bot, .bot, .bot], []⟩ _
  refine V_sreg [false, true, true, true, true, true, false, false, false, false, false, false, false, false, false, false, false, false, false, false, false, false, false, false, false, false, false, false, false, false, false, false, false, false, false, false, false] [40] (s1 := ⟨[.bot, I x2, I y3, I u4, I v5, .pt 40 0, .bot, .bot, .bot, .bot, .bot, .bot, .bot, .bot, .bot, .bot, .bot, .bot, .bot, .bot, .bot, .bot, .bot, .bot, .bot, .bot, .bot, .bot, .bot, .bot, .bot, .bot, .bot, .bot, .bot, .bot, .bot], [(40, .box [Ti f1.1, Ti f1.2.1, Ti f1.2.2])]⟩) ?_ ?_
  · refine XL_cons rfl (X_of_Y1 rfl (Y1_box (cs := [Ti f1.1, Ti f1.2.1, Ti f1.2.2]) rfl (by kernel_rfl))) ?_
    refine XL_cons rfl (X_of_Y0 rfl (E_assign (I 0) rfl (by kernel_rfl))) ?_
    refine XL_nil ?_
    kernel_rfl
  obtain ⟨t6, ht6, h⟩ := of_sI h
  refine V_sreg [false, false, false, false, false, false, false, false, false, false, true, false, false, false, false, false, false, false, false, false, false, false, false, false, false, false, false, false, false, false, false, false, false, false, false, false, false] [] (s1 := ⟨[.bot, .bot, .bot, .bot, .bot, .bot, .bot, .bot, .bot, .bot, I t6, .bot, .bot, .bot, .bot, .bot, .bot, .bot, .bot, .bot, .bot, .bot, .bot, .bot, .bot, .bot, .bot, .bot, .bot, .bot, .bot, .bot, .bot, .bot, .bot, .bot, .bot], []⟩) ?_ ?_
  · refine XL_cons rfl (X_of_Y0 rfl (E_field (.pt 40 0) Try.underlying25 rfl sz3 rfl (by kernel_rfl) (by intro hh; cases hh))) ?_
    refine XL_cons rfl (X_of_Y0 rfl (Y0_load1 (c := Ti f1.1) (cs := [Ti f1.2.1, Ti f1.2.2]) sc3 rfl (by kernel_rfl))) ?_
    refine XL_cons rfl (X_of_Y0 rfl (Y0_mul64 (a := 2) (b := f1.1) rfl (by kernel_rfl) (by kernel_rfl))) ?_
    refine XL_cons rfl (X_of_Y0 rfl (E_move (I x2) rfl (by kernel_rfl))) ?_
    refine XL_cons rfl (X_of_Y0 rfl (Y0_mul64 (a := w64 (2 * f1.1)) (b := x2) rfl (by kernel_rfl) (by kernel_rfl))) ?_
    refine XL_cons rfl (X_of_Y0 rfl (E_move (I u4) rfl (by kernel_rfl))) ?_
    refine XL_cons rfl (X_of_Y0 rfl (Y0_mul64 (a := w64 ((w64 (2 * f1.1)) * x2)) (b := u4) rfl (by kernel_rfl) (by kernel_rfl))) ?_
    refine XL_cons rfl (X_of_Y0 rfl (E_field (.pt 40 1) Try.underlying25 rfl sz3 rfl (by kernel_rfl) (by intro hh; cases hh))) ?_
    refine XL_cons rfl (X_of_Y0 rfl (Y0_load1 (c := Ti f1.2.1) (cs := [Ti f1.2.2]) sc3 rfl (by kernel_rfl))) ?_
    refine XL_cons rfl (X_of_Y0 rfl (E_move (I x2) rfl (by kernel_rfl))) ?_
    refine XL_cons rfl (X_of_Y0 rfl (E_move (I v5) rfl (by kernel_rfl))) ?_
    refine XL_cons rfl (X_of_Y0 rfl (Y0_mul64 (a := x2) (b := v5) rfl (by kernel_rfl) (by kernel_rfl))) ?_
    refine XL_cons rfl (X_of_Y0 rfl (E_move (I y3) rfl (by kernel_rfl))) ?_
    refine XL_cons rfl (X_of_Y0 rfl (E_move (I u4) rfl (by kernel_rfl))) ?_
    refine XL_cons rfl (X_of_Y0 rfl (Y0_mul64 (a := y3) (b := u4) rfl (by kernel_rfl) (by kernel_rfl))) ?_
    refine XL_cons rfl (X_of_Y0 rfl (Y0_add64 (a := w64 (x2 * v5)) (b := w64 (y3 * u4)) rfl (by kernel_rfl) (by kernel_rfl))) ?_
    refine XL_cons rfl (X_of_Y0 rfl (Y0_mul64 (a := f1.2.1) (b := w64 ((w64 (x2 * v5)) + (w64 (y3 * u4)))) rfl (by kernel_rfl) (by kernel_rfl))) ?_
    refine XL_cons rfl (X_of_Y0 rfl (Y0_add64 (a := w64 ((w64 ((w64 (2 * f1.1)) * x2)) * u4)) (b := w64 (f1.2.1 * (w64 ((w64 (x2 * v5)) + (w64 (y3 * u4)))))) rfl (by kernel_rfl) (by kernel_rfl))) ?_
    refine XL_cons rfl (X_of_Y0 rfl (E_field (.pt 40 2) Try.underlying25 rfl sz3 rfl (by kernel_rfl) (by intro hh; cases hh))) ?_
    refine XL_cons rfl (X_of_Y0 rfl (Y0_load1 (c := Ti f1.2.2) (cs := []) sc3 rfl (by kernel_rfl))) ?_
    refine XL_cons rfl (X_of_Y0 rfl (Y0_mul64 (a := 2) (b := f1.2.2) rfl (by kernel_rfl) (by kernel_rfl))) ?_
    refine XL_cons rfl (X_of_Y0 rfl (E_move (I y3) rfl (by kernel_rfl))) ?_
    refine XL_cons rfl (X_of_Y0 rfl (Y0_mul64 (a := w64 (2 * f1.2.2)) (b := y3) rfl (by kernel_rfl) (by kernel_rfl))) ?_
    refine XL_cons rfl (X_of_Y0 rfl (E_move (I v5) rfl (by kernel_rfl))) ?_
    refine XL_cons rfl (X_of_Y0 rfl (Y0_mul64 (a := w64 ((w64 (2 * f1.2.2)) * y3)) (b := v5) rfl (by kernel_rfl) (by kernel_rfl))) ?_
    refine XL_cons rfl (X_of_Y0 rfl (Y0_add64 (a := w64 ((w64 ((w64 ((w64 (2 * f1.1)) * x2)) * u4)) + (w64 (f1.2.1 * (w64 ((w64 (x2 * v5)) + (w64 (y3 * u4)))))))) (b := w64 ((w64 ((w64 (2 * f1.2.2)) * y3)) * v5)) rfl (by kernel_rfl) (by kernel_rfl))) ?_
    refine XL_cons rfl (X_of_Y0 rfl (E_assign (I (w64 ((w64 ((w64 ((w64 ((w64 (2 * f1.1)) * x2)) * u4)) + (w64 (f1.2.1 * (w64 ((w64 (x2 * v5)) + (w64 (y3 * u4)))))))) + (w64 ((w64 ((w64 (2 * f1.2.2)) * y3)) * v5))))) rfl (by kernel_rfl))) ?_
    refine XL_nil ?_
    subst ht6
    kernel_rfl
  refine V_ret ?_
  obtain rfl := some_inj h
  show Post _ _ _ _ _
  exact ⟨.inr rfl, rfl, rfl, rfl⟩
theorem cf_spec_foAct : ∀ args w, (callFunc 128 args).run Try.prog w = .ok (.enter 128 args) w := run_callFunc Try.func128 (by kernel_rfl) (by kernel_rfl)
set_option maxRecDepth 100000 in
set_option maxHeartbeats 400000 in
theorem s_spec_foAct {f1 : (Int × Int × Int)} {vm2 : (Int × Int × Int × Int)} {r : (Int × Int × Int)} (h : r_spec_foAct f1 vm2 = some r) : CallS Try.prog 128 [.ag [Ti f1.1, Ti f1.2.1, Ti f1.2.2], .ag [Ti vm2.1, Ti vm2.2.1, Ti vm2.2.2.1, Ti vm2.2.2.2]] (.ag [Ti r.1, Ti r.2.1, Ti r.2.2]) [] := by
  refine CallS_of_text (rs := [.w 4 3]) (vs := [.cell 4 25]) Try.func128 rfl rfl (.cons ⟨rfl, wd25⟩ FitsL.nil) (by decide) 28 rfl ?_
  unfold r_spec_foAct at h
  show V _ _ ⟨[.ag [Ti f1.1, Ti f1.2.1, Ti f1.2.2], .ag [Ti vm2.1, Ti vm2.2.1, Ti vm2.2.2.1, Ti vm2.2.2.2], .bot, .bot, .bot, .bot, .bot, .bot, .bot, .bot, .bot, .bot, .bot, .bot, .bot, .bot, .bot, .bot, .bot, .bot, .bot, .bot, .bot, .bot, .bot, .bot, .bot, .bot], []⟩ _
  refine V_sreg [false, false, true, true, true, false, false, false, false, false, false, false, false, false, false, false, false, false, false, false, false, false, false, false, false, false, false, false] [32, 24, 16] (s1 := ⟨[.bot, .bot, .pt 16 0, .pt 24 0, .pt 32 0, .bot, .bot, .bot, .bot, .bot, .bot, .bot, .bot, .bot, .bot, .bot, .bot, .bot, .bot, .bot, .bot, .bot, .bot, .bot, .bot, .bot, .bot, .bot], [(32, .box [Ti 0, Ti 0, Ti 0]), (24, .box [Ti vm2.1, Ti vm2.2.1, Ti vm2.2.2.1, Ti vm2.2.2.2]), (16, .box [Ti f1.1, Ti f1.2.1, Ti f1.2.2])]⟩) ?_ ?_
  · refine XL_cons rfl (X_of_Y1 rfl (Y1_box (cs := [Ti f1.1, Ti f1.2.1, Ti f1.2.2]) rfl (by kernel_rfl))) ?_
    refine XL_cons rfl (X_of_Y1 rfl (Y1_box (cs := [Ti vm2.1, Ti vm2.2.1, Ti vm2.2.2.1, Ti vm2.2.2.2]) rfl (by kernel_rfl))) ?_
    refine XL_cons rfl (X_of_Y1 rfl (Y1_alloc (z := zv25) rfl zf25 rfl)) ?_
    refine XL_nil ?_
    kernel_rfl
  obtain ⟨y3, hy3, h⟩ := of_bind h
  obtain ⟨y4, hy4, h⟩ := of_bind h
  obtain ⟨y5, hy5, h⟩ := of_bind h
  refine V_sdreg [0, 0, 2, 0, 8, 31, 0, 0, 128, 0, 512, 0, 2048, 0, 8192, 32767, 0, 0, 131072, 0, 524288, 2097151, 4194303, 8388607] 23 [[.z, .b, .b, .b, .b, .z, .b, .b, .b, .b, .b, .b, .b, .b, .b, .z, .b, .b, .b, .b, .b, .z, .z], [.b, .z, .z, .b, .b, .z, .b, .b, .b, .b, .b, .b, .b, .b, .b, .z, .b, .b, .b, .b, .b, .z, .z], [.b, .a, .z, .b, .b, .z, .b, .b, .b, .b, .b, .b, .b, .b, .b, .z, .b, .b, .b, .b, .b, .z, .z], [.b, .b, .b, .z, .z, .z, .b, .b, .b, .b, .b, .b, .b, .b, .b, .z, .b, .b, .b, .b, .b, .z, .z], [.b, .b, .b, .a, .z, .z, .b, .b, .b, .b, .b, .b, .b, .b, .b, .z, .b, .b, .b, .b, .b, .z, .z], [.a, .a, .a, .a, .a, .z, .b, .b, .b, .b, .b, .b, .b, .b, .b, .z, .b, .b, .b, .b, .b, .z, .z], [.b, .b, .b, .b, .b, .b, .z, .b, .b, .b, .b, .b, .b, .b, .b, .z, .b, .b, .b, .b, .b, .z, .z], [.b, .b, .b, .b, .b, .b, .b, .z, .z, .b, .b, .b, .b, .b, .b, .z, .b, .b, .b, .b, .b, .z, .z], [.b, .b, .b, .b, .b, .b, .b, .a, .z, .b, .b, .b, .b, .b, .b, .z, .b, .b, .b, .b, .b, .z, .z], [.b, .b, .b, .b, .b, .b, .b, .b, .b, .z, .z, .b, .b, .b, .b, .z, .b, .b, .b, .b, .b, .z, .z], [.b, .b, .b, .b, .b, .b, .b, .b, .b, .a, .z, .b, .b, .b, .b, .z, .b, .b, .b, .b, .b, .z, .z], [.b, .b, .b, .b, .b, .b, .b, .b, .b, .b, .b, .z, .z, .b, .b, .z, .b, .b, .b, .b, .b, .z, .z], [.b, .b, .b, .b, .b, .b, .b, .b, .b, .b, .b, .a, .z, .b, .b, .z, .b, .b, .b, .b, .b, .z, .z], [.b, .b, .b, .b, .b, .b, .b, .b, .b, .b, .b, .b, .b, .z, .z, .z, .b, .b, .b, .b, .b, .z, .z], [.b, .b, .b, .b, .b, .b, .b, .b, .b, .b, .b, .b, .b, .a, .z, .z, .b, .b, .b, .b, .b, .z, .z], [.a, .a, .a, .a, .a, .a, .a, .a, .a, .a, .a, .a, .a, .a, .a, .z, .b, .b, .b, .b, .b, .z, .z], [.b, .b, .b, .b, .b, .b, .b, .b, .b, .b, .b, .b, .b, .b, .b, .b, .z, .b, .b, .b, .b, .z, .z], [.b, .b, .b, .b, .b, .b, .b, .b, .b, .b, .b, .b, .b, .b, .b, .b, .b, .z, .z, .b, .b, .z, .z], [.b, .b, .b, .b, .b, .b, .b, .b, .b, .b, .b, .b, .b, .b, .b, .b, .b, .a, .z, .b, .b, .z, .z], [.b, .b, .b, .b, .b, .b, .b, .b, .b, .b, .b, .b, .b, .b, .b, .b, .b, .b, .b, .z, .z, .z, .z], [.b, .b, .b, .b, .b, .b, .b, .b, .b, .b, .b, .b, .b, .b, .b, .b, .b, .b, .b, .a, .z, .z, .z], [.a, .a, .a, .a, .a, .a, .a, .a, .a, .a, .a, .a, .a, .a, .a, .a, .a, .a, .a, .a, .a, .z, .z], [.a, .a, .a, .a, .a, .a, .a, .a, .a, .a, .a, .a, .a, .a, .a, .a, .a, .a, .a, .a, .a, .a, .z]] [false, false, false, false, true, false, false, false, false, false, false, false, false, false, false, false, false, false, false, false, false, false, false, false, false, false, false, false] [32] (s1 := ⟨[.bot, .bot, .bot, .bot, .pt 32 0, .bot, .bot, .bot, .bot, .bot, .bot, .bot, .bot, .bot, .bot, .bot, .bot, .bot, .bot, .bot, .bot, .bot, .bot, .bot, .bot, .bot, .bot, .bot], [(32, .box [Ti y3, Ti y4, Ti y5])]⟩) (by kernel_rfl) (by kernel_rfl) ?_ ?_
  · refine DE_0 0 (.ag [Ti f1.1, Ti f1.2.1, Ti f1.2.2]) (by kernel_rfl) rfl rfl rfl (gsat_none rfl) (by kernel_rfl) (E_loadn (cs := [Ti f1.1, Ti f1.2.1, Ti f1.2.2]) [Ti f1.1, Ti f1.2.1, Ti f1.2.2] wd25 rfl (by kernel_rfl) (Nat.le_of_ble_eq_true rfl) (by kernel_rfl)) 5 rfl ?_
    refine DE_0 1 (.pt 24 0) (by kernel_rfl) rfl rfl rfl (gsat_none rfl) (by kernel_rfl) (E_field (.pt 24 0) Try.underlying27 rfl sz3 rfl (by kernel_rfl) (by intro hh; cases hh)) 6 rfl ?_
    refine DE_0 2 (I vm2.1) (by kernel_rfl) rfl rfl rfl (gsat_none rfl) (by kernel_rfl) (Y0_load1 (c := Ti vm2.1) (cs := [Ti vm2.2.1, Ti vm2.2.2.1, Ti vm2.2.2.2]) sc3 rfl (by kernel_rfl)) 7 rfl ?_
    refine DE_0 3 (.pt 24 2) (by kernel_rfl) rfl rfl rfl (gsat_none rfl) (by kernel_rfl) (E_field (.pt 24 2) Try.underlying27 rfl sz3 rfl (by kernel_rfl) (by intro hh; cases hh)) 8 rfl ?_
    refine DE_0 4 (I vm2.2.2.1) (by kernel_rfl) rfl rfl rfl (gsat_none rfl) (by kernel_rfl) (Y0_load1 (c := Ti vm2.2.2.1) (cs := [Ti vm2.2.2.2]) sc3 rfl (by kernel_rfl)) 9 rfl ?_
    refine DE_1 5 (by kernel_rfl) rfl rfl rfl (gsat_none rfl) (Y1_call (s_spec_foValue hy3) cf_spec_foValue rfl (by kernel_rfl)) rfl rfl rfl 10 rfl ?_
    refine DE_0 6 (.ag [Ti f1.1, Ti f1.2.1, Ti f1.2.2]) (by kernel_rfl) rfl rfl rfl (gsat_none rfl) (by kernel_rfl) (E_loadn (cs := [Ti f1.1, Ti f1.2.1, Ti f1.2.2]) [Ti f1.1, Ti f1.2.1, Ti f1.2.2] wd25 rfl (by kernel_rfl) (Nat.le_of_ble_eq_true rfl) (by kernel_rfl)) 11 rfl ?_
    refine DE_0 7 (.pt 24 0) (by kernel_rfl) rfl rfl rfl (gsat_none rfl) (by kernel_rfl) (E_field (.pt 24 0) Try.underlying27 rfl sz3 rfl (by kernel_rfl) (by intro hh; cases hh)) 12 rfl ?_
    refine DE_0 8 (I vm2.1) (by kernel_rfl) rfl rfl rfl (gsat_none rfl) (by kernel_rfl) (Y0_load1 (c := Ti vm2.1) (cs := [Ti vm2.2.1, Ti vm2.2.2.1, Ti vm2.2.2.2]) sc3 rfl (by kernel_rfl)) 13 rfl ?_
    refine DE_0 9 (.pt 24 2) (by kernel_rfl) rfl rfl rfl (gsat_none rfl) (by kernel_rfl) (E_field (.pt 24 2) Try.underlying27 rfl sz3 rfl (by kernel_rfl) (by intro hh; cases hh)) 14 rfl ?_
    refine DE_0 10 (I vm2.2.2.1) (by kernel_rfl) rfl rfl rfl (gsat_none rfl) (by kernel_rfl) (Y0_load1 (c := Ti vm2.2.2.1) (cs := [Ti vm2.2.2.2]) sc3 rfl (by kernel_rfl)) 15 rfl ?_
    refine DE_0 11 (.pt 24 1) (by kernel_rfl) rfl rfl rfl (gsat_none rfl) (by kernel_rfl) (E_field (.pt 24 1) Try.underlying27 rfl sz3 rfl (by kernel_rfl) (by intro hh; cases hh)) 16 rfl ?_
    refine DE_0 12 (I vm2.2.1) (by kernel_rfl) rfl rfl rfl (gsat_none rfl) (by kernel_rfl) (Y0_load1 (c := Ti vm2.2.1) (cs := [Ti vm2.2.2.1, Ti vm2.2.2.2]) sc3 rfl (by kernel_rfl)) 17 rfl ?_
    refine DE_0 13 (.pt 24 3) (by kernel_rfl) rfl rfl rfl (gsat_none rfl) (by kernel_rfl) (E_field (.pt 24 3) Try.underlying27 rfl sz3 rfl (by kernel_rfl) (by intro hh; cases hh)) 18 rfl ?_
    refine DE_0 14 (I vm2.2.2.2) (by kernel_rfl) rfl rfl rfl (gsat_none rfl) (by kernel_rfl) (Y0_load1 (c := Ti vm2.2.2.2) (cs := []) sc3 rfl (by kernel_rfl)) 19 rfl ?_
    refine DE_1 15 (by kernel_rfl) rfl rfl rfl (gsat_none rfl) (Y1_call (s_spec_foPolar hy4) cf_spec_foPolar rfl (by kernel_rfl)) rfl rfl rfl 20 rfl ?_
    refine DE_0 16 (.ag [Ti f1.1, Ti f1.2.1, Ti f1.2.2]) (by kernel_rfl) rfl rfl rfl (gsat_none rfl) (by kernel_rfl) (E_loadn (cs := [Ti f1.1, Ti f1.2.1, Ti f1.2.2]) [Ti f1.1, Ti f1.2.1, Ti f1.2.2] wd25 rfl (by kernel_rfl) (Nat.le_of_ble_eq_true rfl) (by kernel_rfl)) 21 rfl ?_
    refine DE_0 17 (.pt 24 1) (by kernel_rfl) rfl rfl rfl (gsat_none rfl) (by kernel_rfl) (E_field (.pt 24 1) Try.underlying27 rfl sz3 rfl (by kernel_rfl) (by intro hh; cases hh)) 22 rfl ?_
    refine DE_0 18 (I vm2.2.1) (by kernel_rfl) rfl rfl rfl (gsat_none rfl) (by kernel_rfl) (Y0_load1 (c := Ti vm2.2.1) (cs := [Ti vm2.2.2.1, Ti vm2.2.2.2]) sc3 rfl (by kernel_rfl)) 23 rfl ?_
    refine DE_0 19 (.pt 24 3) (by kernel_rfl) rfl rfl rfl (gsat_none rfl) (by kernel_rfl) (E_field (.pt 24 3) Try.underlying27 rfl sz3 rfl (by kernel_rfl) (by intro hh; cases hh)) 24 rfl ?_
    refine DE_0 20 (I vm2.2.2.2) (by kernel_rfl) rfl rfl rfl (gsat_none rfl) (by kernel_rfl) (Y0_load1 (c := Ti vm2.2.2.2) (cs := []) sc3 rfl (by kernel_rfl)) 25 rfl ?_
    refine DE_1 21 (by kernel_rfl) rfl rfl rfl (gsat_none rfl) (Y1_call (s_spec_foValue hy5) cf_spec_foValue rfl (by kernel_rfl)) rfl rfl rfl 26 rfl ?_
    refine DE_0 22 (.ag [Ti y3, Ti y4, Ti y5]) (by kernel_rfl) rfl rfl rfl (gsat_none rfl) (by kernel_rfl) (Y0_build (cs := [Ti y3, Ti y4, Ti y5]) pl25 bt25 rfl rfl (by kernel_rfl)) 27 rfl ?_
    refine DL_nil (by kernel_rfl) ?_
    refine XL_cons rfl (E_store (id := 32) (off := 0) (cs := [Ti 0, Ti 0, Ti 0]) (vc := [Ti y3, Ti y4, Ti y5]) [Ti y3, Ti y4, Ti y5] rfl rfl (by kernel_rfl) (by kernel_rfl) (by kernel_rfl) sz25 (Nat.le_of_ble_eq_true rfl) (by kernel_rfl)) ?_
    refine XL_nil ?_
    kernel_rfl
  refine V_ret ?_
  obtain rfl := some_inj h
  show Post _ _ _ _ _
  exact ⟨.inr rfl, rfl, rfl, rfl⟩
end Go.Proofs.Ytelefcfmbpdomaa
