/-
  The functions of the program compute what the plain functions say.
  Conditions: none.
-/
import Derived.Test.YtaegamgeljpboaaShZ
import Derived.Test.YtaegamgeljpboaaRcRaw
import Derived.Test.YtaegamgeljpboaaRows
namespace Go.Proofs.Ytaegamgeljpboaa
open Go.RowKit
set_option linter.unusedVariables false
set_option linter.unusedSimpArgs false
def c5 (x : Int) : List Tr := [.v (.int .u8 x)]
def c3 (x : Int) : List Tr := [Ti x]
def c37 (x : (Int × Int × Int)) : List Tr := [Ti x.1, Ti x.2.1, Ti x.2.2]
def c75 (x : (Int × Int)) : List Tr := [Ti x.1, Ti x.2]
def zv3 : Value := .int .i64 0
theorem zf3 : (Try.prog.info? 3).bind (·.zero) = some zv3 := by kernel_rfl
def zv37 : Value := .agg #[.int .i64 0, .int .i64 0, .int .i64 0]
theorem zf37 : (Try.prog.info? 37).bind (·.zero) = some zv37 := by kernel_rfl
def zv75 : Value := .agg #[.int .i64 0, .int .i64 0]
theorem zf75 : (Try.prog.info? 75).bind (·.zero) = some zv75 := by kernel_rfl
theorem iz3 : (Try.prog.info? 3).map (fun i => (i.zero, i.size)) = some (some zv3, 1) := by kernel_rfl
theorem iz37 : (Try.prog.info? 37).map (fun i => (i.zero, i.size)) = some (some zv37, 3) := by kernel_rfl
theorem iz75 : (Try.prog.info? 75).map (fun i => (i.zero, i.size)) = some (some zv75, 2) := by kernel_rfl
theorem izb3 : (Try.prog.info? 3).map (fun i => (i.zero, i.size, i.bytes)) = some (some zv3, 1, 8) := by kernel_rfl
theorem izb37 : (Try.prog.info? 37).map (fun i => (i.zero, i.size, i.bytes)) = some (some zv37, 3, 24) := by kernel_rfl
theorem izb75 : (Try.prog.info? 75).map (fun i => (i.zero, i.size, i.bytes)) = some (some zv75, 2, 16) := by kernel_rfl
theorem sc3 : scalar Try.prog 3 := ⟨_, Try.underlying3, rfl⟩
theorem sc5 : scalar Try.prog 5 := ⟨_, Try.underlying5, rfl⟩
theorem sc22 : scalar Try.prog 22 := ⟨_, Try.underlying22, rfl⟩
theorem sc60 : scalar Try.prog 60 := ⟨_, Try.underlying60, rfl⟩
theorem sz3 : (Try.prog.info? 3).map (·.size) = some 1 := by kernel_rfl
theorem sz5 : (Try.prog.info? 5).map (·.size) = some 1 := by kernel_rfl
theorem sz22 : (Try.prog.info? 22).map (·.size) = some 1 := by kernel_rfl
theorem sz37 : (Try.prog.info? 37).map (·.size) = some 3 := by kernel_rfl
theorem sz60 : (Try.prog.info? 60).map (·.size) = some 1 := by kernel_rfl
theorem sz75 : (Try.prog.info? 75).map (·.size) = some 2 := by kernel_rfl
theorem wd37 : wide Try.prog 37 3 := ⟨⟨_, Try.underlying37, rfl⟩, by kernel_rfl⟩
theorem wd75 : wide Try.prog 75 2 := ⟨⟨_, Try.underlying75, rfl⟩, by kernel_rfl⟩
def pl37 : Nat → Option (Nat × Nat) := fun i => (#[(0, 1), (1, 1), (2, 1)] : Array (Nat × Nat))[i]?
theorem bt37 : ∀ ps, Try.prog.built 37 ps = Instr.fill pl37 #[.int .i64 0, .int .i64 0, .int .i64 0] ps := fun ps => by kernel_rfl
def pl62 : Nat → Option (Nat × Nat) := fun i => (#[(0, 1), (1, 1), (2, 1)] : Array (Nat × Nat))[i]?
theorem bt62 : ∀ ps, Try.prog.built 62 ps = Instr.fill pl62 #[.slice none 0 0, .int .i64 0, .int .u64 0] ps := fun ps => by kernel_rfl
def pl75 : Nat → Option (Nat × Nat) := fun i => (#[(0, 1), (1, 1)] : Array (Nat × Nat))[i]?
theorem bt75 : ∀ ps, Try.prog.built 75 ps = Instr.fill pl75 #[.int .i64 0, .int .i64 0] ps := fun ps => by kernel_rfl
theorem eqg37 : EqAg3 Try.prog .eql 37 := by
  intro a0 a1 a2 b0 b1 b2 x y w
  have hg : (eqGuard .eql 37 x y (.agg #[.int .i64 a0, .int .i64 a1, .int .i64 a2]) (.agg #[.int .i64 b0, .int .i64 b1, .int .i64 b2])).run Try.prog w = .ok () w := by simp [eqGuard, (by kernel_rfl : Try.prog.eqGuardType Try.prog.depth 37 = false)]
  have hf : (Try.prog.fieldsOf 37).toList = (match Try.prog.underlying 37 with | some (.struct fs) => fs.toList | _ => []) := by kernel_rfl
  refine ⟨hg, ?_⟩
  rw [run_eql_struct, run_equalIn_agg (d := 9999) (ht := by kernel_rfl) (hp := by kernel_rfl), hf, Try.underlying37]
  by_cases h0 : a0 = b0 <;> by_cases h1 : a1 = b1 <;> by_cases h2 : a2 = b2 <;> simp [Op.eqFields, part, go_sem, h0, h1, h2]
theorem neg37 : EqAg3 Try.prog .neq 37 := by
  intro a0 a1 a2 b0 b1 b2 x y w
  have hg : (eqGuard .neq 37 x y (.agg #[.int .i64 a0, .int .i64 a1, .int .i64 a2]) (.agg #[.int .i64 b0, .int .i64 b1, .int .i64 b2])).run Try.prog w = .ok () w := by simp [eqGuard, (by kernel_rfl : Try.prog.eqGuardType Try.prog.depth 37 = false)]
  have hf : (Try.prog.fieldsOf 37).toList = (match Try.prog.underlying 37 with | some (.struct fs) => fs.toList | _ => []) := by kernel_rfl
  refine ⟨hg, ?_⟩
  rw [run_neq_struct, run_equalIn_agg (d := 9999) (ht := by kernel_rfl) (hp := by kernel_rfl), hf, Try.underlying37]
  by_cases h0 : a0 = b0 <;> by_cases h1 : a1 = b1 <;> by_cases h2 : a2 = b2 <;> simp [Op.eqFields, part, go_sem, h0, h1, h2]
theorem cf_laws_big : ∀ args w, (callFunc 8 args).run Try.prog w = .ok (.enter 8 args) w := run_callFunc Try.func8 (by kernel_rfl) (by kernel_rfl)
set_option maxRecDepth 100000 in
set_option maxHeartbeats 400000 in
theorem s_laws_big {code1 : List Int} {more2 : List Int} {r : Bool} (h : r_laws_big code1 more2 = some r) : CallS Try.prog 8 [.c (.sl (code1.map c5)), .c (.sl (more2.map c5))] (Bo r) [] := by
  refine CallS_of_text (rs := [.t 4]) (vs := [.tmp 4]) Try.func8 rfl rfl (.cons rfl FitsL.nil) (by decide) 16 rfl ?_
  unfold r_laws_big at h
  show V _ _ ⟨[.c (.sl (code1.map c5)), .c (.sl (more2.map c5)), .bot, .bot, .bot, .bot, .bot, .bot, .bot, .bot, .bot, .bot, .bot, .bot, .bot, .bot], []⟩ _
  refine V_sreg [true, true, false, false, false, false, false, false, false, false, false, false, false, false, false, false] [] (s1 := ⟨[.c (.sl (code1.map c5)), .c (.sl (more2.map c5)), .bot, .bot, .bot, .bot, .bot, .bot, .bot, .bot, .bot, .bot, .bot, .bot, .bot, .bot], []⟩) ?_ ?_
  · refine XL_cons rfl (X_of_Y0 rfl (E_assign (Bo false) rfl (by kernel_rfl))) ?_
    refine XL_nil ?_
    kernel_rfl
  obtain ⟨t4, ht4, h⟩ := of_bind h
  have ht4 := some_inj ht4
  refine V_sreg [false, false, false, false, true, false, false, false, false, false, false, false, false, false, false, false] [] (s1 := ⟨[.bot, .bot, .bot, .bot, Bo t4, .bot, .bot, .bot, .bot, .bot, .bot, .bot, .bot, .bot, .bot, .bot], []⟩) ?_ ?_
  · refine XL_cons rfl (X_of_Y0 rfl (E_move (.c (.sl (code1.map c5))) rfl (by kernel_rfl))) ?_
    refine XL_cons rfl (X_of_Y0 rfl (Y0_lenM (c := c5) (xs := code1) Try.underlying22 rfl (by kernel_rfl))) ?_
    refine XL_cons rfl (X_of_Y0 rfl (Y0_gtw (k := .i64) (a := (code1.length : Int)) (b := 1048576) rfl (by kernel_rfl) (by kernel_rfl))) ?_
    refine XL_cons rfl (X_of_Y0 rfl (E_move (Bo (ltI 1048576 ((code1.length : Int)))) rfl (by kernel_rfl))) ?_
    refine XL_split (ltI 1048576 ((code1.length : Int))) (fun hc3 => ?_) (fun hc3 => ?_)
    · refine XL_skipF (ltI 1048576 ((code1.length : Int))) rfl rfl (by kernel_rfl) hc3 rfl ?_
      refine XL_skipF (ltI 1048576 ((code1.length : Int))) rfl rfl (by kernel_rfl) hc3 rfl ?_
      refine XL_skipF (ltI 1048576 ((code1.length : Int))) rfl rfl (by kernel_rfl) hc3 rfl ?_
      refine XL_skipF (ltI 1048576 ((code1.length : Int))) rfl rfl (by kernel_rfl) hc3 rfl ?_
      refine XL_skipF (ltI 1048576 ((code1.length : Int))) rfl rfl (by kernel_rfl) hc3 rfl ?_
      refine XL_skipF (ltI 1048576 ((code1.length : Int))) rfl rfl (by kernel_rfl) hc3 rfl ?_
      refine XL_cons rfl (X_of_Y0 rfl (Y0_pick1 (b := ltI 1048576 ((code1.length : Int))) (p := true) (q := ltI (w64 (1048576 - ((code1.length : Int)))) ((more2.length : Int))) rfl (by kernel_rfl) hc3 (by kernel_rfl))) ?_
      refine XL_cons rfl (X_of_Y0 rfl (E_assign (Bo (bif (ltI 1048576 ((code1.length : Int))) then true else (ltI (w64 (1048576 - ((code1.length : Int)))) ((more2.length : Int))))) rfl (by kernel_rfl))) ?_
      refine XL_nil ?_
      subst ht4
      kernel_rfl
    · refine XL_takeC (ltI 1048576 ((code1.length : Int))) rfl rfl (by kernel_rfl) hc3 (X_of_Y0 rfl (E_move (.c (.sl (more2.map c5))) rfl (by kernel_rfl))) ?_
      refine XL_takeC (ltI 1048576 ((code1.length : Int))) rfl rfl (by kernel_rfl) hc3 (X_of_Y0 rfl (Y0_lenM (c := c5) (xs := more2) Try.underlying22 rfl (by kernel_rfl))) ?_
      refine XL_takeC (ltI 1048576 ((code1.length : Int))) rfl rfl (by kernel_rfl) hc3 (X_of_Y0 rfl (E_move (.c (.sl (code1.map c5))) rfl (by kernel_rfl))) ?_
      refine XL_takeC (ltI 1048576 ((code1.length : Int))) rfl rfl (by kernel_rfl) hc3 (X_of_Y0 rfl (Y0_lenM (c := c5) (xs := code1) Try.underlying22 rfl (by kernel_rfl))) ?_
      refine XL_takeC (ltI 1048576 ((code1.length : Int))) rfl rfl (by kernel_rfl) hc3 (X_of_Y0 rfl (Y0_sub64 (a := 1048576) (b := (code1.length : Int)) rfl (by kernel_rfl) (by kernel_rfl))) ?_
      refine XL_takeC (ltI 1048576 ((code1.length : Int))) rfl rfl (by kernel_rfl) hc3 (X_of_Y0 rfl (Y0_gtw (k := .i64) (a := (more2.length : Int)) (b := w64 (1048576 - ((code1.length : Int)))) rfl (by kernel_rfl) (by kernel_rfl))) ?_
      refine XL_cons rfl (X_of_Y0 rfl (Y0_pick0 (b := ltI 1048576 ((code1.length : Int))) (p := true) (q := ltI (w64 (1048576 - ((code1.length : Int)))) ((more2.length : Int))) rfl (by kernel_rfl) hc3 (by kernel_rfl))) ?_
      refine XL_cons rfl (X_of_Y0 rfl (E_assign (Bo (bif (ltI 1048576 ((code1.length : Int))) then true else (ltI (w64 (1048576 - ((code1.length : Int)))) ((more2.length : Int))))) rfl (by kernel_rfl))) ?_
      refine XL_nil ?_
      subst ht4
      kernel_rfl
  refine V_ret ?_
  obtain rfl := some_inj h
  show Post _ _ _ _ _
  exact ⟨.inr rfl, rfl, rfl, rfl⟩
theorem cf_spec_l1Cur_next : ∀ args w, (callFunc 122 args).run Try.prog w = .ok (.enter 122 args) w := run_callFunc Try.func122 (by kernel_rfl) (by kernel_rfl)
set_option maxRecDepth 100000 in
set_option maxHeartbeats 400000 in
theorem s_spec_l1Cur_next {c1 : ((List Int) × Int × Int)} {r : (Int × (((List Int) × Int × Int)))} (h : r_spec_l1Cur_next c1 = some r) : CallR Try.prog 122 [.pt 80000 0] [(80000, .box [.sl (c1.1.map c5), Ti c1.2.1, .v (.int .u64 c1.2.2)])] (I r.1) [] [(80000, .box [.sl (r.2.1.map c5), Ti r.2.2.1, .v (.int .u64 r.2.2.2)])] := by
  refine CallR_of_text (rs := [.t 2]) (vs := [.tmp 2]) Try.func122 rfl rfl (.cons rfl FitsL.nil) (by decide) 62 rfl rfl fun σ => ?_
  unfold r_spec_l1Cur_next at h
  show V _ _ ⟨[.pt 80000 0, .bot, .bot, .bot, .bot, .bot, .bot, .bot, .bot, .bot, .bot, .bot, .bot, .bot, .bot, .bot, .bot, .bot, .bot, .bot, .bot, .bot, .bot, .bot, .bot, .bot, .bot, .bot, .bot, .bot, .bot, .bot, .bot, .bot, .bot, .bot, .bot, .bot, .bot, .bot, .bot, .bot, .bot, .bot, .bot, .bot, .bot, .bot, .bot, .bot, .bot, .bot, .bot, .bot, .bot, .bot, .bot, .bot, .bot, .bot, .bot, .bot], [(80000, .pbox (σ 80000) [.sl (c1.1.map c5), Ti c1.2.1, .v (.int .u64 c1.2.2)])]⟩ _
  refine V_sreg [true, false, false, false, false, false, false, false, false, false, false, false, false, false, false, false, false, false, false, false, false, false, false, false, false, false, false, false, false, false, false, false, false, false, false, false, false, false, false, false, false, false, false, false, false, false, false, false, false, false, false, false, false, false, false, false, false, false, false, false, false, false] [80000] (s1 := ⟨[.pt 80000 0, .bot, .bot, .bot, .bot, .bot, .bot, .bot, .bot, .bot, .bot, .bot, .bot, .bot, .bot, .bot, .bot, .bot, .bot, .bot, .bot, .bot, .bot, .bot, .bot, .bot, .bot, .bot, .bot, .bot, .bot, .bot, .bot, .bot, .bot, .bot, .bot, .bot, .bot, .bot, .bot, .bot, .bot, .bot, .bot, .bot, .bot, .bot, .bot, .bot, .bot, .bot, .bot, .bot, .bot, .bot, .bot, .bot, .bot, .bot, .bot, .bot], [(80000, .pbox (σ 80000) [.sl (c1.1.map c5), Ti c1.2.1, .v (.int .u64 c1.2.2)])]⟩) ?_ ?_
  · refine XL_cons rfl (X_of_Y0 rfl (E_assign (I 0) rfl (by kernel_rfl))) ?_
    refine XL_nil ?_
    kernel_rfl
  refine V_sreg [true, false, false, true, false, false, false, false, false, false, false, false, false, false, false, false, false, false, false, false, false, false, false, false, false, false, false, false, false, false, false, false, false, false, false, false, false, false, false, false, false, false, false, false, false, false, false, false, false, false, false, false, false, false, false, false, false, false, false, false, false, false] [80000] (s1 := ⟨[.pt 80000 0, .bot, .bot, I 0, .bot, .bot, .bot, .bot, .bot, .bot, .bot, .bot, .bot, .bot, .bot, .bot, .bot, .bot, .bot, .bot, .bot, .bot, .bot, .bot, .bot, .bot, .bot, .bot, .bot, .bot, .bot, .bot, .bot, .bot, .bot, .bot, .bot, .bot, .bot, .bot, .bot, .bot, .bot, .bot, .bot, .bot, .bot, .bot, .bot, .bot, .bot, .bot, .bot, .bot, .bot, .bot, .bot, .bot, .bot, .bot, .bot, .bot], [(80000, .pbox (σ 80000) [.sl (c1.1.map c5), Ti c1.2.1, .v (.int .u64 c1.2.2)])]⟩) ?_ ?_
  · refine XL_cons rfl (X_of_Y0 rfl (E_assign (I 0) rfl (by kernel_rfl))) ?_
    refine XL_nil ?_
    kernel_rfl
  obtain ⟨j2, hj2, h⟩ := of_bind h
  refine V_cutK [true, false, false, true, false, false, false, false, false, false, false, false, false, false, false, false, false, false, false, false, false, false, false, false, false, false, false, false, false, false, false, false, false, false, false, false, false, false, false, false, false, false, false, false, false, false, false, false, false, false, false, false, false, false, false, false, false, false, false, false, false, false] [80000] (s1 := ⟨[.pt 80000 0, .bot, .bot, I j2, .bot, .bot, .bot, .bot, .bot, .bot, .bot, .bot, .bot, .bot, .bot, .bot, .bot, .bot, .bot, .bot, .bot, .bot, .bot, .bot, .bot, .bot, .bot, .bot, .bot, .bot, .bot, .bot, .bot, .bot, .bot, .bot, .bot, .bot, .bot, .bot, .bot, .bot, .bot, .bot, .bot, .bot, .bot, .bot, .bot, .bot, .bot, .bot, .bot, .bot, .bot, .bot, .bot, .bot, .bot, .bot, .bot, .bot], [(80000, .pbox (σ 80000) [.sl (c1.1.map c5), Ti c1.2.1, .v (.int .u64 c1.2.2)])]⟩) ?_ ?_
  · clear h
    have h := hj2
    clear hj2
    refine V_sdreg [0, 1, 3, 7, 0, 16, 48, 112, 240, 511] 10 [[.z, .z, .z, .z, .b, .b, .b, .b, .b, .z], [.a, .z, .z, .z, .b, .b, .b, .b, .b, .z], [.a, .a, .z, .z, .b, .b, .b, .b, .b, .z], [.a, .a, .a, .z, .b, .b, .b, .b, .b, .z], [.b, .b, .b, .b, .z, .z, .z, .z, .z, .z], [.b, .b, .b, .b, .a, .z, .z, .z, .z, .z], [.b, .b, .b, .b, .a, .a, .z, .z, .z, .z], [.b, .b, .b, .b, .a, .a, .a, .z, .z, .z], [.b, .b, .b, .b, .a, .a, .a, .a, .z, .z], [.a, .a, .a, .a, .a, .a, .a, .a, .a, .z]] [true, false, false, true, false, false, false, false, false, false, false, false, false, true, false, false, false, false, false, false, false, false, false, false, false, false, false, false, false, false, false, false, false, false, false, false, false, false, false, false, false, false, false, false, false, false, false, false, false, false, false, false, false, false, false, false, false, false, false, false, false, false] [80000] (s1 := ⟨[.pt 80000 0, .bot, .bot, I 0, .bot, .bot, .bot, .bot, .bot, .bot, .bot, .bot, .bot, Bo (ltI c1.2.1 ((c1.1.length : Int))), .bot, .bot, .bot, .bot, .bot, .bot, .bot, .bot, .bot, .bot, .bot, .bot, .bot, .bot, .bot, .bot, .bot, .bot, .bot, .bot, .bot, .bot, .bot, .bot, .bot, .bot, .bot, .bot, .bot, .bot, .bot, .bot, .bot, .bot, .bot, .bot, .bot, .bot, .bot, .bot, .bot, .bot, .bot, .bot, .bot, .bot, .bot, .bot], [(80000, .pbox (σ 80000) [.sl (c1.1.map c5), Ti c1.2.1, .v (.int .u64 c1.2.2)])]⟩) (by kernel_rfl) (by kernel_rfl) ?_ ?_
    · refine DE_0 0 (.pt 80000 0) (by kernel_rfl) rfl rfl rfl (gsat_none rfl) (by kernel_rfl) (E_move (.pt 80000 0) rfl (by kernel_rfl)) 4 rfl ?_
      refine DE_0 1 (.pt 80000 0) (by kernel_rfl) rfl rfl rfl (gsat_none rfl) (by kernel_rfl) (E_nil (.pt 80000 0) rfl (by kernel_rfl) (by intro hh; cases hh)) 5 rfl ?_
      refine DE_0 2 (.pt 80000 1) (by kernel_rfl) rfl rfl rfl (gsat_none rfl) (by kernel_rfl) (E_field (.pt 80000 1) Try.underlying62 rfl sz3 rfl (by kernel_rfl) (by intro hh; cases hh)) 6 rfl ?_
      refine DE_0 3 (I c1.2.1) (by kernel_rfl) rfl rfl rfl (gsat_none rfl) (by kernel_rfl) (Y0_load1 (c := Ti c1.2.1) (cs := [.v (.int .u64 c1.2.2)]) sc3 rfl (by kernel_rfl)) 7 rfl ?_
      refine DE_0 4 (.pt 80000 0) (by kernel_rfl) rfl rfl rfl (gsat_none rfl) (by kernel_rfl) (E_move (.pt 80000 0) rfl (by kernel_rfl)) 8 rfl ?_
      refine DE_0 5 (.pt 80000 0) (by kernel_rfl) rfl rfl rfl (gsat_none rfl) (by kernel_rfl) (E_nil (.pt 80000 0) rfl (by kernel_rfl) (by intro hh; cases hh)) 9 rfl ?_
      refine DE_0 6 (.pt 80000 0) (by kernel_rfl) rfl rfl rfl (gsat_none rfl) (by kernel_rfl) (E_field (.pt 80000 0) Try.underlying62 rfl sz22 rfl (by kernel_rfl) (by intro hh; cases hh)) 10 rfl ?_
      refine DE_0 7 (.c (.sl (c1.1.map c5))) (by kernel_rfl) rfl rfl rfl (gsat_none rfl) (by kernel_rfl) (Y0_load1 (c := .sl (c1.1.map c5)) (cs := [Ti c1.2.1, .v (.int .u64 c1.2.2)]) sc22 rfl (by kernel_rfl)) 11 rfl ?_
      refine DE_0 8 (I ((c1.1.length : Int))) (by kernel_rfl) rfl rfl rfl (gsat_none rfl) (by kernel_rfl) (Y0_lenM (c := c5) (xs := c1.1) Try.underlying22 rfl (by kernel_rfl)) 12 rfl ?_
      refine DE_0 9 (Bo (ltI c1.2.1 ((c1.1.length : Int)))) (by kernel_rfl) rfl rfl rfl (gsat_none rfl) (by kernel_rfl) (Y0_ltw (k := .i64) (a := c1.2.1) (b := (c1.1.length : Int)) rfl (by kernel_rfl) (by kernel_rfl)) 13 rfl ?_
      refine DL_nil (by kernel_rfl) ?_
      refine XL_nil ?_
      kernel_rfl
    refine V_cond rfl (fun hc3 => ?_) (fun hc3 => ?_)
    · have h := of_true h hc3
      obtain ⟨e4, he4, h⟩ := of_bind h
      obtain ⟨b5, hb5, h⟩ := of_sI h
      refine V_dreg [0, 1, 3, 7, 0, 16, 48, 112, 255, 511, 1023, 2047] 12 [[.z, .z, .z, .z, .b, .b, .b, .b, .z, .z, .z, .z], [.a, .z, .z, .z, .b, .b, .b, .b, .z, .z, .z, .z], [.a, .a, .z, .z, .b, .b, .b, .b, .z, .z, .z, .z], [.a, .a, .a, .z, .b, .b, .b, .b, .z, .z, .z, .z], [.b, .b, .b, .b, .z, .z, .z, .z, .z, .z, .z, .z], [.b, .b, .b, .b, .a, .z, .z, .z, .z, .z, .z, .z], [.b, .b, .b, .b, .a, .a, .z, .z, .z, .z, .z, .z], [.b, .b, .b, .b, .a, .a, .a, .z, .z, .z, .z, .z], [.a, .a, .a, .a, .a, .a, .a, .a, .z, .z, .z, .z], [.a, .a, .a, .a, .a, .a, .a, .a, .a, .z, .z, .z], [.a, .a, .a, .a, .a, .a, .a, .a, .a, .a, .z, .z], [.a, .a, .a, .a, .a, .a, .a, .a, .a, .a, .a, .z]] [true, false, false, true, false, false, false, false, false, false, false, false, false, false, false, false, false, false, false, false, false, false, false, false, false, false, false, false, false, false, false, false, false, false, false, false, false, false, false, false, false, false, false, false, false, false, false, false, false, false, false, false, false, false, false, false, false, false, false, false, false, false] [80000] (s1 := ⟨[.pt 80000 0, .bot, .bot, I b5, .bot, .bot, .bot, .bot, .bot, .bot, .bot, .bot, .bot, .bot, .bot, .bot, .bot, .bot, .bot, .bot, .bot, .bot, .bot, .bot, .bot, .bot, .bot, .bot, .bot, .bot, .bot, .bot, .bot, .bot, .bot, .bot, .bot, .bot, .bot, .bot, .bot, .bot, .bot, .bot, .bot, .bot, .bot, .bot, .bot, .bot, .bot, .bot, .bot, .bot, .bot, .bot, .bot, .bot, .bot, .bot, .bot, .bot], [(80000, .pbox (σ 80000) [.sl (c1.1.map c5), Ti c1.2.1, .v (.int .u64 c1.2.2)])]⟩) (by kernel_rfl) (by kernel_rfl) ?_ ?_
      · refine DE_0 0 (.pt 80000 0) (by kernel_rfl) rfl rfl rfl (gsat_none rfl) (by kernel_rfl) (E_move (.pt 80000 0) rfl (by kernel_rfl)) 14 rfl ?_
        refine DE_0 1 (.pt 80000 0) (by kernel_rfl) rfl rfl rfl (gsat_none rfl) (by kernel_rfl) (E_nil (.pt 80000 0) rfl (by kernel_rfl) (by intro hh; cases hh)) 15 rfl ?_
        refine DE_0 2 (.pt 80000 0) (by kernel_rfl) rfl rfl rfl (gsat_none rfl) (by kernel_rfl) (E_field (.pt 80000 0) Try.underlying62 rfl sz22 rfl (by kernel_rfl) (by intro hh; cases hh)) 16 rfl ?_
        refine DE_0 3 (.c (.sl (c1.1.map c5))) (by kernel_rfl) rfl rfl rfl (gsat_none rfl) (by kernel_rfl) (Y0_load1 (c := .sl (c1.1.map c5)) (cs := [Ti c1.2.1, .v (.int .u64 c1.2.2)]) sc22 rfl (by kernel_rfl)) 17 rfl ?_
        refine DE_0 4 (.pt 80000 0) (by kernel_rfl) rfl rfl rfl (gsat_none rfl) (by kernel_rfl) (E_move (.pt 80000 0) rfl (by kernel_rfl)) 18 rfl ?_
        refine DE_0 5 (.pt 80000 0) (by kernel_rfl) rfl rfl rfl (gsat_none rfl) (by kernel_rfl) (E_nil (.pt 80000 0) rfl (by kernel_rfl) (by intro hh; cases hh)) 19 rfl ?_
        refine DE_0 6 (.pt 80000 1) (by kernel_rfl) rfl rfl rfl (gsat_none rfl) (by kernel_rfl) (E_field (.pt 80000 1) Try.underlying62 rfl sz3 rfl (by kernel_rfl) (by intro hh; cases hh)) 20 rfl ?_
        refine DE_0 7 (I c1.2.1) (by kernel_rfl) rfl rfl rfl (gsat_none rfl) (by kernel_rfl) (Y0_load1 (c := Ti c1.2.1) (cs := [.v (.int .u64 c1.2.2)]) sc3 rfl (by kernel_rfl)) 21 rfl ?_
        refine DE_0 8 (.pe [.v (.int .u8 e4)]) (by kernel_rfl) rfl rfl rfl (gsat_none rfl) (by kernel_rfl) (Y0_idxM (c := c5) (xs := c1.1) (v := e4) (n := c1.2.1) Try.underlying22 sz5 rfl (by kernel_rfl) (by kernel_rfl) he4) 22 rfl ?_
        refine DE_0 9 (.c (.v (.int .u8 e4))) (by kernel_rfl) rfl rfl rfl (gsat_none rfl) (by kernel_rfl) (Y0_load1 (c := .v (.int .u8 e4)) (cs := []) sc5 rfl (by kernel_rfl)) 23 rfl ?_
        refine DE_0 10 (I (IntKind.i64.wrap e4)) (by kernel_rfl) rfl rfl rfl (gsat_none rfl) (by kernel_rfl) (Y0_conv (k2 := .u8) (a := e4) Try.underlying5 Try.underlying3 rfl (by kernel_rfl)) 24 rfl ?_
        refine DE_0 11 (I (IntKind.i64.wrap e4)) (by kernel_rfl) rfl rfl rfl (gsat_none rfl) (by kernel_rfl) (E_assign (I (IntKind.i64.wrap e4)) rfl (by kernel_rfl)) 3 rfl ?_
        refine DL_nil (by kernel_rfl) ?_
        refine XL_nil ?_
        subst hb5
        kernel_rfl
      obtain rfl := some_inj h
      show St.keep _ _ _ = _
      rfl
    · have h := of_false h hc3
      refine V_skip ?_
      obtain rfl := some_inj h
      show St.keep _ _ _ = _
      rfl
  obtain ⟨f6, hf6, h⟩ := of_sI h
  refine V_sreg [true, false, false, true, false, false, false, false, false, false, false, false, false, false, false, false, false, false, false, false, false, false, false, false, false, false, false, false, false, false, false, false, false, false, false, false, false, false, false, false, false, false, false, false, false, false, false, false, false, false, false, false, false, false, false, false, false, false, false, false, false, false] [80000] (s1 := ⟨[.pt 80000 0, .bot, .bot, I j2, .bot, .bot, .bot, .bot, .bot, .bot, .bot, .bot, .bot, .bot, .bot, .bot, .bot, .bot, .bot, .bot, .bot, .bot, .bot, .bot, .bot, .bot, .bot, .bot, .bot, .bot, .bot, .bot, .bot, .bot, .bot, .bot, .bot, .bot, .bot, .bot, .bot, .bot, .bot, .bot, .bot, .bot, .bot, .bot, .bot, .bot, .bot, .bot, .bot, .bot, .bot, .bot, .bot, .bot, .bot, .bot, .bot, .bot], [(80000, .pbox (σ 80000) [.sl (c1.1.map c5), Ti f6, .v (.int .u64 c1.2.2)])]⟩) ?_ ?_
  · refine XL_cons rfl (X_of_Y0 rfl (E_move (.pt 80000 0) rfl (by kernel_rfl))) ?_
    refine XL_cons rfl (X_of_Y0 rfl (E_nil (.pt 80000 0) rfl (by kernel_rfl) (by intro hh; cases hh))) ?_
    refine XL_cons rfl (X_of_Y0 rfl (E_field (.pt 80000 1) Try.underlying62 rfl sz3 rfl (by kernel_rfl) (by intro hh; cases hh))) ?_
    refine XL_cons rfl (X_of_Y0 rfl (Y0_load1 (c := Ti c1.2.1) (cs := [.v (.int .u64 c1.2.2)]) sc3 rfl (by kernel_rfl))) ?_
    refine XL_cons rfl (X_of_Y0 rfl (Y0_add64 (a := c1.2.1) (b := 1) rfl (by kernel_rfl) (by kernel_rfl))) ?_
    refine XL_cons rfl (X_of_Y0 rfl (E_nil (.pt 80000 0) rfl (by kernel_rfl) (by intro hh; cases hh))) ?_
    refine XL_cons rfl (X_of_Y0 rfl (E_field (.pt 80000 1) Try.underlying62 rfl sz3 rfl (by kernel_rfl) (by intro hh; cases hh))) ?_
    refine XL_cons rfl (E_storep (l := σ 80000) (id := 80000) (off := 1) (cs := [.sl (c1.1.map c5), Ti c1.2.1, .v (.int .u64 c1.2.2)]) (vc := [Ti (w64 (c1.2.1 + 1))]) [.sl (c1.1.map c5), Ti (w64 (c1.2.1 + 1)), .v (.int .u64 c1.2.2)] rfl rfl (by kernel_rfl) (by kernel_rfl) (by kernel_rfl) sz3 (Nat.le_of_ble_eq_true rfl) (by kernel_rfl)) ?_
    refine XL_nil ?_
    subst hf6
    kernel_rfl
  obtain ⟨f7, hf7, h⟩ := of_sI h
  refine V_sreg [true, false, false, true, false, false, false, false, false, false, false, false, false, false, false, false, false, false, false, false, false, false, false, false, false, false, false, false, false, false, false, false, false, false, false, false, false, false, false, false, false, false, false, false, false, false, false, false, false, false, false, false, false, false, false, false, false, false, false, false, false, false] [80000] (s1 := ⟨[.pt 80000 0, .bot, .bot, I j2, .bot, .bot, .bot, .bot, .bot, .bot, .bot, .bot, .bot, .bot, .bot, .bot, .bot, .bot, .bot, .bot, .bot, .bot, .bot, .bot, .bot, .bot, .bot, .bot, .bot, .bot, .bot, .bot, .bot, .bot, .bot, .bot, .bot, .bot, .bot, .bot, .bot, .bot, .bot, .bot, .bot, .bot, .bot, .bot, .bot, .bot, .bot, .bot, .bot, .bot, .bot, .bot, .bot, .bot, .bot, .bot, .bot, .bot], [(80000, .pbox (σ 80000) [.sl (c1.1.map c5), Ti f6, .v (.int .u64 f7)])]⟩) ?_ ?_
  · refine XL_cons rfl (X_of_Y0 rfl (E_move (.pt 80000 0) rfl (by kernel_rfl))) ?_
    refine XL_cons rfl (X_of_Y0 rfl (E_move (.pt 80000 0) rfl (by kernel_rfl))) ?_
    refine XL_cons rfl (X_of_Y0 rfl (E_nil (.pt 80000 0) rfl (by kernel_rfl) (by intro hh; cases hh))) ?_
    refine XL_cons rfl (X_of_Y0 rfl (E_field (.pt 80000 2) Try.underlying62 rfl sz60 rfl (by kernel_rfl) (by intro hh; cases hh))) ?_
    refine XL_cons rfl (X_of_Y0 rfl (Y0_load1 (c := .v (.int .u64 c1.2.2)) (cs := []) sc60 rfl (by kernel_rfl))) ?_
    refine XL_cons rfl (X_of_Y0 rfl (Y0_mul (k := .u64) (a := c1.2.2) (b := 6364136223846793005) rfl (by kernel_rfl) (by kernel_rfl))) ?_
    refine XL_cons rfl (X_of_Y0 rfl (E_move (I j2) rfl (by kernel_rfl))) ?_
    refine XL_cons rfl (X_of_Y0 rfl (Y0_conv (k2 := .i64) (a := j2) Try.underlying3 Try.underlying60 rfl (by kernel_rfl))) ?_
    refine XL_cons rfl (X_of_Y0 rfl (Y0_add (k := .u64) (a := IntKind.u64.wrap (c1.2.2 * 6364136223846793005)) (b := IntKind.u64.wrap j2) rfl (by kernel_rfl) (by kernel_rfl))) ?_
    refine XL_cons rfl (X_of_Y0 rfl (Y0_add (k := .u64) (a := IntKind.u64.wrap ((IntKind.u64.wrap (c1.2.2 * 6364136223846793005)) + (IntKind.u64.wrap j2))) (b := 1442695040888963407) rfl (by kernel_rfl) (by kernel_rfl))) ?_
    refine XL_cons rfl (X_of_Y0 rfl (E_nil (.pt 80000 0) rfl (by kernel_rfl) (by intro hh; cases hh))) ?_
    refine XL_cons rfl (X_of_Y0 rfl (E_field (.pt 80000 2) Try.underlying62 rfl sz60 rfl (by kernel_rfl) (by intro hh; cases hh))) ?_
    refine XL_cons rfl (E_storep (l := σ 80000) (id := 80000) (off := 2) (cs := [.sl (c1.1.map c5), Ti f6, .v (.int .u64 c1.2.2)]) (vc := [.v (.int .u64 (IntKind.u64.wrap ((IntKind.u64.wrap ((IntKind.u64.wrap (c1.2.2 * 6364136223846793005)) + (IntKind.u64.wrap j2))) + 1442695040888963407)))]) [.sl (c1.1.map c5), Ti f6, .v (.int .u64 (IntKind.u64.wrap ((IntKind.u64.wrap ((IntKind.u64.wrap (c1.2.2 * 6364136223846793005)) + (IntKind.u64.wrap j2))) + 1442695040888963407)))] rfl rfl (by kernel_rfl) (by kernel_rfl) (by kernel_rfl) sz60 (Nat.le_of_ble_eq_true rfl) (by kernel_rfl)) ?_
    refine XL_nil ?_
    subst hf7
    kernel_rfl
  refine V_seq ?_
  refine V_sdreg [0, 1, 3, 7, 0, 16, 48, 112, 240, 511] 10 [[.z, .z, .z, .z, .b, .b, .b, .b, .b, .z], [.a, .z, .z, .z, .b, .b, .b, .b, .b, .z], [.a, .a, .z, .z, .b, .b, .b, .b, .b, .z], [.a, .a, .a, .z, .b, .b, .b, .b, .b, .z], [.b, .b, .b, .b, .z, .z, .z, .z, .z, .z], [.b, .b, .b, .b, .a, .z, .z, .z, .z, .z], [.b, .b, .b, .b, .a, .a, .z, .z, .z, .z], [.b, .b, .b, .b, .a, .a, .a, .z, .z, .z], [.b, .b, .b, .b, .a, .a, .a, .a, .z, .z], [.a, .a, .a, .a, .a, .a, .a, .a, .a, .z]] [true, false, false, true, false, false, false, false, false, false, false, false, false, false, false, false, false, false, false, false, false, false, false, false, false, false, false, false, false, false, false, false, false, false, false, false, false, false, false, false, false, false, false, false, false, false, false, false, false, false, false, false, false, true, false, false, false, false, false, false, false, false] [80000] (s1 := ⟨[.pt 80000 0, .bot, .bot, I j2, .bot, .bot, .bot, .bot, .bot, .bot, .bot, .bot, .bot, .bot, .bot, .bot, .bot, .bot, .bot, .bot, .bot, .bot, .bot, .bot, .bot, .bot, .bot, .bot, .bot, .bot, .bot, .bot, .bot, .bot, .bot, .bot, .bot, .bot, .bot, .bot, .bot, .bot, .bot, .bot, .bot, .bot, .bot, .bot, .bot, .bot, .bot, .bot, .bot, Bo (leI f6 ((c1.1.length : Int))), .bot, .bot, .bot, .bot, .bot, .bot, .bot, .bot], [(80000, .pbox (σ 80000) [.sl (c1.1.map c5), Ti f6, .v (.int .u64 f7)])]⟩) (by kernel_rfl) (by kernel_rfl) ?_ ?_
  · refine DE_0 0 (.pt 80000 0) (by kernel_rfl) rfl rfl rfl (gsat_none rfl) (by kernel_rfl) (E_move (.pt 80000 0) rfl (by kernel_rfl)) 44 rfl ?_
    refine DE_0 1 (.pt 80000 0) (by kernel_rfl) rfl rfl rfl (gsat_none rfl) (by kernel_rfl) (E_nil (.pt 80000 0) rfl (by kernel_rfl) (by intro hh; cases hh)) 45 rfl ?_
    refine DE_0 2 (.pt 80000 1) (by kernel_rfl) rfl rfl rfl (gsat_none rfl) (by kernel_rfl) (E_field (.pt 80000 1) Try.underlying62 rfl sz3 rfl (by kernel_rfl) (by intro hh; cases hh)) 46 rfl ?_
    refine DE_0 3 (I f6) (by kernel_rfl) rfl rfl rfl (gsat_none rfl) (by kernel_rfl) (Y0_load1 (c := Ti f6) (cs := [.v (.int .u64 f7)]) sc3 rfl (by kernel_rfl)) 47 rfl ?_
    refine DE_0 4 (.pt 80000 0) (by kernel_rfl) rfl rfl rfl (gsat_none rfl) (by kernel_rfl) (E_move (.pt 80000 0) rfl (by kernel_rfl)) 48 rfl ?_
    refine DE_0 5 (.pt 80000 0) (by kernel_rfl) rfl rfl rfl (gsat_none rfl) (by kernel_rfl) (E_nil (.pt 80000 0) rfl (by kernel_rfl) (by intro hh; cases hh)) 49 rfl ?_
    refine DE_0 6 (.pt 80000 0) (by kernel_rfl) rfl rfl rfl (gsat_none rfl) (by kernel_rfl) (E_field (.pt 80000 0) Try.underlying62 rfl sz22 rfl (by kernel_rfl) (by intro hh; cases hh)) 50 rfl ?_
    refine DE_0 7 (.c (.sl (c1.1.map c5))) (by kernel_rfl) rfl rfl rfl (gsat_none rfl) (by kernel_rfl) (Y0_load1 (c := .sl (c1.1.map c5)) (cs := [Ti f6, .v (.int .u64 f7)]) sc22 rfl (by kernel_rfl)) 51 rfl ?_
    refine DE_0 8 (I ((c1.1.length : Int))) (by kernel_rfl) rfl rfl rfl (gsat_none rfl) (by kernel_rfl) (Y0_lenM (c := c5) (xs := c1.1) Try.underlying22 rfl (by kernel_rfl)) 52 rfl ?_
    refine DE_0 9 (Bo (leI f6 ((c1.1.length : Int)))) (by kernel_rfl) rfl rfl rfl (gsat_none rfl) (by kernel_rfl) (Y0_lew (k := .i64) (a := f6) (b := (c1.1.length : Int)) rfl (by kernel_rfl) (by kernel_rfl)) 53 rfl ?_
    refine DL_nil (by kernel_rfl) ?_
    refine XL_nil ?_
    kernel_rfl
  refine V_cond rfl (fun hc8 => ?_) (fun hc8 => ?_)
  · have h := of_true h hc8
    refine V_sreg [false, false, true, false, false, false, false, false, false, false, false, false, false, false, false, false, false, false, false, false, false, false, false, false, false, false, false, false, false, false, false, false, false, false, false, false, false, false, false, false, false, false, false, false, false, false, false, false, false, false, false, false, false, false, false, false, false, false, false, false, false, false] [80000] (s1 := ⟨[.bot, .bot, I j2, .bot, .bot, .bot, .bot, .bot, .bot, .bot, .bot, .bot, .bot, .bot, .bot, .bot, .bot, .bot, .bot, .bot, .bot, .bot, .bot, .bot, .bot, .bot, .bot, .bot, .bot, .bot, .bot, .bot, .bot, .bot, .bot, .bot, .bot, .bot, .bot, .bot, .bot, .bot, .bot, .bot, .bot, .bot, .bot, .bot, .bot, .bot, .bot, .bot, .bot, .bot, .bot, .bot, .bot, .bot, .bot, .bot, .bot, .bot], [(80000, .pbox (σ 80000) [.sl (c1.1.map c5), Ti f6, .v (.int .u64 f7)])]⟩) ?_ ?_
    · refine XL_cons rfl (X_of_Y0 rfl (E_move (I j2) rfl (by kernel_rfl))) ?_
      refine XL_cons rfl (X_of_Y0 rfl (E_assign (I j2) rfl (by kernel_rfl))) ?_
      refine XL_nil ?_
      kernel_rfl
    refine V_ret ?_
    obtain rfl := some_inj h
    show PostR _ _ _ _ _ _
    exact ⟨⟨.inr rfl, rfl, rfl, rfl⟩, ⟨rfl, trivial⟩⟩
  · have h := of_false h hc8
    refine V_skip ?_
    show V _ _ _ _
    obtain ⟨t9, ht9, h⟩ := of_sI h
    refine V_sreg [false, false, true, false, false, false, false, false, false, false, false, false, false, false, false, false, false, false, false, false, false, false, false, false, false, false, false, false, false, false, false, false, false, false, false, false, false, false, false, false, false, false, false, false, false, false, false, false, false, false, false, false, false, false, false, false, false, false, false, false, false, false] [80000] (s1 := ⟨[.bot, .bot, I t9, .bot, .bot, .bot, .bot, .bot, .bot, .bot, .bot, .bot, .bot, .bot, .bot, .bot, .bot, .bot, .bot, .bot, .bot, .bot, .bot, .bot, .bot, .bot, .bot, .bot, .bot, .bot, .bot, .bot, .bot, .bot, .bot, .bot, .bot, .bot, .bot, .bot, .bot, .bot, .bot, .bot, .bot, .bot, .bot, .bot, .bot, .bot, .bot, .bot, .bot, .bot, .bot, .bot, .bot, .bot, .bot, .bot, .bot, .bot], [(80000, .pbox (σ 80000) [.sl (c1.1.map c5), Ti f6, .v (.int .u64 f7)])]⟩) ?_ ?_
    · refine XL_cons rfl (X_of_Y0 rfl (E_move (.pt 80000 0) rfl (by kernel_rfl))) ?_
      refine XL_cons rfl (X_of_Y0 rfl (E_nil (.pt 80000 0) rfl (by kernel_rfl) (by intro hh; cases hh))) ?_
      refine XL_cons rfl (X_of_Y0 rfl (E_field (.pt 80000 2) Try.underlying62 rfl sz60 rfl (by kernel_rfl) (by intro hh; cases hh))) ?_
      refine XL_cons rfl (X_of_Y0 rfl (Y0_load1 (c := .v (.int .u64 f7)) (cs := []) sc60 rfl (by kernel_rfl))) ?_
      refine XL_cons rfl (X_of_Y0 rfl (Y0_shr (k := .u64) (k2 := .u64) (a := f7) (b := 40) rfl (by kernel_rfl) (by kernel_rfl) (by decide))) ?_
      refine XL_cons rfl (X_of_Y0 rfl (Y0_and (k := .u64) (a := shrI .u64 f7 40) (b := 255) rfl (by kernel_rfl) (by kernel_rfl))) ?_
      refine XL_cons rfl (X_of_Y0 rfl (Y0_conv (k2 := .u64) (a := andI .u64 (shrI .u64 f7 40) 255) Try.underlying60 Try.underlying3 rfl (by kernel_rfl))) ?_
      refine XL_cons rfl (X_of_Y0 rfl (E_assign (I (IntKind.i64.wrap (andI .u64 (shrI .u64 f7 40) 255))) rfl (by kernel_rfl))) ?_
      refine XL_nil ?_
      subst ht9
      kernel_rfl
    refine V_ret ?_
    obtain rfl := some_inj h
    show PostR _ _ _ _ _ _
    exact ⟨⟨.inr rfl, rfl, rfl, rfl⟩, ⟨rfl, trivial⟩⟩
theorem cf_spec_l1Cur_pick : ∀ args w, (callFunc 66 args).run Try.prog w = .ok (.enter 66 args) w := run_callFunc Try.func66 (by kernel_rfl) (by kernel_rfl)
set_option maxRecDepth 100000 in
set_option maxHeartbeats 400000 in
theorem s_spec_l1Cur_pick {c1 : ((List Int) × Int × Int)} {vn2 : Int} {r : (Int × (((List Int) × Int × Int)))} (h : r_spec_l1Cur_pick c1 vn2 = some r) : CallR Try.prog 66 [.pt 80000 0, I vn2] [(80000, .box [.sl (c1.1.map c5), Ti c1.2.1, .v (.int .u64 c1.2.2)])] (I r.1) [] [(80000, .box [.sl (r.2.1.map c5), Ti r.2.2.1, .v (.int .u64 r.2.2.2)])] := by
  refine CallR_of_text (rs := [.t 4]) (vs := [.tmp 4]) Try.func66 rfl rfl (.cons rfl FitsL.nil) (by decide) 20 rfl rfl fun σ => ?_
  unfold r_spec_l1Cur_pick at h
  show V _ _ ⟨[.pt 80000 0, I vn2, .bot, .bot, .bot, .bot, .bot, .bot, .bot, .bot, .bot, .bot, .bot, .bot, .bot, .bot, .bot, .bot, .bot, .bot], [(80000, .pbox (σ 80000) [.sl (c1.1.map c5), Ti c1.2.1, .v (.int .u64 c1.2.2)])]⟩ _
  refine V_sreg [true, true, false, false, false, false, false, false, false, false, false, false, false, false, false, false, false, false, false, false] [80000] (s1 := ⟨[.pt 80000 0, I vn2, .bot, .bot, .bot, .bot, .bot, .bot, .bot, .bot, .bot, .bot, .bot, .bot, .bot, .bot, .bot, .bot, .bot, .bot], [(80000, .pbox (σ 80000) [.sl (c1.1.map c5), Ti c1.2.1, .v (.int .u64 c1.2.2)])]⟩) ?_ ?_
  · refine XL_cons rfl (X_of_Y0 rfl (E_assign (I 0) rfl (by kernel_rfl))) ?_
    refine XL_nil ?_
    kernel_rfl
  refine V_seq ?_
  refine V_sreg [true, true, false, false, false, false, false, true, false, false, false, false, false, false, false, false, false, false, false, false] [80000] (s1 := ⟨[.pt 80000 0, I vn2, .bot, .bot, .bot, .bot, .bot, Bo (leI vn2 1), .bot, .bot, .bot, .bot, .bot, .bot, .bot, .bot, .bot, .bot, .bot, .bot], [(80000, .pbox (σ 80000) [.sl (c1.1.map c5), Ti c1.2.1, .v (.int .u64 c1.2.2)])]⟩) ?_ ?_
  · refine XL_cons rfl (X_of_Y0 rfl (E_move (I vn2) rfl (by kernel_rfl))) ?_
    refine XL_cons rfl (X_of_Y0 rfl (Y0_lew (k := .i64) (a := vn2) (b := 1) rfl (by kernel_rfl) (by kernel_rfl))) ?_
    refine XL_nil ?_
    kernel_rfl
  refine V_cond rfl (fun hc3 => ?_) (fun hc3 => ?_)
  · have h := of_true h hc3
    refine V_sreg [false, false, false, false, true, false, false, false, false, false, false, false, false, false, false, false, false, false, false, false] [80000] (s1 := ⟨[.bot, .bot, .bot, .bot, I 0, .bot, .bot, .bot, .bot, .bot, .bot, .bot, .bot, .bot, .bot, .bot, .bot, .bot, .bot, .bot], [(80000, .pbox (σ 80000) [.sl (c1.1.map c5), Ti c1.2.1, .v (.int .u64 c1.2.2)])]⟩) ?_ ?_
    · refine XL_cons rfl (X_of_Y0 rfl (E_assign (I 0) rfl (by kernel_rfl))) ?_
      refine XL_nil ?_
      kernel_rfl
    refine V_ret ?_
    obtain rfl := some_inj h
    show PostR _ _ _ _ _ _
    exact ⟨⟨.inr rfl, rfl, rfl, rfl⟩, ⟨rfl, trivial⟩⟩
  · have h := of_false h hc3
    refine V_skip ?_
    show V _ _ _ _
    obtain ⟨y4, hy4, h⟩ := of_bind h
    refine V_sreg [true, true, false, false, false, true, false, false, false, false, false, false, false, false, false, false, false, false, false, false] [80000] (s1 := ⟨[.pt 80000 0, I vn2, .bot, .bot, .bot, I y4.1, .bot, .bot, .bot, .bot, .bot, .bot, .bot, .bot, .bot, .bot, .bot, .bot, .bot, .bot], [(80000, .pbox (σ 80000) [.sl (y4.2.1.map c5), Ti y4.2.2.1, .v (.int .u64 y4.2.2.2)])]⟩) ?_ ?_
    · refine XL_cons rfl (X_of_Y0 rfl (E_move (.pt 80000 0) rfl (by kernel_rfl))) ?_
      refine XL_cons rfl (X_callR (E' := [(80000, .pbox (σ 80000) [.sl (y4.2.1.map c5), Ti y4.2.2.1, .v (.int .u64 y4.2.2.2)])]) [(80000, 80000)] 9 (s_spec_l1Cur_next hy4) cf_spec_l1Cur_next rfl rfl (by kernel_rfl) rfl (mE_cons (by kernel_rfl) mE_nil) rfl (by kernel_rfl) rfl rfl (by kernel_rfl)) ?_
      refine XL_cons rfl (X_of_Y0 rfl (E_assign (I y4.1) rfl (by kernel_rfl))) ?_
      refine XL_nil ?_
      kernel_rfl
    refine V_seq ?_
    refine V_sreg [true, true, false, false, false, true, false, false, false, false, false, true, false, false, false, false, false, false, false, false] [80000] (s1 := ⟨[.pt 80000 0, I vn2, .bot, .bot, .bot, I y4.1, .bot, .bot, .bot, .bot, .bot, Bo (ltI 200 vn2), .bot, .bot, .bot, .bot, .bot, .bot, .bot, .bot], [(80000, .pbox (σ 80000) [.sl (y4.2.1.map c5), Ti y4.2.2.1, .v (.int .u64 y4.2.2.2)])]⟩) ?_ ?_
    · refine XL_cons rfl (X_of_Y0 rfl (E_move (I vn2) rfl (by kernel_rfl))) ?_
      refine XL_cons rfl (X_of_Y0 rfl (Y0_gtw (k := .i64) (a := vn2) (b := 200) rfl (by kernel_rfl) (by kernel_rfl))) ?_
      refine XL_nil ?_
      kernel_rfl
    refine V_cond rfl (fun hc5 => ?_) (fun hc5 => ?_)
    · have h := of_true h hc5
      obtain ⟨y6, hy6, h⟩ := of_bind h
      obtain ⟨x7, hx7, h⟩ := of_sI h
      refine V_reg [false, true, false, false, false, true, false, false, false, false, false, false, false, false, false, false, false, false, false, false] [80000] (s1 := ⟨[.bot, I vn2, .bot, .bot, .bot, I x7, .bot, .bot, .bot, .bot, .bot, .bot, .bot, .bot, .bot, .bot, .bot, .bot, .bot, .bot], [(80000, .pbox (σ 80000) [.sl (y6.2.1.map c5), Ti y6.2.2.1, .v (.int .u64 y6.2.2.2)])]⟩) ?_ ?_
      · refine XL_cons rfl (X_of_Y0 rfl (E_move (I y4.1) rfl (by kernel_rfl))) ?_
        refine XL_cons rfl (X_of_Y0 rfl (Y0_mul64 (a := y4.1) (b := 256) rfl (by kernel_rfl) (by kernel_rfl))) ?_
        refine XL_cons rfl (X_of_Y0 rfl (E_move (.pt 80000 0) rfl (by kernel_rfl))) ?_
        refine XL_cons rfl (X_callR (E' := [(80000, .pbox (σ 80000) [.sl (y6.2.1.map c5), Ti y6.2.2.1, .v (.int .u64 y6.2.2.2)])]) [(80000, 80000)] 15 (s_spec_l1Cur_next hy6) cf_spec_l1Cur_next rfl rfl (by kernel_rfl) rfl (mE_cons (by kernel_rfl) mE_nil) rfl (by kernel_rfl) rfl rfl (by kernel_rfl)) ?_
        refine XL_cons rfl (X_of_Y0 rfl (Y0_add64 (a := w64 (y4.1 * 256)) (b := y6.1) rfl (by kernel_rfl) (by kernel_rfl))) ?_
        refine XL_cons rfl (X_of_Y0 rfl (E_assign (I (w64 ((w64 (y4.1 * 256)) + y6.1))) rfl (by kernel_rfl))) ?_
        refine XL_nil ?_
        subst hx7
        kernel_rfl
      show V _ _ _ _
      obtain ⟨z8, hz8, h⟩ := of_bind h
      obtain ⟨t9, ht9, h⟩ := of_sI h
      refine V_sreg [false, false, false, false, true, false, false, false, false, false, false, false, false, false, false, false, false, false, false, false] [80000] (s1 := ⟨[.bot, .bot, .bot, .bot, I t9, .bot, .bot, .bot, .bot, .bot, .bot, .bot, .bot, .bot, .bot, .bot, .bot, .bot, .bot, .bot], [(80000, .pbox (σ 80000) [.sl (y6.2.1.map c5), Ti y6.2.2.1, .v (.int .u64 y6.2.2.2)])]⟩) ?_ ?_
      · refine XL_cons rfl (X_of_Y0 rfl (E_move (I x7) rfl (by kernel_rfl))) ?_
        refine XL_cons rfl (X_of_Y0 rfl (E_move (I vn2) rfl (by kernel_rfl))) ?_
        refine XL_cons rfl (X_of_Y0 rfl (Y0_rem (k := .i64) (a := x7) (b := vn2) rfl (by kernel_rfl) (by kernel_rfl) (nz_some hz8))) ?_
        refine XL_cons rfl (X_of_Y0 rfl (E_assign (I (Int.tmod x7 vn2)) rfl (by kernel_rfl))) ?_
        refine XL_nil ?_
        subst ht9
        kernel_rfl
      refine V_ret ?_
      obtain rfl := some_inj h
      show PostR _ _ _ _ _ _
      exact ⟨⟨.inr rfl, rfl, rfl, rfl⟩, ⟨rfl, trivial⟩⟩
    · have h := of_false h hc5
      refine V_skip ?_
      show V _ _ _ _
      obtain ⟨z10, hz10, h⟩ := of_bind h
      obtain ⟨t11, ht11, h⟩ := of_sI h
      refine V_sreg [false, false, false, false, true, false, false, false, false, false, false, false, false, false, false, false, false, false, false, false] [80000] (s1 := ⟨[.bot, .bot, .bot, .bot, I t11, .bot, .bot, .bot, .bot, .bot, .bot, .bot, .bot, .bot, .bot, .bot, .bot, .bot, .bot, .bot], [(80000, .pbox (σ 80000) [.sl (y4.2.1.map c5), Ti y4.2.2.1, .v (.int .u64 y4.2.2.2)])]⟩) ?_ ?_
      · refine XL_cons rfl (X_of_Y0 rfl (E_move (I y4.1) rfl (by kernel_rfl))) ?_
        refine XL_cons rfl (X_of_Y0 rfl (E_move (I vn2) rfl (by kernel_rfl))) ?_
        refine XL_cons rfl (X_of_Y0 rfl (Y0_rem (k := .i64) (a := y4.1) (b := vn2) rfl (by kernel_rfl) (by kernel_rfl) (nz_some hz10))) ?_
        refine XL_cons rfl (X_of_Y0 rfl (E_assign (I (Int.tmod y4.1 vn2)) rfl (by kernel_rfl))) ?_
        refine XL_nil ?_
        subst ht11
        kernel_rfl
      refine V_ret ?_
      obtain rfl := some_inj h
      show PostR _ _ _ _ _ _
      exact ⟨⟨.inr rfl, rfl, rfl, rfl⟩, ⟨rfl, trivial⟩⟩
theorem cf_spec_l1Cur_among : ∀ args w, (callFunc 67 args).run Try.prog w = .ok (.enter 67 args) w := run_callFunc Try.func67 (by kernel_rfl) (by kernel_rfl)
set_option maxRecDepth 100000 in
set_option maxHeartbeats 400000 in
theorem s_spec_l1Cur_among {c1 : ((List Int) × Int × Int)} {list2 : List Int} {r : (Int × (((List Int) × Int × Int)))} (h : r_spec_l1Cur_among c1 list2 = some r) : CallR Try.prog 67 [.pt 80000 0, .c (.sl (list2.map c3))] [(80000, .box [.sl (c1.1.map c5), Ti c1.2.1, .v (.int .u64 c1.2.2)])] (I r.1) [] [(80000, .box [.sl (r.2.1.map c5), Ti r.2.2.1, .v (.int .u64 r.2.2.2)])] := by
  refine CallR_of_text (rs := [.t 4]) (vs := [.tmp 4]) Try.func67 rfl rfl (.cons rfl FitsL.nil) (by decide) 12 rfl rfl fun σ => ?_
  unfold r_spec_l1Cur_among at h
  show V _ _ ⟨[.pt 80000 0, .c (.sl (list2.map c3)), .bot, .bot, .bot, .bot, .bot, .bot, .bot, .bot, .bot, .bot], [(80000, .pbox (σ 80000) [.sl (c1.1.map c5), Ti c1.2.1, .v (.int .u64 c1.2.2)])]⟩ _
  refine V_sreg [true, true, false, false, false, false, false, false, false, false, false, false] [80000] (s1 := ⟨[.pt 80000 0, .c (.sl (list2.map c3)), .bot, .bot, .bot, .bot, .bot, .bot, .bot, .bot, .bot, .bot], [(80000, .pbox (σ 80000) [.sl (c1.1.map c5), Ti c1.2.1, .v (.int .u64 c1.2.2)])]⟩) ?_ ?_
  · refine XL_cons rfl (X_of_Y0 rfl (E_assign (I 0) rfl (by kernel_rfl))) ?_
    refine XL_nil ?_
    kernel_rfl
  obtain ⟨y3, hy3, h⟩ := of_bind h
  obtain ⟨e4, he4, h⟩ := of_bind h
  refine V_sreg [false, false, false, false, true, false, false, false, false, false, false, false] [80000] (s1 := ⟨[.bot, .bot, .bot, .bot, I e4, .bot, .bot, .bot, .bot, .bot, .bot, .bot], [(80000, .pbox (σ 80000) [.sl (y3.2.1.map c5), Ti y3.2.2.1, .v (.int .u64 y3.2.2.2)])]⟩) ?_ ?_
  · refine XL_cons rfl (X_of_Y0 rfl (E_move (.c (.sl (list2.map c3))) rfl (by kernel_rfl))) ?_
    refine XL_cons rfl (X_of_Y0 rfl (E_move (.pt 80000 0) rfl (by kernel_rfl))) ?_
    refine XL_cons rfl (X_of_Y0 rfl (E_move (.c (.sl (list2.map c3))) rfl (by kernel_rfl))) ?_
    refine XL_cons rfl (X_of_Y0 rfl (Y0_lenM (c := c3) (xs := list2) Try.underlying27 rfl (by kernel_rfl))) ?_
    refine XL_cons rfl (X_callR (E' := [(80000, .pbox (σ 80000) [.sl (y3.2.1.map c5), Ti y3.2.2.1, .v (.int .u64 y3.2.2.2)])]) [(80000, 80000)] 9 (s_spec_l1Cur_pick hy3) cf_spec_l1Cur_pick rfl rfl (by kernel_rfl) rfl (mE_cons (by kernel_rfl) mE_nil) rfl (by kernel_rfl) rfl rfl (by kernel_rfl)) ?_
    refine XL_cons rfl (X_of_Y0 rfl (Y0_idxM (c := c3) (xs := list2) (v := e4) (n := y3.1) Try.underlying27 sz3 rfl (by kernel_rfl) (by kernel_rfl) he4)) ?_
    refine XL_cons rfl (X_of_Y0 rfl (Y0_load1 (c := Ti e4) (cs := []) sc3 rfl (by kernel_rfl))) ?_
    refine XL_cons rfl (X_of_Y0 rfl (E_assign (I e4) rfl (by kernel_rfl))) ?_
    refine XL_nil ?_
    kernel_rfl
  refine V_ret ?_
  obtain rfl := some_inj h
  show PostR _ _ _ _ _ _
  exact ⟨⟨.inr rfl, rfl, rfl, rfl⟩, ⟨rfl, trivial⟩⟩
theorem cf_spec_nuMod : ∀ args w, (callFunc 118 args).run Try.prog w = .ok (.enter 118 args) w := run_callFunc Try.func118 (by kernel_rfl) (by kernel_rfl)
set_option maxRecDepth 100000 in
set_option maxHeartbeats 400000 in
theorem s_spec_nuMod {a1 : Int} {vm2 : Int} {r : Int} (h : r_spec_nuMod a1 vm2 = some r) : CallS Try.prog 118 [I a1, I vm2] (I r) [] := by
  refine CallS_of_text (rs := [.t 4]) (vs := [.tmp 4]) Try.func118 rfl rfl (.cons rfl FitsL.nil) (by decide) 15 rfl ?_
  unfold r_spec_nuMod at h
  show V _ _ ⟨[I a1, I vm2, .bot, .bot, .bot, .bot, .bot, .bot, .bot, .bot, .bot, .bot, .bot, .bot, .bot], []⟩ _
  refine V_sreg [true, true, false, false, false, false, false, false, false, false, false, false, false, false, false] [] (s1 := ⟨[I a1, I vm2, .bot, .bot, .bot, .bot, .bot, .bot, .bot, .bot, .bot, .bot, .bot, .bot, .bot], []⟩) ?_ ?_
  · refine XL_cons rfl (X_of_Y0 rfl (E_assign (I 0) rfl (by kernel_rfl))) ?_
    refine XL_nil ?_
    kernel_rfl
  obtain ⟨z3, hz3, h⟩ := of_bind h
  obtain ⟨vr4, hvr4, h⟩ := of_sI h
  refine V_sreg [false, true, false, false, false, true, false, false, false, false, false, false, false, false, false] [] (s1 := ⟨[.bot, I vm2, .bot, .bot, .bot, I vr4, .bot, .bot, .bot, .bot, .bot, .bot, .bot, .bot, .bot], []⟩) ?_ ?_
  · refine XL_cons rfl (X_of_Y0 rfl (E_move (I a1) rfl (by kernel_rfl))) ?_
    refine XL_cons rfl (X_of_Y0 rfl (E_move (I vm2) rfl (by kernel_rfl))) ?_
    refine XL_cons rfl (X_of_Y0 rfl (Y0_rem (k := .i64) (a := a1) (b := vm2) rfl (by kernel_rfl) (by kernel_rfl) (nz_some hz3))) ?_
    refine XL_cons rfl (X_of_Y0 rfl (E_assign (I (Int.tmod a1 vm2)) rfl (by kernel_rfl))) ?_
    refine XL_nil ?_
    subst hvr4
    kernel_rfl
  refine V_seq ?_
  refine V_sreg [false, true, false, false, false, true, false, false, false, false, true, false, false, false, false] [] (s1 := ⟨[.bot, I vm2, .bot, .bot, .bot, I vr4, .bot, .bot, .bot, .bot, Bo (ltI vr4 0), .bot, .bot, .bot, .bot], []⟩) ?_ ?_
  · refine XL_cons rfl (X_of_Y0 rfl (E_move (I vr4) rfl (by kernel_rfl))) ?_
    refine XL_cons rfl (X_of_Y0 rfl (Y0_ltw (k := .i64) (a := vr4) (b := 0) rfl (by kernel_rfl) (by kernel_rfl))) ?_
    refine XL_nil ?_
    kernel_rfl
  refine V_cond rfl (fun hc5 => ?_) (fun hc5 => ?_)
  · have h := of_true h hc5
    obtain ⟨vr6, hvr6, h⟩ := of_sI h
    refine V_reg [false, false, false, false, false, true, false, false, false, false, false, false, false, false, false] [] (s1 := ⟨[.bot, .bot, .bot, .bot, .bot, I vr6, .bot, .bot, .bot, .bot, .bot, .bot, .bot, .bot, .bot], []⟩) ?_ ?_
    · refine XL_cons rfl (X_of_Y0 rfl (E_move (I vr4) rfl (by kernel_rfl))) ?_
      refine XL_cons rfl (X_of_Y0 rfl (E_move (I vm2) rfl (by kernel_rfl))) ?_
      refine XL_cons rfl (X_of_Y0 rfl (Y0_add64 (a := vr4) (b := vm2) rfl (by kernel_rfl) (by kernel_rfl))) ?_
      refine XL_cons rfl (X_of_Y0 rfl (E_assign (I (w64 (vr4 + vm2))) rfl (by kernel_rfl))) ?_
      refine XL_nil ?_
      subst hvr6
      kernel_rfl
    show V _ _ _ _
    refine V_sreg [false, false, false, false, true, false, false, false, false, false, false, false, false, false, false] [] (s1 := ⟨[.bot, .bot, .bot, .bot, I vr6, .bot, .bot, .bot, .bot, .bot, .bot, .bot, .bot, .bot, .bot], []⟩) ?_ ?_
    · refine XL_cons rfl (X_of_Y0 rfl (E_move (I vr6) rfl (by kernel_rfl))) ?_
      refine XL_cons rfl (X_of_Y0 rfl (E_assign (I vr6) rfl (by kernel_rfl))) ?_
      refine XL_nil ?_
      kernel_rfl
    refine V_ret ?_
    obtain rfl := some_inj h
    show Post _ _ _ _ _
    exact ⟨.inr rfl, rfl, rfl, rfl⟩
  · have h := of_false h hc5
    refine V_skip ?_
    show V _ _ _ _
    refine V_sreg [false, false, false, false, true, false, false, false, false, false, false, false, false, false, false] [] (s1 := ⟨[.bot, .bot, .bot, .bot, I vr4, .bot, .bot, .bot, .bot, .bot, .bot, .bot, .bot, .bot, .bot], []⟩) ?_ ?_
    · refine XL_cons rfl (X_of_Y0 rfl (E_move (I vr4) rfl (by kernel_rfl))) ?_
      refine XL_cons rfl (X_of_Y0 rfl (E_assign (I vr4) rfl (by kernel_rfl))) ?_
      refine XL_nil ?_
      kernel_rfl
    refine V_ret ?_
    obtain rfl := some_inj h
    show Post _ _ _ _ _
    exact ⟨.inr rfl, rfl, rfl, rfl⟩
theorem cf_spec_l1Most : ∀ args w, (callFunc 119 args).run Try.prog w = .ok (.enter 119 args) w := run_callFunc Try.func119 (by kernel_rfl) (by kernel_rfl)
set_option maxRecDepth 100000 in
set_option maxHeartbeats 400000 in
theorem s_spec_l1Most {a1 : Int} {b2 : Int} {r : Int} (h : r_spec_l1Most a1 b2 = some r) : CallS Try.prog 119 [I a1, I b2] (I r) [] := by
  refine CallS_of_text (rs := [.t 4]) (vs := [.tmp 4]) Try.func119 rfl rfl (.cons rfl FitsL.nil) (by decide) 10 rfl ?_
  unfold r_spec_l1Most at h
  show V _ _ ⟨[I a1, I b2, .bot, .bot, .bot, .bot, .bot, .bot, .bot, .bot], []⟩ _
  refine V_sreg [true, true, false, false, false, false, false, false, false, false] [] (s1 := ⟨[I a1, I b2, .bot, .bot, .bot, .bot, .bot, .bot, .bot, .bot], []⟩) ?_ ?_
  · refine XL_cons rfl (X_of_Y0 rfl (E_assign (I 0) rfl (by kernel_rfl))) ?_
    refine XL_nil ?_
    kernel_rfl
  refine V_seq ?_
  refine V_sreg [true, true, false, false, false, false, false, true, false, false] [] (s1 := ⟨[I a1, I b2, .bot, .bot, .bot, .bot, .bot, Bo (ltI b2 a1), .bot, .bot], []⟩) ?_ ?_
  · refine XL_cons rfl (X_of_Y0 rfl (E_move (I a1) rfl (by kernel_rfl))) ?_
    refine XL_cons rfl (X_of_Y0 rfl (E_move (I b2) rfl (by kernel_rfl))) ?_
    refine XL_cons rfl (X_of_Y0 rfl (Y0_gtw (k := .i64) (a := a1) (b := b2) rfl (by kernel_rfl) (by kernel_rfl))) ?_
    refine XL_nil ?_
    kernel_rfl
  refine V_cond rfl (fun hc3 => ?_) (fun hc3 => ?_)
  · have h := of_true h hc3
    refine V_sreg [false, false, false, false, true, false, false, false, false, false] [] (s1 := ⟨[.bot, .bot, .bot, .bot, I a1, .bot, .bot, .bot, .bot, .bot], []⟩) ?_ ?_
    · refine XL_cons rfl (X_of_Y0 rfl (E_move (I a1) rfl (by kernel_rfl))) ?_
      refine XL_cons rfl (X_of_Y0 rfl (E_assign (I a1) rfl (by kernel_rfl))) ?_
      refine XL_nil ?_
      kernel_rfl
    refine V_ret ?_
    obtain rfl := some_inj h
    show Post _ _ _ _ _
    exact ⟨.inr rfl, rfl, rfl, rfl⟩
  · have h := of_false h hc3
    refine V_skip ?_
    show V _ _ _ _
    refine V_sreg [false, false, false, false, true, false, false, false, false, false] [] (s1 := ⟨[.bot, .bot, .bot, .bot, I b2, .bot, .bot, .bot, .bot, .bot], []⟩) ?_ ?_
    · refine XL_cons rfl (X_of_Y0 rfl (E_move (I b2) rfl (by kernel_rfl))) ?_
      refine XL_cons rfl (X_of_Y0 rfl (E_assign (I b2) rfl (by kernel_rfl))) ?_
      refine XL_nil ?_
      kernel_rfl
    refine V_ret ?_
    obtain rfl := some_inj h
    show Post _ _ _ _ _
    exact ⟨.inr rfl, rfl, rfl, rfl⟩
theorem cf_spec_l1Cur_disc : ∀ args w, (callFunc 58 args).run Try.prog w = .ok (.enter 58 args) w := run_callFunc Try.func58 (by kernel_rfl) (by kernel_rfl)
set_option maxRecDepth 100000 in
set_option maxHeartbeats 400000 in
theorem s_spec_l1Cur_disc {c1 : ((List Int) × Int × Int)} {r : (Int × (((List Int) × Int × Int)))} (h : r_spec_l1Cur_disc c1 = some r) : CallR Try.prog 58 [.pt 80000 0] [(80000, .box [.sl (c1.1.map c5), Ti c1.2.1, .v (.int .u64 c1.2.2)])] (I r.1) [] [(80000, .box [.sl (r.2.1.map c5), Ti r.2.2.1, .v (.int .u64 r.2.2.2)])] := by
  refine CallR_of_text (rs := [.t 2]) (vs := [.tmp 2]) Try.func58 rfl rfl (.cons rfl FitsL.nil) (by decide) 42 rfl rfl fun σ => ?_
  unfold r_spec_l1Cur_disc at h
  show V _ _ ⟨[.pt 80000 0, .bot, .bot, .bot, .bot, .bot, .bot, .bot, .bot, .bot, .bot, .bot, .bot, .bot, .bot, .bot, .bot, .bot, .bot, .bot, .bot, .bot, .bot, .bot, .bot, .bot, .bot, .bot, .bot, .bot, .bot, .bot, .bot, .bot, .bot, .bot, .bot, .bot, .bot, .bot, .bot, .bot], [(80000, .pbox (σ 80000) [.sl (c1.1.map c5), Ti c1.2.1, .v (.int .u64 c1.2.2)])]⟩ _
  refine V_sreg [true, false, false, false, false, false, false, false, false, false, false, false, false, false, false, false, false, false, false, false, false, false, false, false, false, false, false, false, false, false, false, false, false, false, false, false, false, false, false, false, false, false] [80000] (s1 := ⟨[.pt 80000 0, .bot, .bot, .bot, .bot, .bot, .bot, .bot, .bot, .bot, .bot, .bot, .bot, .bot, .bot, .bot, .bot, .bot, .bot, .bot, .bot, .bot, .bot, .bot, .bot, .bot, .bot, .bot, .bot, .bot, .bot, .bot, .bot, .bot, .bot, .bot, .bot, .bot, .bot, .bot, .bot, .bot], [(80000, .pbox (σ 80000) [.sl (c1.1.map c5), Ti c1.2.1, .v (.int .u64 c1.2.2)])]⟩) ?_ ?_
  · refine XL_cons rfl (X_of_Y0 rfl (E_assign (I 0) rfl (by kernel_rfl))) ?_
    refine XL_nil ?_
    kernel_rfl
  refine V_seq ?_
  obtain ⟨y2, hy2, h⟩ := of_bind h
  refine V_sreg [true, false, false, false, false, true, false, false, false, false, false, false, false, false, false, false, false, false, false, false, false, false, false, false, false, false, false, false, false, false, false, false, false, false, false, false, false, false, false, false, false, false] [80000] (s1 := ⟨[.pt 80000 0, .bot, .bot, .bot, .bot, I y2.1, .bot, .bot, .bot, .bot, .bot, .bot, .bot, .bot, .bot, .bot, .bot, .bot, .bot, .bot, .bot, .bot, .bot, .bot, .bot, .bot, .bot, .bot, .bot, .bot, .bot, .bot, .bot, .bot, .bot, .bot, .bot, .bot, .bot, .bot, .bot, .bot], [(80000, .pbox (σ 80000) [.sl (y2.2.1.map c5), Ti y2.2.2.1, .v (.int .u64 y2.2.2.2)])]⟩) ?_ ?_
  · refine XL_cons rfl (X_of_Y0 rfl (E_move (.pt 80000 0) rfl (by kernel_rfl))) ?_
    refine XL_cons rfl (X_callR (E' := [(80000, .pbox (σ 80000) [.sl (y2.2.1.map c5), Ti y2.2.2.1, .v (.int .u64 y2.2.2.2)])]) [(80000, 80000)] 5 (s_spec_l1Cur_pick hy2) cf_spec_l1Cur_pick rfl rfl (by kernel_rfl) rfl (mE_cons (by kernel_rfl) mE_nil) rfl (by kernel_rfl) rfl rfl (by kernel_rfl)) ?_
    refine XL_nil ?_
    kernel_rfl
  refine V_block ?_
  refine V_sreg [true, false, false, false, false, true, true, false, false, false, false, false, false, false, false, false, false, false, false, false, false, false, false, false, false, false, false, false, false, false, false, false, false, false, false, false, false, false, false, false, false, false] [80000] (s1 := ⟨[.pt 80000 0, .bot, .bot, .bot, .bot, I y2.1, Bo (eqI y2.1 0), .bot, .bot, .bot, .bot, .bot, .bot, .bot, .bot, .bot, .bot, .bot, .bot, .bot, .bot, .bot, .bot, .bot, .bot, .bot, .bot, .bot, .bot, .bot, .bot, .bot, .bot, .bot, .bot, .bot, .bot, .bot, .bot, .bot, .bot, .bot], [(80000, .pbox (σ 80000) [.sl (y2.2.1.map c5), Ti y2.2.2.1, .v (.int .u64 y2.2.2.2)])]⟩) ?_ ?_
  · refine XL_cons rfl (X_of_Y0 rfl (Y0_eqw (k := .i64) (a := y2.1) (b := 0) rfl (by kernel_rfl) (by kernel_rfl))) ?_
    refine XL_cons rfl (X_of_Y0 rfl (E_assign (Bo (eqI y2.1 0)) rfl (by kernel_rfl))) ?_
    refine XL_nil ?_
    kernel_rfl
  refine V_cond rfl (fun hc3 => ?_) (fun hc3 => ?_)
  · have h := of_true h hc3
    obtain ⟨y4, hy4, h⟩ := of_bind h
    refine V_sreg [false, false, true, false, false, false, false, false, false, false, false, false, false, false, false, false, false, false, false, false, false, false, false, false, false, false, false, false, false, false, false, false, false, false, false, false, false, false, false, false, false, false] [80000] (s1 := ⟨[.bot, .bot, I y4.1, .bot, .bot, .bot, .bot, .bot, .bot, .bot, .bot, .bot, .bot, .bot, .bot, .bot, .bot, .bot, .bot, .bot, .bot, .bot, .bot, .bot, .bot, .bot, .bot, .bot, .bot, .bot, .bot, .bot, .bot, .bot, .bot, .bot, .bot, .bot, .bot, .bot, .bot, .bot], [(80000, .pbox (σ 80000) [.sl (y4.2.1.map c5), Ti y4.2.2.1, .v (.int .u64 y4.2.2.2)])]⟩) ?_ ?_
    · refine XL_cons rfl (X_of_Y0 rfl (E_move (.pt 80000 0) rfl (by kernel_rfl))) ?_
      refine XL_cons rfl (X_of_Y1 rfl (Y1_bslice (z := zv3) (els := [-3, -4, -2000, -1999, -1996, -1995, -163, -2001, -2003, -2004, 0, 1, 5, -1, -2, -5, -9223372036854775808].map c3) Try.underlying27 iz3 rfl (by decide) rfl (by kernel_rfl) rfl (by simp [c3]) (by decide) (by decide))) ?_
      refine XL_freeze 72 (T := 3) (sz := 1) (els := ([-3, -4, -2000, -1999, -1996, -1995, -163, -2001, -2003, -2004, 0, 1, 5, -1, -2, -5, -9223372036854775808]).map c3) (s1 := ⟨[.pt 80000 0, .bot, .bot, .bot, .bot, I y2.1, Bo (eqI y2.1 0), .bot, .pt 80000 0, .c (.sl (([-3, -4, -2000, -1999, -1996, -1995, -163, -2001, -2003, -2004, 0, 1, 5, -1, -2, -5, -9223372036854775808]).map c3)), .bot, .bot, .bot, .bot, .bot, .bot, .bot, .bot, .bot, .bot, .bot, .bot, .bot, .bot, .bot, .bot, .bot, .bot, .bot, .bot, .bot, .bot, .bot, .bot, .bot, .bot, .bot, .bot, .bot, .bot, .bot, .bot], [(80000, .pbox (σ 80000) [.sl (y2.2.1.map c5), Ti y2.2.2.1, .v (.int .u64 y2.2.2.2)])]⟩) (by kernel_rfl) (by kernel_rfl) ?_
      refine XL_cons rfl (X_callR (E' := [(80000, .pbox (σ 80000) [.sl (y4.2.1.map c5), Ti y4.2.2.1, .v (.int .u64 y4.2.2.2)])]) [(80000, 80000)] 10 (s_spec_l1Cur_among hy4) cf_spec_l1Cur_among rfl rfl (by kernel_rfl) rfl (mE_cons (by kernel_rfl) mE_nil) rfl (by kernel_rfl) rfl rfl (by kernel_rfl)) ?_
      refine XL_cons rfl (X_of_Y0 rfl (E_assign (I y4.1) rfl (by kernel_rfl))) ?_
      refine XL_nil ?_
      kernel_rfl
    refine V_ret ?_
    obtain rfl := some_inj h
    show PostR _ _ _ _ _ _
    exact ⟨⟨.inr rfl, rfl, rfl, rfl⟩, ⟨rfl, trivial⟩⟩
  · have h := of_false h hc3
    obtain ⟨j5, hj5, h⟩ := of_bind h
    refine V_cutK [true, false, false, false, false, true, false, false, false, false, false, true, false, false, false, false, false, false, false, false, false, false, false, false, false, false, false, false, false, false, false, false, false, false, false, false, false, false, false, false, false, false] [80000] (s1 := ⟨[.pt 80000 0, .bot, .bot, .bot, .bot, I y2.1, .bot, .bot, .bot, .bot, .bot, Bo j5, .bot, .bot, .bot, .bot, .bot, .bot, .bot, .bot, .bot, .bot, .bot, .bot, .bot, .bot, .bot, .bot, .bot, .bot, .bot, .bot, .bot, .bot, .bot, .bot, .bot, .bot, .bot, .bot, .bot, .bot], [(80000, .pbox (σ 80000) [.sl (y2.2.1.map c5), Ti y2.2.2.1, .v (.int .u64 y2.2.2.2)])]⟩) ?_ ?_
    · clear h
      have h := hj5
      clear hj5
      refine V_sreg [true, false, false, false, false, true, false, false, false, false, false, true, false, false, false, false, false, false, false, false, false, false, false, false, false, false, false, false, false, false, false, false, false, false, false, false, false, false, false, false, false, false] [80000] (s1 := ⟨[.pt 80000 0, .bot, .bot, .bot, .bot, I y2.1, .bot, .bot, .bot, .bot, .bot, Bo (eqI y2.1 1), .bot, .bot, .bot, .bot, .bot, .bot, .bot, .bot, .bot, .bot, .bot, .bot, .bot, .bot, .bot, .bot, .bot, .bot, .bot, .bot, .bot, .bot, .bot, .bot, .bot, .bot, .bot, .bot, .bot, .bot], [(80000, .pbox (σ 80000) [.sl (y2.2.1.map c5), Ti y2.2.2.1, .v (.int .u64 y2.2.2.2)])]⟩) ?_ ?_
      · refine XL_cons rfl (X_of_Y0 rfl (Y0_eqw (k := .i64) (a := y2.1) (b := 1) rfl (by kernel_rfl) (by kernel_rfl))) ?_
        refine XL_cons rfl (X_of_Y0 rfl (E_assign (Bo (eqI y2.1 1)) rfl (by kernel_rfl))) ?_
        refine XL_nil ?_
        kernel_rfl
      refine V_cond rfl (fun hc6 => ?_) (fun hc6 => ?_)
      · have h := of_true h hc6
        refine V_skip ?_
        obtain rfl := some_inj h
        show St.keep _ _ _ = _
        rfl
      · have h := of_false h hc6
        refine V_reg [true, false, false, false, false, true, false, false, false, false, false, true, false, false, false, false, false, false, false, false, false, false, false, false, false, false, false, false, false, false, false, false, false, false, false, false, false, false, false, false, false, false] [80000] (s1 := ⟨[.pt 80000 0, .bot, .bot, .bot, .bot, I y2.1, .bot, .bot, .bot, .bot, .bot, Bo (eqI y2.1 2), .bot, .bot, .bot, .bot, .bot, .bot, .bot, .bot, .bot, .bot, .bot, .bot, .bot, .bot, .bot, .bot, .bot, .bot, .bot, .bot, .bot, .bot, .bot, .bot, .bot, .bot, .bot, .bot, .bot, .bot], [(80000, .pbox (σ 80000) [.sl (y2.2.1.map c5), Ti y2.2.2.1, .v (.int .u64 y2.2.2.2)])]⟩) ?_ ?_
        · refine XL_cons rfl (X_of_Y0 rfl (Y0_eqw (k := .i64) (a := y2.1) (b := 2) rfl (by kernel_rfl) (by kernel_rfl))) ?_
          refine XL_cons rfl (X_of_Y0 rfl (E_assign (Bo (eqI y2.1 2)) rfl (by kernel_rfl))) ?_
          refine XL_nil ?_
          kernel_rfl
        obtain rfl := some_inj h
        show St.keep _ _ _ = _
        rfl
    refine V_cond rfl (fun hc7 => ?_) (fun hc7 => ?_)
    · have h := of_true h hc7
      obtain ⟨y8, hy8, h⟩ := of_bind h
      obtain ⟨d9, hd9, h⟩ := of_sI h
      refine V_sreg [false, false, false, true, false, false, false, false, false, false, false, false, false, false, false, false, false, false, false, false, false, false, false, false, false, false, false, false, false, false, false, false, false, false, false, false, false, false, false, false, false, false] [80000] (s1 := ⟨[.bot, .bot, .bot, I d9, .bot, .bot, .bot, .bot, .bot, .bot, .bot, .bot, .bot, .bot, .bot, .bot, .bot, .bot, .bot, .bot, .bot, .bot, .bot, .bot, .bot, .bot, .bot, .bot, .bot, .bot, .bot, .bot, .bot, .bot, .bot, .bot, .bot, .bot, .bot, .bot, .bot, .bot], [(80000, .pbox (σ 80000) [.sl (y8.2.1.map c5), Ti y8.2.2.1, .v (.int .u64 y8.2.2.2)])]⟩) ?_ ?_
      · refine XL_cons rfl (X_of_Y0 rfl (E_move (.pt 80000 0) rfl (by kernel_rfl))) ?_
        refine XL_cons rfl (X_callR (E' := [(80000, .pbox (σ 80000) [.sl (y8.2.1.map c5), Ti y8.2.2.1, .v (.int .u64 y8.2.2.2)])]) [(80000, 80000)] 15 (s_spec_l1Cur_pick hy8) cf_spec_l1Cur_pick rfl rfl (by kernel_rfl) rfl (mE_cons (by kernel_rfl) mE_nil) rfl (by kernel_rfl) rfl rfl (by kernel_rfl)) ?_
        refine XL_cons rfl (X_of_Y0 rfl (Y0_sub64 (a := -3) (b := y8.1) rfl (by kernel_rfl) (by kernel_rfl))) ?_
        refine XL_cons rfl (X_of_Y0 rfl (E_assign (I (w64 ((-3) - y8.1))) rfl (by kernel_rfl))) ?_
        refine XL_nil ?_
        subst hd9
        kernel_rfl
      refine V_seq ?_
      obtain ⟨y10, hy10, h⟩ := of_bind h
      refine V_sreg [false, false, false, true, false, false, false, false, false, false, false, false, false, false, false, false, false, false, false, true, false, false, false, false, false, false, false, false, false, false, false, false, false, false, false, false, false, false, false, false, false, false] [80000] (s1 := ⟨[.bot, .bot, .bot, I d9, .bot, .bot, .bot, .bot, .bot, .bot, .bot, .bot, .bot, .bot, .bot, .bot, .bot, .bot, .bot, Bo (ltI 1 y10), .bot, .bot, .bot, .bot, .bot, .bot, .bot, .bot, .bot, .bot, .bot, .bot, .bot, .bot, .bot, .bot, .bot, .bot, .bot, .bot, .bot, .bot], [(80000, .pbox (σ 80000) [.sl (y8.2.1.map c5), Ti y8.2.2.1, .v (.int .u64 y8.2.2.2)])]⟩) ?_ ?_
      · refine XL_cons rfl (X_of_Y0 rfl (E_move (I d9) rfl (by kernel_rfl))) ?_
        refine XL_cons rfl (X_of_Y1 rfl (Y1_call (s_spec_nuMod hy10) cf_spec_nuMod rfl (by kernel_rfl))) ?_
        refine XL_cons rfl (X_of_Y0 rfl (Y0_gtw (k := .i64) (a := y10) (b := 1) rfl (by kernel_rfl) (by kernel_rfl))) ?_
        refine XL_nil ?_
        kernel_rfl
      refine V_cond rfl (fun hc11 => ?_) (fun hc11 => ?_)
      · have h := of_true h hc11
        obtain ⟨y12, hy12, h⟩ := of_bind h
        refine V_reg [false, false, false, true, false, false, false, false, false, false, false, false, false, false, false, false, false, false, false, false, false, false, false, false, false, false, false, false, false, false, false, false, false, false, false, false, false, false, false, false, false, false] [80000] (s1 := ⟨[.bot, .bot, .bot, I y12, .bot, .bot, .bot, .bot, .bot, .bot, .bot, .bot, .bot, .bot, .bot, .bot, .bot, .bot, .bot, .bot, .bot, .bot, .bot, .bot, .bot, .bot, .bot, .bot, .bot, .bot, .bot, .bot, .bot, .bot, .bot, .bot, .bot, .bot, .bot, .bot, .bot, .bot], [(80000, .pbox (σ 80000) [.sl (y8.2.1.map c5), Ti y8.2.2.1, .v (.int .u64 y8.2.2.2)])]⟩) ?_ ?_
        · refine XL_cons rfl (X_of_Y0 rfl (E_move (I d9) rfl (by kernel_rfl))) ?_
          refine XL_cons rfl (X_of_Y0 rfl (Y0_sub64 (a := d9) (b := 2) rfl (by kernel_rfl) (by kernel_rfl))) ?_
          refine XL_cons rfl (X_of_Y1 rfl (Y1_call (s_spec_l1Most hy12) cf_spec_l1Most rfl (by kernel_rfl))) ?_
          refine XL_cons rfl (X_of_Y0 rfl (E_assign (I y12) rfl (by kernel_rfl))) ?_
          refine XL_nil ?_
          kernel_rfl
        show V _ _ _ _
        refine V_sreg [false, false, true, false, false, false, false, false, false, false, false, false, false, false, false, false, false, false, false, false, false, false, false, false, false, false, false, false, false, false, false, false, false, false, false, false, false, false, false, false, false, false] [80000] (s1 := ⟨[.bot, .bot, I y12, .bot, .bot, .bot, .bot, .bot, .bot, .bot, .bot, .bot, .bot, .bot, .bot, .bot, .bot, .bot, .bot, .bot, .bot, .bot, .bot, .bot, .bot, .bot, .bot, .bot, .bot, .bot, .bot, .bot, .bot, .bot, .bot, .bot, .bot, .bot, .bot, .bot, .bot, .bot], [(80000, .pbox (σ 80000) [.sl (y8.2.1.map c5), Ti y8.2.2.1, .v (.int .u64 y8.2.2.2)])]⟩) ?_ ?_
        · refine XL_cons rfl (X_of_Y0 rfl (E_move (I y12) rfl (by kernel_rfl))) ?_
          refine XL_cons rfl (X_of_Y0 rfl (E_assign (I y12) rfl (by kernel_rfl))) ?_
          refine XL_nil ?_
          kernel_rfl
        refine V_ret ?_
        obtain rfl := some_inj h
        show PostR _ _ _ _ _ _
        exact ⟨⟨.inr rfl, rfl, rfl, rfl⟩, ⟨rfl, trivial⟩⟩
      · have h := of_false h hc11
        refine V_skip ?_
        show V _ _ _ _
        refine V_sreg [false, false, true, false, false, false, false, false, false, false, false, false, false, false, false, false, false, false, false, false, false, false, false, false, false, false, false, false, false, false, false, false, false, false, false, false, false, false, false, false, false, false] [80000] (s1 := ⟨[.bot, .bot, I d9, .bot, .bot, .bot, .bot, .bot, .bot, .bot, .bot, .bot, .bot, .bot, .bot, .bot, .bot, .bot, .bot, .bot, .bot, .bot, .bot, .bot, .bot, .bot, .bot, .bot, .bot, .bot, .bot, .bot, .bot, .bot, .bot, .bot, .bot, .bot, .bot, .bot, .bot, .bot], [(80000, .pbox (σ 80000) [.sl (y8.2.1.map c5), Ti y8.2.2.1, .v (.int .u64 y8.2.2.2)])]⟩) ?_ ?_
        · refine XL_cons rfl (X_of_Y0 rfl (E_move (I d9) rfl (by kernel_rfl))) ?_
          refine XL_cons rfl (X_of_Y0 rfl (E_assign (I d9) rfl (by kernel_rfl))) ?_
          refine XL_nil ?_
          kernel_rfl
        refine V_ret ?_
        obtain rfl := some_inj h
        show PostR _ _ _ _ _ _
        exact ⟨⟨.inr rfl, rfl, rfl, rfl⟩, ⟨rfl, trivial⟩⟩
    · have h := of_false h hc7
      obtain ⟨j13, hj13, h⟩ := of_bind h
      refine V_cutK [true, false, false, false, false, true, false, false, false, false, false, false, false, false, false, false, false, false, false, false, false, false, false, false, true, false, false, false, false, false, false, false, false, false, false, false, false, false, false, false, false, false] [80000] (s1 := ⟨[.pt 80000 0, .bot, .bot, .bot, .bot, I y2.1, .bot, .bot, .bot, .bot, .bot, .bot, .bot, .bot, .bot, .bot, .bot, .bot, .bot, .bot, .bot, .bot, .bot, .bot, Bo j13, .bot, .bot, .bot, .bot, .bot, .bot, .bot, .bot, .bot, .bot, .bot, .bot, .bot, .bot, .bot, .bot, .bot], [(80000, .pbox (σ 80000) [.sl (y2.2.1.map c5), Ti y2.2.2.1, .v (.int .u64 y2.2.2.2)])]⟩) ?_ ?_
      · clear h
        have h := hj13
        clear hj13
        refine V_sreg [true, false, false, false, false, true, false, false, false, false, false, false, false, false, false, false, false, false, false, false, false, false, false, false, true, false, false, false, false, false, false, false, false, false, false, false, false, false, false, false, false, false] [80000] (s1 := ⟨[.pt 80000 0, .bot, .bot, .bot, .bot, I y2.1, .bot, .bot, .bot, .bot, .bot, .bot, .bot, .bot, .bot, .bot, .bot, .bot, .bot, .bot, .bot, .bot, .bot, .bot, Bo (eqI y2.1 3), .bot, .bot, .bot, .bot, .bot, .bot, .bot, .bot, .bot, .bot, .bot, .bot, .bot, .bot, .bot, .bot, .bot], [(80000, .pbox (σ 80000) [.sl (y2.2.1.map c5), Ti y2.2.2.1, .v (.int .u64 y2.2.2.2)])]⟩) ?_ ?_
        · refine XL_cons rfl (X_of_Y0 rfl (Y0_eqw (k := .i64) (a := y2.1) (b := 3) rfl (by kernel_rfl) (by kernel_rfl))) ?_
          refine XL_cons rfl (X_of_Y0 rfl (E_assign (Bo (eqI y2.1 3)) rfl (by kernel_rfl))) ?_
          refine XL_nil ?_
          kernel_rfl
        refine V_cond rfl (fun hc14 => ?_) (fun hc14 => ?_)
        · have h := of_true h hc14
          refine V_skip ?_
          obtain rfl := some_inj h
          show St.keep _ _ _ = _
          rfl
        · have h := of_false h hc14
          refine V_sreg [true, false, false, false, false, true, false, false, false, false, false, false, false, false, false, false, false, false, false, false, false, false, false, false, true, false, false, false, false, false, false, false, false, false, false, false, false, false, false, false, false, false] [80000] (s1 := ⟨[.pt 80000 0, .bot, .bot, .bot, .bot, I y2.1, .bot, .bot, .bot, .bot, .bot, .bot, .bot, .bot, .bot, .bot, .bot, .bot, .bot, .bot, .bot, .bot, .bot, .bot, Bo (eqI y2.1 4), .bot, .bot, .bot, .bot, .bot, .bot, .bot, .bot, .bot, .bot, .bot, .bot, .bot, .bot, .bot, .bot, .bot], [(80000, .pbox (σ 80000) [.sl (y2.2.1.map c5), Ti y2.2.2.1, .v (.int .u64 y2.2.2.2)])]⟩) ?_ ?_
          · refine XL_cons rfl (X_of_Y0 rfl (Y0_eqw (k := .i64) (a := y2.1) (b := 4) rfl (by kernel_rfl) (by kernel_rfl))) ?_
            refine XL_cons rfl (X_of_Y0 rfl (E_assign (Bo (eqI y2.1 4)) rfl (by kernel_rfl))) ?_
            refine XL_nil ?_
            kernel_rfl
          refine V_cond rfl (fun hc15 => ?_) (fun hc15 => ?_)
          · have h := of_true h hc15
            refine V_skip ?_
            obtain rfl := some_inj h
            show St.keep _ _ _ = _
            rfl
          · have h := of_false h hc15
            refine V_reg [true, false, false, false, false, true, false, false, false, false, false, false, false, false, false, false, false, false, false, false, false, false, false, false, true, false, false, false, false, false, false, false, false, false, false, false, false, false, false, false, false, false] [80000] (s1 := ⟨[.pt 80000 0, .bot, .bot, .bot, .bot, I y2.1, .bot, .bot, .bot, .bot, .bot, .bot, .bot, .bot, .bot, .bot, .bot, .bot, .bot, .bot, .bot, .bot, .bot, .bot, Bo (eqI y2.1 5), .bot, .bot, .bot, .bot, .bot, .bot, .bot, .bot, .bot, .bot, .bot, .bot, .bot, .bot, .bot, .bot, .bot], [(80000, .pbox (σ 80000) [.sl (y2.2.1.map c5), Ti y2.2.2.1, .v (.int .u64 y2.2.2.2)])]⟩) ?_ ?_
            · refine XL_cons rfl (X_of_Y0 rfl (Y0_eqw (k := .i64) (a := y2.1) (b := 5) rfl (by kernel_rfl) (by kernel_rfl))) ?_
              refine XL_cons rfl (X_of_Y0 rfl (E_assign (Bo (eqI y2.1 5)) rfl (by kernel_rfl))) ?_
              refine XL_nil ?_
              kernel_rfl
            obtain rfl := some_inj h
            show St.keep _ _ _ = _
            rfl
      refine V_cond rfl (fun hc16 => ?_) (fun hc16 => ?_)
      · have h := of_true h hc16
        obtain ⟨y17, hy17, h⟩ := of_bind h
        refine V_sreg [false, false, true, false, false, false, false, false, false, false, false, false, false, false, false, false, false, false, false, false, false, false, false, false, false, false, false, false, false, false, false, false, false, false, false, false, false, false, false, false, false, false] [80000] (s1 := ⟨[.bot, .bot, I y17.1, .bot, .bot, .bot, .bot, .bot, .bot, .bot, .bot, .bot, .bot, .bot, .bot, .bot, .bot, .bot, .bot, .bot, .bot, .bot, .bot, .bot, .bot, .bot, .bot, .bot, .bot, .bot, .bot, .bot, .bot, .bot, .bot, .bot, .bot, .bot, .bot, .bot, .bot, .bot], [(80000, .pbox (σ 80000) [.sl (y17.2.1.map c5), Ti y17.2.2.1, .v (.int .u64 y17.2.2.2)])]⟩) ?_ ?_
        · refine XL_cons rfl (X_of_Y0 rfl (E_move (.pt 80000 0) rfl (by kernel_rfl))) ?_
          refine XL_cons rfl (X_of_Y1 rfl (Y1_bslice (z := zv3) (els := [-84, -420, -231, -260, -455, -520, -660, -1155, -1320, -1380, -1428, -1540, -399, -1092, -1560, -1785].map c3) Try.underlying27 iz3 rfl (by decide) rfl (by kernel_rfl) rfl (by simp [c3]) (by decide) (by decide))) ?_
          refine XL_freeze 232 (T := 3) (sz := 1) (els := ([-84, -420, -231, -260, -455, -520, -660, -1155, -1320, -1380, -1428, -1540, -399, -1092, -1560, -1785]).map c3) (s1 := ⟨[.pt 80000 0, .bot, .bot, .bot, .bot, I y2.1, .bot, .bot, .bot, .bot, .bot, .bot, .bot, .bot, .bot, .bot, .bot, .bot, .bot, .bot, .bot, .bot, .bot, .bot, Bo j13, .bot, .bot, .bot, .pt 80000 0, .c (.sl (([-84, -420, -231, -260, -455, -520, -660, -1155, -1320, -1380, -1428, -1540, -399, -1092, -1560, -1785]).map c3)), .bot, .bot, .bot, .bot, .bot, .bot, .bot, .bot, .bot, .bot, .bot, .bot], [(80000, .pbox (σ 80000) [.sl (y2.2.1.map c5), Ti y2.2.2.1, .v (.int .u64 y2.2.2.2)])]⟩) (by kernel_rfl) (by kernel_rfl) ?_
          refine XL_cons rfl (X_callR (E' := [(80000, .pbox (σ 80000) [.sl (y17.2.1.map c5), Ti y17.2.2.1, .v (.int .u64 y17.2.2.2)])]) [(80000, 80000)] 30 (s_spec_l1Cur_among hy17) cf_spec_l1Cur_among rfl rfl (by kernel_rfl) rfl (mE_cons (by kernel_rfl) mE_nil) rfl (by kernel_rfl) rfl rfl (by kernel_rfl)) ?_
          refine XL_cons rfl (X_of_Y0 rfl (E_assign (I y17.1) rfl (by kernel_rfl))) ?_
          refine XL_nil ?_
          kernel_rfl
        refine V_ret ?_
        obtain rfl := some_inj h
        show PostR _ _ _ _ _ _
        exact ⟨⟨.inr rfl, rfl, rfl, rfl⟩, ⟨rfl, trivial⟩⟩
      · have h := of_false h hc16
        obtain ⟨j18, hj18, h⟩ := of_bind h
        refine V_cutK [true, false, false, false, false, false, false, false, false, false, false, false, false, false, false, false, false, false, false, false, false, false, false, false, false, false, false, false, false, false, false, true, false, false, false, false, false, false, false, false, false, false] [80000] (s1 := ⟨[.pt 80000 0, .bot, .bot, .bot, .bot, .bot, .bot, .bot, .bot, .bot, .bot, .bot, .bot, .bot, .bot, .bot, .bot, .bot, .bot, .bot, .bot, .bot, .bot, .bot, .bot, .bot, .bot, .bot, .bot, .bot, .bot, Bo j18, .bot, .bot, .bot, .bot, .bot, .bot, .bot, .bot, .bot, .bot], [(80000, .pbox (σ 80000) [.sl (y2.2.1.map c5), Ti y2.2.2.1, .v (.int .u64 y2.2.2.2)])]⟩) ?_ ?_
        · clear h
          have h := hj18
          clear hj18
          refine V_sreg [true, false, false, false, false, true, false, false, false, false, false, false, false, false, false, false, false, false, false, false, false, false, false, false, false, false, false, false, false, false, false, true, false, false, false, false, false, false, false, false, false, false] [80000] (s1 := ⟨[.pt 80000 0, .bot, .bot, .bot, .bot, I y2.1, .bot, .bot, .bot, .bot, .bot, .bot, .bot, .bot, .bot, .bot, .bot, .bot, .bot, .bot, .bot, .bot, .bot, .bot, .bot, .bot, .bot, .bot, .bot, .bot, .bot, Bo (eqI y2.1 6), .bot, .bot, .bot, .bot, .bot, .bot, .bot, .bot, .bot, .bot], [(80000, .pbox (σ 80000) [.sl (y2.2.1.map c5), Ti y2.2.2.1, .v (.int .u64 y2.2.2.2)])]⟩) ?_ ?_
          · refine XL_cons rfl (X_of_Y0 rfl (Y0_eqw (k := .i64) (a := y2.1) (b := 6) rfl (by kernel_rfl) (by kernel_rfl))) ?_
            refine XL_cons rfl (X_of_Y0 rfl (E_assign (Bo (eqI y2.1 6)) rfl (by kernel_rfl))) ?_
            refine XL_nil ?_
            kernel_rfl
          refine V_cond rfl (fun hc19 => ?_) (fun hc19 => ?_)
          · have h := of_true h hc19
            refine V_skip ?_
            obtain rfl := some_inj h
            show St.keep _ _ _ = _
            rfl
          · have h := of_false h hc19
            refine V_reg [true, false, false, false, false, false, false, false, false, false, false, false, false, false, false, false, false, false, false, false, false, false, false, false, false, false, false, false, false, false, false, true, false, false, false, false, false, false, false, false, false, false] [80000] (s1 := ⟨[.pt 80000 0, .bot, .bot, .bot, .bot, .bot, .bot, .bot, .bot, .bot, .bot, .bot, .bot, .bot, .bot, .bot, .bot, .bot, .bot, .bot, .bot, .bot, .bot, .bot, .bot, .bot, .bot, .bot, .bot, .bot, .bot, Bo (eqI y2.1 7), .bot, .bot, .bot, .bot, .bot, .bot, .bot, .bot, .bot, .bot], [(80000, .pbox (σ 80000) [.sl (y2.2.1.map c5), Ti y2.2.2.1, .v (.int .u64 y2.2.2.2)])]⟩) ?_ ?_
            · refine XL_cons rfl (X_of_Y0 rfl (Y0_eqw (k := .i64) (a := y2.1) (b := 7) rfl (by kernel_rfl) (by kernel_rfl))) ?_
              refine XL_cons rfl (X_of_Y0 rfl (E_assign (Bo (eqI y2.1 7)) rfl (by kernel_rfl))) ?_
              refine XL_nil ?_
              kernel_rfl
            obtain rfl := some_inj h
            show St.keep _ _ _ = _
            rfl
        refine V_cond rfl (fun hc20 => ?_) (fun hc20 => ?_)
        · have h := of_true h hc20
          obtain ⟨y21, hy21, h⟩ := of_bind h
          obtain ⟨t22, ht22, h⟩ := of_sI h
          refine V_sreg [false, false, true, false, false, false, false, false, false, false, false, false, false, false, false, false, false, false, false, false, false, false, false, false, false, false, false, false, false, false, false, false, false, false, false, false, false, false, false, false, false, false] [80000] (s1 := ⟨[.bot, .bot, I t22, .bot, .bot, .bot, .bot, .bot, .bot, .bot, .bot, .bot, .bot, .bot, .bot, .bot, .bot, .bot, .bot, .bot, .bot, .bot, .bot, .bot, .bot, .bot, .bot, .bot, .bot, .bot, .bot, .bot, .bot, .bot, .bot, .bot, .bot, .bot, .bot, .bot, .bot, .bot], [(80000, .pbox (σ 80000) [.sl (y21.2.1.map c5), Ti y21.2.2.1, .v (.int .u64 y21.2.2.2)])]⟩) ?_ ?_
          · refine XL_cons rfl (X_of_Y0 rfl (E_move (.pt 80000 0) rfl (by kernel_rfl))) ?_
            refine XL_cons rfl (X_callR (E' := [(80000, .pbox (σ 80000) [.sl (y21.2.1.map c5), Ti y21.2.2.1, .v (.int .u64 y21.2.2.2)])]) [(80000, 80000)] 35 (s_spec_l1Cur_pick hy21) cf_spec_l1Cur_pick rfl rfl (by kernel_rfl) rfl (mE_cons (by kernel_rfl) mE_nil) rfl (by kernel_rfl) rfl rfl (by kernel_rfl)) ?_
            refine XL_cons rfl (X_of_Y0 rfl (Y0_add64 (a := 1) (b := y21.1) rfl (by kernel_rfl) (by kernel_rfl))) ?_
            refine XL_cons rfl (X_of_Y0 rfl (Y0_mul64 (a := -4) (b := w64 (1 + y21.1)) rfl (by kernel_rfl) (by kernel_rfl))) ?_
            refine XL_cons rfl (X_of_Y0 rfl (E_assign (I (w64 ((-4) * (w64 (1 + y21.1))))) rfl (by kernel_rfl))) ?_
            refine XL_nil ?_
            subst ht22
            kernel_rfl
          refine V_ret ?_
          obtain rfl := some_inj h
          show PostR _ _ _ _ _ _
          exact ⟨⟨.inr rfl, rfl, rfl, rfl⟩, ⟨rfl, trivial⟩⟩
        · have h := of_false h hc20
          refine V_skip ?_
          show V _ _ _ _
          obtain ⟨y23, hy23, h⟩ := of_bind h
          obtain ⟨t24, ht24, h⟩ := of_sI h
          refine V_sreg [false, false, true, false, false, false, false, false, false, false, false, false, false, false, false, false, false, false, false, false, false, false, false, false, false, false, false, false, false, false, false, false, false, false, false, false, false, false, false, false, false, false] [80000] (s1 := ⟨[.bot, .bot, I t24, .bot, .bot, .bot, .bot, .bot, .bot, .bot, .bot, .bot, .bot, .bot, .bot, .bot, .bot, .bot, .bot, .bot, .bot, .bot, .bot, .bot, .bot, .bot, .bot, .bot, .bot, .bot, .bot, .bot, .bot, .bot, .bot, .bot, .bot, .bot, .bot, .bot, .bot, .bot], [(80000, .pbox (σ 80000) [.sl (y23.2.1.map c5), Ti y23.2.2.1, .v (.int .u64 y23.2.2.2)])]⟩) ?_ ?_
          · refine XL_cons rfl (X_of_Y0 rfl (E_move (.pt 80000 0) rfl (by kernel_rfl))) ?_
            refine XL_cons rfl (X_callR (E' := [(80000, .pbox (σ 80000) [.sl (y23.2.1.map c5), Ti y23.2.2.1, .v (.int .u64 y23.2.2.2)])]) [(80000, 80000)] 39 (s_spec_l1Cur_pick hy23) cf_spec_l1Cur_pick rfl rfl (by kernel_rfl) rfl (mE_cons (by kernel_rfl) mE_nil) rfl (by kernel_rfl) rfl rfl (by kernel_rfl)) ?_
            refine XL_cons rfl (X_of_Y0 rfl (Y0_mul64 (a := 4) (b := y23.1) rfl (by kernel_rfl) (by kernel_rfl))) ?_
            refine XL_cons rfl (X_of_Y0 rfl (Y0_sub64 (a := -3) (b := w64 (4 * y23.1)) rfl (by kernel_rfl) (by kernel_rfl))) ?_
            refine XL_cons rfl (X_of_Y0 rfl (E_assign (I (w64 ((-3) - (w64 (4 * y23.1))))) rfl (by kernel_rfl))) ?_
            refine XL_nil ?_
            subst ht24
            kernel_rfl
          refine V_ret ?_
          obtain rfl := some_inj h
          show PostR _ _ _ _ _ _
          exact ⟨⟨.inr rfl, rfl, rfl, rfl⟩, ⟨rfl, trivial⟩⟩
theorem cf_spec_DrawReducedForms : ∀ args w, (callFunc 20 args).run Try.prog w = .ok (.enter 20 args) w := run_callFunc Try.func20 (by kernel_rfl) (by kernel_rfl)
set_option maxRecDepth 100000 in
set_option maxHeartbeats 400000 in
theorem s_spec_DrawReducedForms {code1 : List Int} {r : Int} (h : r_spec_DrawReducedForms code1 = some r) : CallS Try.prog 20 [.c (.sl (code1.map c5))] (I r) [] := by
  refine CallS_of_text (rs := [.t 2]) (vs := [.tmp 2]) Try.func20 rfl rfl (.cons rfl FitsL.nil) (by decide) 9 rfl ?_
  unfold r_spec_DrawReducedForms at h
  show V _ _ ⟨[.c (.sl (code1.map c5)), .bot, .bot, .bot, .bot, .bot, .bot, .bot, .bot], []⟩ _
  refine V_sreg [true, false, false, false, false, false, false, false, false] [] (s1 := ⟨[.c (.sl (code1.map c5)), .bot, .bot, .bot, .bot, .bot, .bot, .bot, .bot], []⟩) ?_ ?_
  · refine XL_cons rfl (X_of_Y0 rfl (E_assign (I 0) rfl (by kernel_rfl))) ?_
    refine XL_nil ?_
    kernel_rfl
  refine V_sreg [false, false, false, true, false, false, false, false, false] [48] (s1 := ⟨[.bot, .bot, .bot, .pt 48 0, .bot, .bot, .bot, .bot, .bot], [(48, .box [.sl (code1.map c5), Ti 0, .v (.int .u64 0)])]⟩) ?_ ?_
  · refine XL_cons rfl (X_of_Y0 rfl (E_move (.c (.sl (code1.map c5))) rfl (by kernel_rfl))) ?_
    refine XL_cons rfl (X_of_Y0 rfl (Y0_build (cs := [.sl (code1.map c5), Ti 0, .v (.int .u64 0)]) pl62 bt62 rfl rfl (by kernel_rfl))) ?_
    refine XL_cons rfl (X_of_Y1 rfl (Y1_box (cs := [.sl (code1.map c5), Ti 0, .v (.int .u64 0)]) rfl (by kernel_rfl))) ?_
    refine XL_cons rfl (X_of_Y0 rfl (E_assign (.pt 48 0) rfl (by kernel_rfl))) ?_
    refine XL_nil ?_
    kernel_rfl
  obtain ⟨y2, hy2, h⟩ := of_bind h
  refine V_sreg [false, false, true, false, false, false, false, false, false] [] (s1 := ⟨[.bot, .bot, I y2.1, .bot, .bot, .bot, .bot, .bot, .bot], []⟩) ?_ ?_
  · refine XL_cons rfl (X_of_Y0 rfl (E_move (.pt 48 0) rfl (by kernel_rfl))) ?_
    refine XL_cons rfl (X_callR (E' := [(48, .box [.sl (y2.2.1.map c5), Ti y2.2.2.1, .v (.int .u64 y2.2.2.2)])]) [(80000, 48)] 8 (s_spec_l1Cur_disc hy2) cf_spec_l1Cur_disc rfl rfl (by kernel_rfl) rfl (mE_cons (by kernel_rfl) mE_nil) rfl (by kernel_rfl) rfl rfl (by kernel_rfl)) ?_
    refine XL_cons rfl (X_of_Y0 rfl (E_assign (I y2.1) rfl (by kernel_rfl))) ?_
    refine XL_nil ?_
    kernel_rfl
  refine V_ret ?_
  obtain rfl := some_inj h
  show Post _ _ _ _ _
  exact ⟨.inr rfl, rfl, rfl, rfl⟩
theorem cf_laws_numberOf : ∀ args w, (callFunc 21 args).run Try.prog w = .ok (.enter 21 args) w := run_callFunc Try.func21 (by kernel_rfl) (by kernel_rfl)
set_option maxRecDepth 100000 in
set_option maxHeartbeats 400000 in
theorem s_laws_numberOf {b1 : List Int} {r : Int} (h : r_laws_numberOf b1 = some r) : CallS Try.prog 21 [.c (.sl (b1.map c5))] (I r) [] := by
  refine CallS_of_text (rs := [.t 2]) (vs := [.tmp 2]) Try.func21 rfl rfl (.cons rfl FitsL.nil) (by decide) 20 rfl ?_
  unfold r_laws_numberOf at h
  show V _ _ ⟨[.c (.sl (b1.map c5)), .bot, .bot, .bot, .bot, .bot, .bot, .bot, .bot, .bot, .bot, .bot, .bot, .bot, .bot, .bot, .bot, .bot, .bot, .bot], []⟩ _
  refine V_sreg [true, false, false, false, false, false, false, false, false, false, false, false, false, false, false, false, false, false, false, false] [] (s1 := ⟨[.c (.sl (b1.map c5)), .bot, .bot, .bot, .bot, .bot, .bot, .bot, .bot, .bot, .bot, .bot, .bot, .bot, .bot, .bot, .bot, .bot, .bot, .bot], []⟩) ?_ ?_
  · refine XL_cons rfl (X_of_Y0 rfl (E_assign (I 0) rfl (by kernel_rfl))) ?_
    refine XL_nil ?_
    kernel_rfl
  refine V_sreg [true, false, false, true, false, false, false, false, false, false, false, false, false, false, false, false, false, false, false, false] [] (s1 := ⟨[.c (.sl (b1.map c5)), .bot, .bot, I 0, .bot, .bot, .bot, .bot, .bot, .bot, .bot, .bot, .bot, .bot, .bot, .bot, .bot, .bot, .bot, .bot], []⟩) ?_ ?_
  · refine XL_cons rfl (X_of_Y0 rfl (E_assign (I 0) rfl (by kernel_rfl))) ?_
    refine XL_nil ?_
    kernel_rfl
  refine V_seq ?_
  refine V_sreg [false, false, false, true, false, false, true, true, true, false, false, false, false, false, false, false, false, false, false, false] [] (s1 := ⟨[.bot, .bot, .bot, I 0, .bot, .bot, .c (.sl (b1.map c5)), I ((b1.length : Int)), I 0, .bot, .bot, .bot, .bot, .bot, .bot, .bot, .bot, .bot, .bot, .bot], []⟩) ?_ ?_
  · refine XL_cons rfl (X_of_Y0 rfl (E_move (.c (.sl (b1.map c5))) rfl (by kernel_rfl))) ?_
    refine XL_cons rfl (X_of_Y0 rfl (Y0_lenM (c := c5) (xs := b1) Try.underlying22 rfl (by kernel_rfl))) ?_
    refine XL_cons rfl (X_of_Y0 rfl (E_move (I 0) rfl (by kernel_rfl))) ?_
    refine XL_nil ?_
    kernel_rfl
  obtain ⟨o5, hLo5, h⟩ := of_bind h
  refine V_toK [false, false, false, true, false, false, false, false, false, false, false, false, false, false, false, false, false, false, false, false] [] (s1 := ⟨[.bot, .bot, .bot, I o5, .bot, .bot, .bot, .bot, .bot, .bot, .bot, .bot, .bot, .bot, .bot, .bot, .bot, .bot, .bot, .bot], []⟩) ?_ ?_
  · clear h
    refine V_block (V_loop (fun n s => ∃ (vn2 : Int) (t3 : Int), s.keep [false, false, false, true, false, false, true, true, true, false, false, false, false, false, false, false, false, false, false, false] [] = (⟨[.bot, .bot, .bot, I vn2, .bot, .bot, .c (.sl (b1.map c5)), I ((b1.length : Int)), I t3, .bot, .bot, .bot, .bot, .bot, .bot, .bot, .bot, .bot, .bot, .bot], []⟩ : St) ∧ r_laws_numberOf_L4 b1 n vn2 t3 = some o5) FU ⟨_, _,  by rfl, hLo5⟩ ?_)
    clear hLo5
    rintro n s ⟨vn2, t3, hs, h⟩
    refine V_keep _ _ hs ?_
    clear hs
    cases n with
    | zero => cases h
    | succ n =>
      rw [r_laws_numberOf_L4] at h
      refine V_sreg [false, false, false, true, false, false, true, true, true, true, false, false, false, false, false, false, false, false, false, false] [] (s1 := ⟨[.bot, .bot, .bot, I vn2, .bot, .bot, .c (.sl (b1.map c5)), I ((b1.length : Int)), I t3, Bo (ltI t3 ((b1.length : Int))), .bot, .bot, .bot, .bot, .bot, .bot, .bot, .bot, .bot, .bot], []⟩) ?_ ?_
      · refine XL_cons rfl (X_of_Y0 rfl (Y0_ltw (k := .i64) (a := t3) (b := (b1.length : Int)) rfl (by kernel_rfl) (by kernel_rfl))) ?_
        refine XL_nil ?_
        kernel_rfl
      refine V_seq ?_
      refine V_cond rfl (fun hc6 => ?_) (fun hc6 => ?_)
      · have h := of_true h hc6
        refine V_skip ?_
        show V _ _ _ _
        refine V_seq ?_
        refine V_block ?_
        obtain ⟨e7, he7, h⟩ := of_bind h
        refine V_sreg [false, false, false, true, false, true, true, true, true, false, false, false, false, false, false, false, false, false, false, false] [] (s1 := ⟨[.bot, .bot, .bot, I vn2, .bot, .c (.v (.int .u8 e7)), .c (.sl (b1.map c5)), I ((b1.length : Int)), I t3, .bot, .bot, .bot, .bot, .bot, .bot, .bot, .bot, .bot, .bot, .bot], []⟩) ?_ ?_
        · refine XL_cons rfl (X_of_Y0 rfl (Y0_idxM (c := c5) (xs := b1) (v := e7) (n := t3) Try.underlying22 sz5 rfl (by kernel_rfl) (by kernel_rfl) he7)) ?_
          refine XL_cons rfl (X_of_Y0 rfl (Y0_load1 (c := .v (.int .u8 e7)) (cs := []) sc5 rfl (by kernel_rfl))) ?_
          refine XL_cons rfl (X_of_Y0 rfl (E_assign (.c (.v (.int .u8 e7))) rfl (by kernel_rfl))) ?_
          refine XL_nil ?_
          kernel_rfl
        obtain ⟨vn8, hvn8, h⟩ := of_sI h
        refine V_reg [false, false, false, true, false, false, true, true, true, false, false, false, false, false, false, false, false, false, false, false] [] (s1 := ⟨[.bot, .bot, .bot, I vn8, .bot, .bot, .c (.sl (b1.map c5)), I ((b1.length : Int)), I t3, .bot, .bot, .bot, .bot, .bot, .bot, .bot, .bot, .bot, .bot, .bot], []⟩) ?_ ?_
        · refine XL_cons rfl (X_of_Y0 rfl (E_move (I vn2) rfl (by kernel_rfl))) ?_
          refine XL_cons rfl (X_of_Y0 rfl (Y0_mul64 (a := 31) (b := vn2) rfl (by kernel_rfl) (by kernel_rfl))) ?_
          refine XL_cons rfl (X_of_Y0 rfl (E_move (.c (.v (.int .u8 e7))) rfl (by kernel_rfl))) ?_
          refine XL_cons rfl (X_of_Y0 rfl (Y0_conv (k2 := .u8) (a := e7) Try.underlying5 Try.underlying3 rfl (by kernel_rfl))) ?_
          refine XL_cons rfl (X_of_Y0 rfl (Y0_add64 (a := w64 (31 * vn2)) (b := IntKind.i64.wrap e7) rfl (by kernel_rfl) (by kernel_rfl))) ?_
          refine XL_cons rfl (X_of_Y0 rfl (Y0_rem (k := .i64) (a := w64 ((w64 (31 * vn2)) + (IntKind.i64.wrap e7))) (b := 1000003) rfl (by kernel_rfl) (by kernel_rfl) (by decide))) ?_
          refine XL_cons rfl (X_of_Y0 rfl (E_assign (I (Int.tmod (w64 ((w64 (31 * vn2)) + (IntKind.i64.wrap e7))) 1000003)) rfl (by kernel_rfl))) ?_
          refine XL_nil ?_
          subst hvn8
          kernel_rfl
        show V _ _ _ _
        obtain ⟨t9, ht9, h⟩ := of_sI h
        refine V_reg [false, false, false, true, false, false, true, true, true, false, false, false, false, false, false, false, false, false, false, false] [] (s1 := ⟨[.bot, .bot, .bot, I vn8, .bot, .bot, .c (.sl (b1.map c5)), I ((b1.length : Int)), I t9, .bot, .bot, .bot, .bot, .bot, .bot, .bot, .bot, .bot, .bot, .bot], []⟩) ?_ ?_
        · refine XL_cons rfl (X_of_Y0 rfl (Y0_add64 (a := t3) (b := 1) rfl (by kernel_rfl) (by kernel_rfl))) ?_
          refine XL_cons rfl (X_of_Y0 rfl (E_move (I (w64 (t3 + 1))) rfl (by kernel_rfl))) ?_
          refine XL_nil ?_
          subst ht9
          kernel_rfl
        exact ⟨n, Nat.lt_succ_self n, _, _,  by rfl, h⟩
      · have h := of_false h hc6
        refine V_exit ?_
        obtain rfl := some_inj h
        show St.keep _ _ _ = _
        rfl
  show V _ _ _ _
  refine V_sreg [false, false, true, false, false, false, false, false, false, false, false, false, false, false, false, false, false, false, false, false] [] (s1 := ⟨[.bot, .bot, I o5, .bot, .bot, .bot, .bot, .bot, .bot, .bot, .bot, .bot, .bot, .bot, .bot, .bot, .bot, .bot, .bot, .bot], []⟩) ?_ ?_
  · refine XL_cons rfl (X_of_Y0 rfl (E_move (I o5) rfl (by kernel_rfl))) ?_
    refine XL_cons rfl (X_of_Y0 rfl (E_assign (I o5) rfl (by kernel_rfl))) ?_
    refine XL_nil ?_
    kernel_rfl
  refine V_ret ?_
  obtain rfl := some_inj h
  show Post _ _ _ _ _
  exact ⟨.inr rfl, rfl, rfl, rfl⟩
theorem cf_impl_areNumbers : ∀ args w, (callFunc 90 args).run Try.prog w = .ok (.enter 90 args) w := run_callFunc Try.func90 (by kernel_rfl) (by kernel_rfl)
set_option maxRecDepth 100000 in
set_option maxHeartbeats 400000 in
theorem s_impl_areNumbers {list1 : List Int} {r : Bool} (h : r_impl_areNumbers list1 = some r) : CallS Try.prog 90 [.c (.sl (list1.map c3))] (Bo r) [] := by
  refine CallS_of_text (rs := [.t 2]) (vs := [.tmp 2]) Try.func90 rfl rfl (.cons rfl FitsL.nil) (by decide) 18 rfl ?_
  unfold r_impl_areNumbers at h
  show V _ _ ⟨[.c (.sl (list1.map c3)), .bot, .bot, .bot, .bot, .bot, .bot, .bot, .bot, .bot, .bot, .bot, .bot, .bot, .bot, .bot, .bot, .bot], []⟩ _
  refine V_sreg [true, false, false, false, false, false, false, false, false, false, false, false, false, false, false, false, false, false] [] (s1 := ⟨[.c (.sl (list1.map c3)), .bot, .bot, .bot, .bot, .bot, .bot, .bot, .bot, .bot, .bot, .bot, .bot, .bot, .bot, .bot, .bot, .bot], []⟩) ?_ ?_
  · refine XL_cons rfl (X_of_Y0 rfl (E_assign (Bo false) rfl (by kernel_rfl))) ?_
    refine XL_nil ?_
    kernel_rfl
  refine V_seq ?_
  refine V_sreg [false, false, false, false, false, true, true, true, false, false, false, false, false, false, false, false, false, false] [] (s1 := ⟨[.bot, .bot, .bot, .bot, .bot, .c (.sl (list1.map c3)), I ((list1.length : Int)), I 0, .bot, .bot, .bot, .bot, .bot, .bot, .bot, .bot, .bot, .bot], []⟩) ?_ ?_
  · refine XL_cons rfl (X_of_Y0 rfl (E_move (.c (.sl (list1.map c3))) rfl (by kernel_rfl))) ?_
    refine XL_cons rfl (X_of_Y0 rfl (Y0_lenM (c := c3) (xs := list1) Try.underlying27 rfl (by kernel_rfl))) ?_
    refine XL_cons rfl (X_of_Y0 rfl (E_move (I 0) rfl (by kernel_rfl))) ?_
    refine XL_nil ?_
    kernel_rfl
  obtain ⟨qo4, hLo4, hko4⟩ := of_bind h
  refine V_toS (q := qo4) (S := fun o4 => ⟨[.bot, .bot, .bot, .bot, .bot, .bot, .bot, .bot, .bot, .bot, .bot, .bot, .bot, .bot, .bot, .bot, .bot, .bot], []⟩) [false, false, false, false, false, false, false, false, false, false, false, false, false, false, false, false, false, false] [] ?_ ?_
  · refine V_block (V_loop (fun n s => ∃ (t2 : Int), s.keep [false, false, false, false, false, true, true, true, false, false, false, false, false, false, false, false, false, false] [] = (⟨[.bot, .bot, .bot, .bot, .bot, .c (.sl (list1.map c3)), I ((list1.length : Int)), I t2, .bot, .bot, .bot, .bot, .bot, .bot, .bot, .bot, .bot, .bot], []⟩ : St) ∧ r_impl_areNumbers_L3 list1 n t2 = some qo4) FU ⟨_,  by rfl, hLo4⟩ ?_)
    clear hLo4
    rintro n s ⟨t2, hs, h⟩
    refine V_keep _ _ hs ?_
    clear hs
    cases n with
    | zero => cases h
    | succ n =>
      rw [r_impl_areNumbers_L3] at h
      refine V_sreg [false, false, false, false, false, true, true, true, true, false, false, false, false, false, false, false, false, false] [] (s1 := ⟨[.bot, .bot, .bot, .bot, .bot, .c (.sl (list1.map c3)), I ((list1.length : Int)), I t2, Bo (ltI t2 ((list1.length : Int))), .bot, .bot, .bot, .bot, .bot, .bot, .bot, .bot, .bot], []⟩) ?_ ?_
      · refine XL_cons rfl (X_of_Y0 rfl (Y0_ltw (k := .i64) (a := t2) (b := (list1.length : Int)) rfl (by kernel_rfl) (by kernel_rfl))) ?_
        refine XL_nil ?_
        kernel_rfl
      refine V_seq ?_
      refine V_cond rfl (fun hc5 => ?_) (fun hc5 => ?_)
      · have h := of_true h hc5
        refine V_skip ?_
        show V _ _ _ _
        refine V_seq ?_
        refine V_block ?_
        obtain ⟨e6, he6, h⟩ := of_bind h
        refine V_sreg [false, false, false, false, true, true, true, true, false, false, false, false, false, false, false, false, false, false] [] (s1 := ⟨[.bot, .bot, .bot, .bot, I e6, .c (.sl (list1.map c3)), I ((list1.length : Int)), I t2, .bot, .bot, .bot, .bot, .bot, .bot, .bot, .bot, .bot, .bot], []⟩) ?_ ?_
        · refine XL_cons rfl (X_of_Y0 rfl (Y0_idxM (c := c3) (xs := list1) (v := e6) (n := t2) Try.underlying27 sz3 rfl (by kernel_rfl) (by kernel_rfl) he6)) ?_
          refine XL_cons rfl (X_of_Y0 rfl (Y0_load1 (c := Ti e6) (cs := []) sc3 rfl (by kernel_rfl))) ?_
          refine XL_cons rfl (X_of_Y0 rfl (E_assign (I e6) rfl (by kernel_rfl))) ?_
          refine XL_nil ?_
          kernel_rfl
        refine V_sreg [false, false, false, false, false, true, true, true, false, false, false, false, false, false, false, false, true, false] [] (s1 := ⟨[.bot, .bot, .bot, .bot, .bot, .c (.sl (list1.map c3)), I ((list1.length : Int)), I t2, .bot, .bot, .bot, .bot, .bot, .bot, .bot, .bot, Bo (bif (ltI e6 (-1000000)) then true else (ltI 1000000 e6)), .bot], []⟩) ?_ ?_
        · refine XL_cons rfl (X_of_Y0 rfl (E_move (I e6) rfl (by kernel_rfl))) ?_
          refine XL_cons rfl (X_of_Y0 rfl (Y0_ltw (k := .i64) (a := e6) (b := -1000000) rfl (by kernel_rfl) (by kernel_rfl))) ?_
          refine XL_cons rfl (X_of_Y0 rfl (E_move (Bo (ltI e6 (-1000000))) rfl (by kernel_rfl))) ?_
          refine XL_split (ltI e6 (-1000000)) (fun hc7 => ?_) (fun hc7 => ?_)
          · refine XL_skipF (ltI e6 (-1000000)) rfl rfl (by kernel_rfl) hc7 rfl ?_
            refine XL_skipF (ltI e6 (-1000000)) rfl rfl (by kernel_rfl) hc7 rfl ?_
            refine XL_cons rfl (X_of_Y0 rfl (Y0_pick1 (b := ltI e6 (-1000000)) (p := true) (q := ltI 1000000 e6) rfl (by kernel_rfl) hc7 (by kernel_rfl))) ?_
            refine XL_nil ?_
            kernel_rfl
          · refine XL_takeC (ltI e6 (-1000000)) rfl rfl (by kernel_rfl) hc7 (X_of_Y0 rfl (E_move (I e6) rfl (by kernel_rfl))) ?_
            refine XL_takeC (ltI e6 (-1000000)) rfl rfl (by kernel_rfl) hc7 (X_of_Y0 rfl (Y0_gtw (k := .i64) (a := e6) (b := 1000000) rfl (by kernel_rfl) (by kernel_rfl))) ?_
            refine XL_cons rfl (X_of_Y0 rfl (Y0_pick0 (b := ltI e6 (-1000000)) (p := true) (q := ltI 1000000 e6) rfl (by kernel_rfl) hc7 (by kernel_rfl))) ?_
            refine XL_nil ?_
            kernel_rfl
        refine V_cond rfl (fun hc8 => ?_) (fun hc8 => ?_)
        · have h := of_true h hc8
          refine V_sreg [false, false, true, false, false, false, false, false, false, false, false, false, false, false, false, false, false, false] [] (s1 := ⟨[.bot, .bot, Bo false, .bot, .bot, .bot, .bot, .bot, .bot, .bot, .bot, .bot, .bot, .bot, .bot, .bot, .bot, .bot], []⟩) ?_ ?_
          · refine XL_cons rfl (X_of_Y0 rfl (E_assign (Bo false) rfl (by kernel_rfl))) ?_
            refine XL_nil ?_
            kernel_rfl
          refine V_ret ?_
          obtain rfl := some_inj h
          have h := hko4
          obtain rfl := some_inj h
          show Post _ _ _ _ _
          exact ⟨.inr rfl, rfl, rfl, rfl⟩
        · have h := of_false h hc8
          refine V_skip ?_
          show V _ _ _ _
          obtain ⟨t9, ht9, h⟩ := of_sI h
          refine V_reg [false, false, false, false, false, true, true, true, false, false, false, false, false, false, false, false, false, false] [] (s1 := ⟨[.bot, .bot, .bot, .bot, .bot, .c (.sl (list1.map c3)), I ((list1.length : Int)), I t9, .bot, .bot, .bot, .bot, .bot, .bot, .bot, .bot, .bot, .bot], []⟩) ?_ ?_
          · refine XL_cons rfl (X_of_Y0 rfl (Y0_add64 (a := t2) (b := 1) rfl (by kernel_rfl) (by kernel_rfl))) ?_
            refine XL_cons rfl (X_of_Y0 rfl (E_move (I (w64 (t2 + 1))) rfl (by kernel_rfl))) ?_
            refine XL_nil ?_
            subst ht9
            kernel_rfl
          exact ⟨n, Nat.lt_succ_self n, _,  by rfl, h⟩
      · have h := of_false h hc5
        refine V_exit ?_
        obtain rfl := some_inj h
        exact ⟨_, rfl, by rfl⟩
  rintro o4 rfl
  have h := hko4
  clear hko4
  show V _ _ _ _
  refine V_sreg [false, false, true, false, false, false, false, false, false, false, false, false, false, false, false, false, false, false] [] (s1 := ⟨[.bot, .bot, Bo true, .bot, .bot, .bot, .bot, .bot, .bot, .bot, .bot, .bot, .bot, .bot, .bot, .bot, .bot, .bot], []⟩) ?_ ?_
  · refine XL_cons rfl (X_of_Y0 rfl (E_assign (Bo true) rfl (by kernel_rfl))) ?_
    refine XL_nil ?_
    kernel_rfl
  refine V_ret ?_
  obtain rfl := some_inj h
  show Post _ _ _ _ _
  exact ⟨.inr rfl, rfl, rfl, rfl⟩
theorem cf_impl_rootsOfDiscriminant : ∀ args w, (callFunc 161 args).run Try.prog w = .ok (.enter 161 args) w := run_callFunc Try.func161 (by kernel_rfl) (by kernel_rfl)
set_option maxRecDepth 100000 in
set_option maxHeartbeats 400000 in
theorem s_impl_rootsOfDiscriminant {d1 : Int} {vn2 : Int} {r : List Int} (h : r_impl_rootsOfDiscriminant d1 vn2 = some r) : CallS Try.prog 161 [I d1, I vn2] (.ow 0) [(0, .arr 3 1 (r.map c3))] := by
  refine CallS_of_text (rs := [.t 4]) (vs := [.tmp 4]) Try.func161 rfl rfl (.cons rfl FitsL.nil) (by decide) 28 rfl ?_
  unfold r_impl_rootsOfDiscriminant at h
  show V _ _ ⟨[I d1, I vn2, .bot, .bot, .bot, .bot, .bot, .bot, .bot, .bot, .bot, .bot, .bot, .bot, .bot, .bot, .bot, .bot, .bot, .bot, .bot, .bot, .bot, .bot, .bot, .bot, .bot, .bot], []⟩ _
  refine V_sreg [true, true, false, false, false, false, false, false, false, false, false, false, false, false, false, false, false, false, false, false, false, false, false, false, false, false, false, false] [] (s1 := ⟨[I d1, I vn2, .bot, .bot, .bot, .bot, .bot, .bot, .bot, .bot, .bot, .bot, .bot, .bot, .bot, .bot, .bot, .bot, .bot, .bot, .bot, .bot, .bot, .bot, .bot, .bot, .bot, .bot], []⟩) ?_ ?_
  · refine XL_cons rfl (X_of_Y1 rfl (Y1_nil (e := 3) 1 (by decide) (.inl rfl))) ?_
    refine XL_nil ?_
    kernel_rfl
  refine V_sreg [true, true, false, false, false, true, false, false, false, false, false, false, false, false, false, false, false, false, false, false, false, false, false, false, false, false, false, false] [56] (s1 := ⟨[I d1, I vn2, .bot, .bot, .bot, .ow 56, .bot, .bot, .bot, .bot, .bot, .bot, .bot, .bot, .bot, .bot, .bot, .bot, .bot, .bot, .bot, .bot, .bot, .bot, .bot, .bot, .bot, .bot], [(56, .arr 3 1 ((([] : List Int)).map c3))]⟩) ?_ ?_
  · refine XL_cons rfl (X_of_Y1 rfl (Y1_bslice0 Try.underlying27 sz3 (by decide) rfl rfl)) ?_
    refine XL_cons rfl (X_of_Y0 rfl (E_assign (.ow 56) rfl (by kernel_rfl))) ?_
    refine XL_nil ?_
    kernel_rfl
  refine V_seq ?_
  refine V_sreg [true, true, false, false, false, true, true, false, false, false, false, false, false, false, false, false, false, false, false, false, false, false, false, false, false, false, false, false] [56] (s1 := ⟨[I d1, I vn2, .bot, .bot, .bot, .ow 56, I 0, .bot, .bot, .bot, .bot, .bot, .bot, .bot, .bot, .bot, .bot, .bot, .bot, .bot, .bot, .bot, .bot, .bot, .bot, .bot, .bot, .bot], [(56, .arr 3 1 ((([] : List Int)).map c3))]⟩) ?_ ?_
  · refine XL_cons rfl (X_of_Y0 rfl (E_assign (I 0) rfl (by kernel_rfl))) ?_
    refine XL_nil ?_
    kernel_rfl
  obtain ⟨o6, hLo6, h⟩ := of_bind h
  refine V_toK [false, false, false, false, false, true, false, false, false, false, false, false, false, false, false, false, false, false, false, false, false, false, false, false, false, false, false, false] [56] (s1 := ⟨[.bot, .bot, .bot, .bot, .bot, .ow 56, .bot, .bot, .bot, .bot, .bot, .bot, .bot, .bot, .bot, .bot, .bot, .bot, .bot, .bot, .bot, .bot, .bot, .bot, .bot, .bot, .bot, .bot], [(56, .arr 3 1 (o6.map c3))]⟩) ?_ ?_
  · clear h
    refine V_block (V_loop (fun n s => ∃ (b3 : Int) (l4 : List Int), s.keep [true, true, false, false, false, true, true, false, false, false, false, false, false, false, false, false, false, false, false, false, false, false, false, false, false, false, false, false] [56] = (⟨[I d1, I vn2, .bot, .bot, .bot, .ow 56, I b3, .bot, .bot, .bot, .bot, .bot, .bot, .bot, .bot, .bot, .bot, .bot, .bot, .bot, .bot, .bot, .bot, .bot, .bot, .bot, .bot, .bot], [(56, .arr 3 1 (l4.map c3))]⟩ : St) ∧ r_impl_rootsOfDiscriminant_L5 d1 vn2 n b3 l4 = some o6) FU ⟨_, _,  by rfl, hLo6⟩ ?_)
    clear hLo6
    rintro n s ⟨b3, l4, hs, h⟩
    refine V_keep _ _ hs ?_
    clear hs
    cases n with
    | zero => cases h
    | succ n =>
      rw [r_impl_rootsOfDiscriminant_L5] at h
      refine V_seq ?_
      refine V_sreg [true, true, false, false, false, true, true, false, false, false, false, true, false, false, false, false, false, false, false, false, false, false, false, false, false, false, false, false] [56] (s1 := ⟨[I d1, I vn2, .bot, .bot, .bot, .ow 56, I b3, .bot, .bot, .bot, .bot, Bo (ltI b3 (w64 (2 * vn2))), .bot, .bot, .bot, .bot, .bot, .bot, .bot, .bot, .bot, .bot, .bot, .bot, .bot, .bot, .bot, .bot], [(56, .arr 3 1 (l4.map c3))]⟩) ?_ ?_
      · refine XL_cons rfl (X_of_Y0 rfl (E_move (I b3) rfl (by kernel_rfl))) ?_
        refine XL_cons rfl (X_of_Y0 rfl (E_move (I vn2) rfl (by kernel_rfl))) ?_
        refine XL_cons rfl (X_of_Y0 rfl (Y0_mul64 (a := 2) (b := vn2) rfl (by kernel_rfl) (by kernel_rfl))) ?_
        refine XL_cons rfl (X_of_Y0 rfl (Y0_ltw (k := .i64) (a := b3) (b := w64 (2 * vn2)) rfl (by kernel_rfl) (by kernel_rfl))) ?_
        refine XL_nil ?_
        kernel_rfl
      refine V_cond rfl (fun hc7 => ?_) (fun hc7 => ?_)
      · have h := of_true h hc7
        refine V_skip ?_
        show V _ _ _ _
        refine V_seq ?_
        refine V_block ?_
        obtain ⟨z8, hz8, h⟩ := of_bind h
        obtain ⟨t9, ht9, h⟩ := of_bind h
        have ht9 := some_inj ht9
        refine V_sreg [true, true, false, false, false, true, true, false, false, false, false, false, false, false, false, false, false, false, false, false, false, false, true, false, false, false, false, false] [56] (s1 := ⟨[I d1, I vn2, .bot, .bot, .bot, .ow 56, I b3, .bot, .bot, .bot, .bot, .bot, .bot, .bot, .bot, .bot, .bot, .bot, .bot, .bot, .bot, .bot, Bo t9, .bot, .bot, .bot, .bot, .bot], [(56, .arr 3 1 (l4.map c3))]⟩) ?_ ?_
        · refine XL_cons rfl (X_of_Y0 rfl (E_move (I b3) rfl (by kernel_rfl))) ?_
          refine XL_cons rfl (X_of_Y0 rfl (E_move (I b3) rfl (by kernel_rfl))) ?_
          refine XL_cons rfl (X_of_Y0 rfl (Y0_mul64 (a := b3) (b := b3) rfl (by kernel_rfl) (by kernel_rfl))) ?_
          refine XL_cons rfl (X_of_Y0 rfl (E_move (I d1) rfl (by kernel_rfl))) ?_
          refine XL_cons rfl (X_of_Y0 rfl (Y0_sub64 (a := w64 (b3 * b3)) (b := d1) rfl (by kernel_rfl) (by kernel_rfl))) ?_
          refine XL_cons rfl (X_of_Y0 rfl (E_move (I vn2) rfl (by kernel_rfl))) ?_
          refine XL_cons rfl (X_of_Y0 rfl (Y0_mul64 (a := 4) (b := vn2) rfl (by kernel_rfl) (by kernel_rfl))) ?_
          refine XL_cons rfl (X_of_Y0 rfl (Y0_rem (k := .i64) (a := w64 ((w64 (b3 * b3)) - d1)) (b := w64 (4 * vn2)) rfl (by kernel_rfl) (by kernel_rfl) (nz_some hz8))) ?_
          refine XL_cons rfl (X_of_Y0 rfl (Y0_eqw (k := .i64) (a := Int.tmod (w64 ((w64 (b3 * b3)) - d1)) (w64 (4 * vn2))) (b := 0) rfl (by kernel_rfl) (by kernel_rfl))) ?_
          refine XL_nil ?_
          subst ht9
          kernel_rfl
        refine V_cond rfl (fun hc10 => ?_) (fun hc10 => ?_)
        · have h := of_true h hc10
          obtain ⟨u11, hu11, h⟩ := of_bind h
          refine V_reg [true, true, false, false, false, true, true, false, false, false, false, false, false, false, false, false, false, false, false, false, false, false, false, false, false, false, false, false] [56] (s1 := ⟨[I d1, I vn2, .bot, .bot, .bot, .ow 56, I b3, .bot, .bot, .bot, .bot, .bot, .bot, .bot, .bot, .bot, .bot, .bot, .bot, .bot, .bot, .bot, .bot, .bot, .bot, .bot, .bot, .bot], [(56, .arr 3 1 ((l4 ++ ([b3])).map c3))]⟩) ?_ ?_
          · refine XL_cons rfl (X_of_Y0 rfl (E_move (.ow 56) rfl (by kernel_rfl))) ?_
            refine XL_cons rfl (X_of_Y0 rfl (E_move (I b3) rfl (by kernel_rfl))) ?_
            refine XL_cons rfl (X_of_Y1 rfl (Y1_bslice (z := zv3) (els := [b3].map c3) Try.underlying27 iz3 rfl (by decide) rfl (by kernel_rfl) rfl (by simp [c3]) (by decide) (by decide))) ?_
            refine XL_cons rfl (X_appendM (c := c3) (xs := l4) (ys := [b3]) (id := 56) (z := zv3) rfl rfl Try.underlying27 izb3 rfl (by kernel_rfl) (by kernel_rfl) (by kernel_rfl) (fun _ => rfl) (by simp) (room_some hu11) (by decide)) ?_
            refine XL_cons rfl (X_of_Y0 rfl (E_assign (.ow 56) rfl (by kernel_rfl))) ?_
            refine XL_nil ?_
            kernel_rfl
          show V _ _ _ _
          obtain ⟨b12, hb12, h⟩ := of_sI h
          refine V_reg [true, true, false, false, false, true, true, false, false, false, false, false, false, false, false, false, false, false, false, false, false, false, false, false, false, false, false, false] [56] (s1 := ⟨[I d1, I vn2, .bot, .bot, .bot, .ow 56, I b12, .bot, .bot, .bot, .bot, .bot, .bot, .bot, .bot, .bot, .bot, .bot, .bot, .bot, .bot, .bot, .bot, .bot, .bot, .bot, .bot, .bot], [(56, .arr 3 1 ((l4 ++ ([b3])).map c3))]⟩) ?_ ?_
          · refine XL_cons rfl (X_of_Y0 rfl (E_move (I b3) rfl (by kernel_rfl))) ?_
            refine XL_cons rfl (X_of_Y0 rfl (Y0_add64 (a := b3) (b := 1) rfl (by kernel_rfl) (by kernel_rfl))) ?_
            refine XL_cons rfl (X_of_Y0 rfl (E_assign (I (w64 (b3 + 1))) rfl (by kernel_rfl))) ?_
            refine XL_nil ?_
            subst hb12
            kernel_rfl
          exact ⟨n, Nat.lt_succ_self n, _, _,  by rfl, h⟩
        · have h := of_false h hc10
          refine V_skip ?_
          show V _ _ _ _
          obtain ⟨b13, hb13, h⟩ := of_sI h
          refine V_reg [true, true, false, false, false, true, true, false, false, false, false, false, false, false, false, false, false, false, false, false, false, false, false, false, false, false, false, false] [56] (s1 := ⟨[I d1, I vn2, .bot, .bot, .bot, .ow 56, I b13, .bot, .bot, .bot, .bot, .bot, .bot, .bot, .bot, .bot, .bot, .bot, .bot, .bot, .bot, .bot, .bot, .bot, .bot, .bot, .bot, .bot], [(56, .arr 3 1 (l4.map c3))]⟩) ?_ ?_
          · refine XL_cons rfl (X_of_Y0 rfl (E_move (I b3) rfl (by kernel_rfl))) ?_
            refine XL_cons rfl (X_of_Y0 rfl (Y0_add64 (a := b3) (b := 1) rfl (by kernel_rfl) (by kernel_rfl))) ?_
            refine XL_cons rfl (X_of_Y0 rfl (E_assign (I (w64 (b3 + 1))) rfl (by kernel_rfl))) ?_
            refine XL_nil ?_
            subst hb13
            kernel_rfl
          exact ⟨n, Nat.lt_succ_self n, _, _,  by rfl, h⟩
      · have h := of_false h hc7
        refine V_exit ?_
        obtain rfl := some_inj h
        show St.keep _ _ _ = _
        rfl
  show V _ _ _ _
  refine V_sreg [false, false, false, false, true, false, false, false, false, false, false, false, false, false, false, false, false, false, false, false, false, false, false, false, false, false, false, false] [56] (s1 := ⟨[.bot, .bot, .bot, .bot, .ow 56, .bot, .bot, .bot, .bot, .bot, .bot, .bot, .bot, .bot, .bot, .bot, .bot, .bot, .bot, .bot, .bot, .bot, .bot, .bot, .bot, .bot, .bot, .bot], [(56, .arr 3 1 (o6.map c3))]⟩) ?_ ?_
  · refine XL_cons rfl (X_of_Y0 rfl (E_move (.ow 56) rfl (by kernel_rfl))) ?_
    refine XL_cons rfl (X_of_Y0 rfl (E_assign (.ow 56) rfl (by kernel_rfl))) ?_
    refine XL_nil ?_
    kernel_rfl
  refine V_ret ?_
  obtain rfl := some_inj h
  show Post _ _ _ _ _
  exact ⟨.inr rfl, rfl, rfl, rfl⟩
theorem cf_impl_formsWithLeading : ∀ args w, (callFunc 130 args).run Try.prog w = .ok (.enter 130 args) w := run_callFunc Try.func130 (by kernel_rfl) (by kernel_rfl)
set_option maxRecDepth 100000 in
set_option maxHeartbeats 400000 in
theorem s_impl_formsWithLeading {d1 : Int} {vn2 : Int} {r : List ((Int × Int × Int))} (h : r_impl_formsWithLeading d1 vn2 = some r) : CallS Try.prog 130 [I d1, I vn2] (.ow 0) [(0, .arr 37 3 (r.map c37))] := by
  refine CallS_of_text (rs := [.t 4]) (vs := [.tmp 4]) Try.func130 rfl rfl (.cons rfl FitsL.nil) (by decide) 33 rfl ?_
  unfold r_impl_formsWithLeading at h
  show V _ _ ⟨[I d1, I vn2, .bot, .bot, .bot, .bot, .bot, .bot, .bot, .bot, .bot, .bot, .bot, .bot, .bot, .bot, .bot, .bot, .bot, .bot, .bot, .bot, .bot, .bot, .bot, .bot, .bot, .bot, .bot, .bot, .bot, .bot, .bot], []⟩ _
  refine V_sreg [true, true, false, false, false, false, false, false, false, false, false, false, false, false, false, false, false, false, false, false, false, false, false, false, false, false, false, false, false, false, false, false, false] [] (s1 := ⟨[I d1, I vn2, .bot, .bot, .bot, .bot, .bot, .bot, .bot, .bot, .bot, .bot, .bot, .bot, .bot, .bot, .bot, .bot, .bot, .bot, .bot, .bot, .bot, .bot, .bot, .bot, .bot, .bot, .bot, .bot, .bot, .bot, .bot], []⟩) ?_ ?_
  · refine XL_cons rfl (X_of_Y1 rfl (Y1_nil (e := 37) 3 (by decide) (.inl rfl))) ?_
    refine XL_nil ?_
    kernel_rfl
  refine V_sreg [true, true, false, false, false, true, false, false, false, false, false, false, false, false, false, false, false, false, false, false, false, false, false, false, false, false, false, false, false, false, false, false, false] [64] (s1 := ⟨[I d1, I vn2, .bot, .bot, .bot, .ow 64, .bot, .bot, .bot, .bot, .bot, .bot, .bot, .bot, .bot, .bot, .bot, .bot, .bot, .bot, .bot, .bot, .bot, .bot, .bot, .bot, .bot, .bot, .bot, .bot, .bot, .bot, .bot], [(64, .arr 37 3 ((([] : List ((Int × Int × Int)))).map c37))]⟩) ?_ ?_
  · refine XL_cons rfl (X_of_Y1 rfl (Y1_bslice0 Try.underlying31 sz37 (by decide) rfl rfl)) ?_
    refine XL_cons rfl (X_of_Y0 rfl (E_assign (.ow 64) rfl (by kernel_rfl))) ?_
    refine XL_nil ?_
    kernel_rfl
  refine V_seq ?_
  obtain ⟨y3, hy3, h⟩ := of_bind h
  refine V_sreg [true, true, false, false, false, true, false, false, false, false, false, true, true, true, false, false, false, false, false, false, false, false, false, false, false, false, false, false, false, false, false, false, false] [88, 64] (s1 := ⟨[I d1, I vn2, .bot, .bot, .bot, .ow 64, .bot, .bot, .bot, .bot, .bot, .ow 88, I ((y3.length : Int)), I 0, .bot, .bot, .bot, .bot, .bot, .bot, .bot, .bot, .bot, .bot, .bot, .bot, .bot, .bot, .bot, .bot, .bot, .bot, .bot], [(88, .arr 3 1 (y3.map c3)), (64, .arr 37 3 ((([] : List ((Int × Int × Int)))).map c37))]⟩) ?_ ?_
  · refine XL_cons rfl (X_of_Y0 rfl (E_move (I d1) rfl (by kernel_rfl))) ?_
    refine XL_cons rfl (X_of_Y0 rfl (E_move (I vn2) rfl (by kernel_rfl))) ?_
    refine XL_cons rfl (X_of_Y1 rfl (Y1_call (s_impl_rootsOfDiscriminant hy3) cf_impl_rootsOfDiscriminant rfl (by kernel_rfl))) ?_
    refine XL_cons rfl (X_of_Y0 rfl (Y0_lenM (c := c3) (xs := y3) Try.underlying27 rfl (by kernel_rfl))) ?_
    refine XL_cons rfl (X_of_Y0 rfl (E_move (I 0) rfl (by kernel_rfl))) ?_
    refine XL_nil ?_
    kernel_rfl
  obtain ⟨o7, hLo7, h⟩ := of_bind h
  refine V_toK [false, false, false, false, false, true, false, false, false, false, false, false, false, false, false, false, false, false, false, false, false, false, false, false, false, false, false, false, false, false, false, false, false] [64] (s1 := ⟨[.bot, .bot, .bot, .bot, .bot, .ow 64, .bot, .bot, .bot, .bot, .bot, .bot, .bot, .bot, .bot, .bot, .bot, .bot, .bot, .bot, .bot, .bot, .bot, .bot, .bot, .bot, .bot, .bot, .bot, .bot, .bot, .bot, .bot], [(64, .arr 37 3 (o7.map c37))]⟩) ?_ ?_
  · clear h
    refine V_block (V_loop (fun n s => ∃ (t4 : Int) (l5 : List ((Int × Int × Int))), s.keep [true, true, false, false, false, true, false, false, false, false, false, true, true, true, false, false, false, false, false, false, false, false, false, false, false, false, false, false, false, false, false, false, false] [88, 64] = (⟨[I d1, I vn2, .bot, .bot, .bot, .ow 64, .bot, .bot, .bot, .bot, .bot, .ow 88, I ((y3.length : Int)), I t4, .bot, .bot, .bot, .bot, .bot, .bot, .bot, .bot, .bot, .bot, .bot, .bot, .bot, .bot, .bot, .bot, .bot, .bot, .bot], [(88, .arr 3 1 (y3.map c3)), (64, .arr 37 3 (l5.map c37))]⟩ : St) ∧ r_impl_formsWithLeading_L6 d1 vn2 y3 n t4 l5 = some o7) FU ⟨_, _,  by rfl, hLo7⟩ ?_)
    clear hLo7
    rintro n s ⟨t4, l5, hs, h⟩
    refine V_keep _ _ hs ?_
    clear hs
    cases n with
    | zero => cases h
    | succ n =>
      rw [r_impl_formsWithLeading_L6] at h
      refine V_sreg [true, true, false, false, false, true, false, false, false, false, false, true, true, true, true, false, false, false, false, false, false, false, false, false, false, false, false, false, false, false, false, false, false] [88, 64] (s1 := ⟨[I d1, I vn2, .bot, .bot, .bot, .ow 64, .bot, .bot, .bot, .bot, .bot, .ow 88, I ((y3.length : Int)), I t4, Bo (ltI t4 ((y3.length : Int))), .bot, .bot, .bot, .bot, .bot, .bot, .bot, .bot, .bot, .bot, .bot, .bot, .bot, .bot, .bot, .bot, .bot, .bot], [(88, .arr 3 1 (y3.map c3)), (64, .arr 37 3 (l5.map c37))]⟩) ?_ ?_
      · refine XL_cons rfl (X_of_Y0 rfl (Y0_ltw (k := .i64) (a := t4) (b := (y3.length : Int)) rfl (by kernel_rfl) (by kernel_rfl))) ?_
        refine XL_nil ?_
        kernel_rfl
      refine V_seq ?_
      refine V_cond rfl (fun hc8 => ?_) (fun hc8 => ?_)
      · have h := of_true h hc8
        refine V_skip ?_
        show V _ _ _ _
        refine V_seq ?_
        refine V_block ?_
        obtain ⟨e9, he9, h⟩ := of_bind h
        obtain ⟨e10, he10, h⟩ := of_bind h
        refine V_sreg [true, true, false, false, false, true, false, true, false, false, false, true, true, true, false, false, false, false, false, false, false, false, false, false, false, false, false, false, false, false, false, false, false] [88, 64] (s1 := ⟨[I d1, I vn2, .bot, .bot, .bot, .ow 64, .bot, I e10, .bot, .bot, .bot, .ow 88, I ((y3.length : Int)), I t4, .bot, .bot, .bot, .bot, .bot, .bot, .bot, .bot, .bot, .bot, .bot, .bot, .bot, .bot, .bot, .bot, .bot, .bot, .bot], [(88, .arr 3 1 (y3.map c3)), (64, .arr 37 3 (l5.map c37))]⟩) ?_ ?_
        · refine XL_cons rfl (X_of_Y0 rfl (Y0_idxoM (c := c3) (xs := y3) (v := e9) (id := 88) (T := 3) (sz := 1) (n := t4) Try.underlying27 sz3 rfl (by kernel_rfl) (by kernel_rfl) (by kernel_rfl) he9)) ?_
          refine XL_cons rfl (X_of_Y0 rfl (Y0_loado1 (c := c3) (xs := y3) (v := e10) (id := 88) (sz := 1) (T := 3) (off := 0) (n := t4) (d := Ti e10) (ds := []) sc3 rfl (by kernel_rfl) (by kernel_rfl) he10 (by kernel_rfl))) ?_
          refine XL_cons rfl (X_of_Y0 rfl (E_assign (I e10) rfl (by kernel_rfl))) ?_
          refine XL_nil ?_
          kernel_rfl
        obtain ⟨z11, hz11, h⟩ := of_bind h
        obtain ⟨u12, hu12, h⟩ := of_bind h
        obtain ⟨l13, hl13, h⟩ := of_bind h
        have hl13 := some_inj hl13
        refine V_reg [true, true, false, false, false, true, false, false, false, false, false, true, true, true, false, false, false, false, false, false, false, false, false, false, false, false, false, false, false, false, false, false, false] [88, 64] (s1 := ⟨[I d1, I vn2, .bot, .bot, .bot, .ow 64, .bot, .bot, .bot, .bot, .bot, .ow 88, I ((y3.length : Int)), I t4, .bot, .bot, .bot, .bot, .bot, .bot, .bot, .bot, .bot, .bot, .bot, .bot, .bot, .bot, .bot, .bot, .bot, .bot, .bot], [(88, .arr 3 1 (y3.map c3)), (64, .arr 37 3 (l13.map c37))]⟩) ?_ ?_
        · refine XL_cons rfl (X_of_Y0 rfl (E_move (.ow 64) rfl (by kernel_rfl))) ?_
          refine XL_cons rfl (X_of_Y0 rfl (E_move (I vn2) rfl (by kernel_rfl))) ?_
          refine XL_cons rfl (X_of_Y0 rfl (E_move (I e10) rfl (by kernel_rfl))) ?_
          refine XL_cons rfl (X_of_Y0 rfl (E_move (I e10) rfl (by kernel_rfl))) ?_
          refine XL_cons rfl (X_of_Y0 rfl (E_move (I e10) rfl (by kernel_rfl))) ?_
          refine XL_cons rfl (X_of_Y0 rfl (Y0_mul64 (a := e10) (b := e10) rfl (by kernel_rfl) (by kernel_rfl))) ?_
          refine XL_cons rfl (X_of_Y0 rfl (E_move (I d1) rfl (by kernel_rfl))) ?_
          refine XL_cons rfl (X_of_Y0 rfl (Y0_sub64 (a := w64 (e10 * e10)) (b := d1) rfl (by kernel_rfl) (by kernel_rfl))) ?_
          refine XL_cons rfl (X_of_Y0 rfl (E_move (I vn2) rfl (by kernel_rfl))) ?_
          refine XL_cons rfl (X_of_Y0 rfl (Y0_mul64 (a := 4) (b := vn2) rfl (by kernel_rfl) (by kernel_rfl))) ?_
          refine XL_cons rfl (X_of_Y0 rfl (Y0_quo64 (a := w64 ((w64 (e10 * e10)) - d1)) (b := w64 (4 * vn2)) rfl (by kernel_rfl) (by kernel_rfl) (nz_some hz11))) ?_
          refine XL_cons rfl (X_of_Y0 rfl (Y0_build (cs := [Ti vn2, Ti e10, Ti (w64 (Int.tdiv (w64 ((w64 (e10 * e10)) - d1)) (w64 (4 * vn2))))]) pl37 bt37 rfl rfl (by kernel_rfl))) ?_
          refine XL_cons rfl (X_of_Y1 rfl (Y1_bslice (z := zv37) (els := [(vn2, e10, w64 (Int.tdiv (w64 ((w64 (e10 * e10)) - d1)) (w64 (4 * vn2))))].map c37) Try.underlying31 iz37 rfl (by decide) rfl (by kernel_rfl) rfl (by simp [c37]) (by decide) (by decide))) ?_
          refine XL_cons rfl (X_appendM (c := c37) (xs := l5) (ys := [(vn2, e10, w64 (Int.tdiv (w64 ((w64 (e10 * e10)) - d1)) (w64 (4 * vn2))))]) (id := 64) (z := zv37) rfl rfl Try.underlying31 izb37 rfl (by kernel_rfl) (by kernel_rfl) (by kernel_rfl) (fun _ => rfl) (by simp) (room_some hu12) (by decide)) ?_
          refine XL_cons rfl (X_of_Y0 rfl (E_assign (.ow 64) rfl (by kernel_rfl))) ?_
          refine XL_nil ?_
          subst hl13
          kernel_rfl
        show V _ _ _ _
        obtain ⟨t14, ht14, h⟩ := of_sI h
        refine V_reg [true, true, false, false, false, true, false, false, false, false, false, true, true, true, false, false, false, false, false, false, false, false, false, false, false, false, false, false, false, false, false, false, false] [88, 64] (s1 := ⟨[I d1, I vn2, .bot, .bot, .bot, .ow 64, .bot, .bot, .bot, .bot, .bot, .ow 88, I ((y3.length : Int)), I t14, .bot, .bot, .bot, .bot, .bot, .bot, .bot, .bot, .bot, .bot, .bot, .bot, .bot, .bot, .bot, .bot, .bot, .bot, .bot], [(88, .arr 3 1 (y3.map c3)), (64, .arr 37 3 (l13.map c37))]⟩) ?_ ?_
        · refine XL_cons rfl (X_of_Y0 rfl (Y0_add64 (a := t4) (b := 1) rfl (by kernel_rfl) (by kernel_rfl))) ?_
          refine XL_cons rfl (X_of_Y0 rfl (E_move (I (w64 (t4 + 1))) rfl (by kernel_rfl))) ?_
          refine XL_nil ?_
          subst ht14
          kernel_rfl
        exact ⟨n, Nat.lt_succ_self n, _, _,  by rfl, h⟩
      · have h := of_false h hc8
        refine V_exit ?_
        obtain rfl := some_inj h
        show St.keep _ _ _ = _
        rfl
  show V _ _ _ _
  refine V_sreg [false, false, false, false, true, false, false, false, false, false, false, false, false, false, false, false, false, false, false, false, false, false, false, false, false, false, false, false, false, false, false, false, false] [64] (s1 := ⟨[.bot, .bot, .bot, .bot, .ow 64, .bot, .bot, .bot, .bot, .bot, .bot, .bot, .bot, .bot, .bot, .bot, .bot, .bot, .bot, .bot, .bot, .bot, .bot, .bot, .bot, .bot, .bot, .bot, .bot, .bot, .bot, .bot, .bot], [(64, .arr 37 3 (o7.map c37))]⟩) ?_ ?_
  · refine XL_cons rfl (X_of_Y0 rfl (E_move (.ow 64) rfl (by kernel_rfl))) ?_
    refine XL_cons rfl (X_of_Y0 rfl (E_assign (.ow 64) rfl (by kernel_rfl))) ?_
    refine XL_nil ?_
    kernel_rfl
  refine V_ret ?_
  obtain rfl := some_inj h
  show Post _ _ _ _ _
  exact ⟨.inr rfl, rfl, rfl, rfl⟩
theorem cf_impl_FormsWithLeading : ∀ args w, (callFunc 77 args).run Try.prog w = .ok (.enter 77 args) w := run_callFunc Try.func77 (by kernel_rfl) (by kernel_rfl)
set_option maxRecDepth 100000 in
set_option maxHeartbeats 400000 in
theorem s_impl_FormsWithLeading {d1 : Int} {vn2 : Int} {r : ((List ((Int × Int × Int))) × Bool)} (h : r_impl_FormsWithLeading d1 vn2 = some r) : CallS Try.prog 77 [I d1, I vn2] (.tc (.ow 0) (.tc (Bo r.2) .tn)) [(0, .arr 37 3 (r.1.map c37))] := by
  refine CallS_of_text (rs := [.t 4, .t 5]) (vs := [.tmp 4, .tmp 5]) Try.func77 rfl rfl (.cons rfl (.cons rfl FitsL.nil)) (by decide) 22 rfl ?_
  unfold r_impl_FormsWithLeading at h
  show V _ _ ⟨[I d1, I vn2, .bot, .bot, .bot, .bot, .bot, .bot, .bot, .bot, .bot, .bot, .bot, .bot, .bot, .bot, .bot, .bot, .bot, .bot, .bot, .bot], []⟩ _
  refine V_sreg [true, true, false, false, false, false, false, false, false, false, false, false, false, false, false, false, false, false, false, false, false, false] [] (s1 := ⟨[I d1, I vn2, .bot, .bot, .bot, .bot, .bot, .bot, .bot, .bot, .bot, .bot, .bot, .bot, .bot, .bot, .bot, .bot, .bot, .bot, .bot, .bot], []⟩) ?_ ?_
  · refine XL_cons rfl (X_of_Y1 rfl (Y1_nil (e := 37) 3 (by decide) (.inl rfl))) ?_
    refine XL_cons rfl (X_of_Y0 rfl (E_assign (Bo false) rfl (by kernel_rfl))) ?_
    refine XL_nil ?_
    kernel_rfl
  refine V_seq ?_
  obtain ⟨y3, hy3, h⟩ := of_bind h
  obtain ⟨t6, ht6, h⟩ := of_bind h
  have ht6 := some_inj ht6
  refine V_sreg [true, true, false, false, false, false, false, false, false, false, false, false, false, false, false, false, false, true, false, false, false, false] [] (s1 := ⟨[I d1, I vn2, .bot, .bot, .bot, .bot, .bot, .bot, .bot, .bot, .bot, .bot, .bot, .bot, .bot, .bot, .bot, Bo t6, .bot, .bot, .bot, .bot], []⟩) ?_ ?_
  · refine XL_cons rfl (X_of_Y0 rfl (E_move (I d1) rfl (by kernel_rfl))) ?_
    refine XL_cons rfl (X_of_Y1 rfl (Y1_bslice (z := zv3) (els := [d1].map c3) Try.underlying27 iz3 rfl (by decide) rfl (by kernel_rfl) rfl (by simp [c3]) (by decide) (by decide))) ?_
    refine XL_cons rfl (X_of_Y1 rfl (Y1_callS (s_impl_areNumbers hy3) cf_impl_areNumbers rfl (by kernel_rfl) rfl rfl)) ?_
    refine XL_cons rfl (X_of_Y0 rfl (Y0_not (b := y3) rfl (by kernel_rfl))) ?_
    refine XL_cons rfl (X_of_Y0 rfl (E_move (Bo (!y3)) rfl (by kernel_rfl))) ?_
    refine XL_split (!y3) (fun hc4 => ?_) (fun hc4 => ?_)
    · refine XL_skipF (!y3) rfl rfl (by kernel_rfl) hc4 rfl ?_
      refine XL_skipF (!y3) rfl rfl (by kernel_rfl) hc4 rfl ?_
      refine XL_cons rfl (X_of_Y0 rfl (Y0_pick1 (b := !y3) (p := true) (q := ltI vn2 1) rfl (by kernel_rfl) hc4 (by kernel_rfl))) ?_
      refine XL_cons rfl (X_of_Y0 rfl (E_move (Bo (bif (!y3) then true else (ltI vn2 1))) rfl (by kernel_rfl))) ?_
      refine XL_split (bif (!y3) then true else (ltI vn2 1)) (fun hc5 => ?_) (fun hc5 => ?_)
      · refine XL_skipF (bif (!y3) then true else (ltI vn2 1)) rfl rfl (by kernel_rfl) hc5 rfl ?_
        refine XL_skipF (bif (!y3) then true else (ltI vn2 1)) rfl rfl (by kernel_rfl) hc5 rfl ?_
        refine XL_cons rfl (X_of_Y0 rfl (Y0_pick1 (b := bif (!y3) then true else (ltI vn2 1)) (p := true) (q := ltI 2500 vn2) rfl (by kernel_rfl) hc5 (by kernel_rfl))) ?_
        refine XL_nil ?_
        subst ht6
        kernel_rfl
      · refine XL_takeC (bif (!y3) then true else (ltI vn2 1)) rfl rfl (by kernel_rfl) hc5 (X_of_Y0 rfl (E_move (I vn2) rfl (by kernel_rfl))) ?_
        refine XL_takeC (bif (!y3) then true else (ltI vn2 1)) rfl rfl (by kernel_rfl) hc5 (X_of_Y0 rfl (Y0_gtw (k := .i64) (a := vn2) (b := 2500) rfl (by kernel_rfl) (by kernel_rfl))) ?_
        refine XL_cons rfl (X_of_Y0 rfl (Y0_pick0 (b := bif (!y3) then true else (ltI vn2 1)) (p := true) (q := ltI 2500 vn2) rfl (by kernel_rfl) hc5 (by kernel_rfl))) ?_
        refine XL_nil ?_
        subst ht6
        kernel_rfl
    · refine XL_takeC (!y3) rfl rfl (by kernel_rfl) hc4 (X_of_Y0 rfl (E_move (I vn2) rfl (by kernel_rfl))) ?_
      refine XL_takeC (!y3) rfl rfl (by kernel_rfl) hc4 (X_of_Y0 rfl (Y0_ltw (k := .i64) (a := vn2) (b := 1) rfl (by kernel_rfl) (by kernel_rfl))) ?_
      refine XL_cons rfl (X_of_Y0 rfl (Y0_pick0 (b := !y3) (p := true) (q := ltI vn2 1) rfl (by kernel_rfl) hc4 (by kernel_rfl))) ?_
      refine XL_cons rfl (X_of_Y0 rfl (E_move (Bo (bif (!y3) then true else (ltI vn2 1))) rfl (by kernel_rfl))) ?_
      refine XL_split (bif (!y3) then true else (ltI vn2 1)) (fun hc5 => ?_) (fun hc5 => ?_)
      · refine XL_skipF (bif (!y3) then true else (ltI vn2 1)) rfl rfl (by kernel_rfl) hc5 rfl ?_
        refine XL_skipF (bif (!y3) then true else (ltI vn2 1)) rfl rfl (by kernel_rfl) hc5 rfl ?_
        refine XL_cons rfl (X_of_Y0 rfl (Y0_pick1 (b := bif (!y3) then true else (ltI vn2 1)) (p := true) (q := ltI 2500 vn2) rfl (by kernel_rfl) hc5 (by kernel_rfl))) ?_
        refine XL_nil ?_
        subst ht6
        kernel_rfl
      · refine XL_takeC (bif (!y3) then true else (ltI vn2 1)) rfl rfl (by kernel_rfl) hc5 (X_of_Y0 rfl (E_move (I vn2) rfl (by kernel_rfl))) ?_
        refine XL_takeC (bif (!y3) then true else (ltI vn2 1)) rfl rfl (by kernel_rfl) hc5 (X_of_Y0 rfl (Y0_gtw (k := .i64) (a := vn2) (b := 2500) rfl (by kernel_rfl) (by kernel_rfl))) ?_
        refine XL_cons rfl (X_of_Y0 rfl (Y0_pick0 (b := bif (!y3) then true else (ltI vn2 1)) (p := true) (q := ltI 2500 vn2) rfl (by kernel_rfl) hc5 (by kernel_rfl))) ?_
        refine XL_nil ?_
        subst ht6
        kernel_rfl
  refine V_cond rfl (fun hc7 => ?_) (fun hc7 => ?_)
  · have h := of_true h hc7
    refine V_sreg [false, false, false, false, true, true, false, false, false, false, false, false, false, false, false, false, false, false, false, false, false, false] [144] (s1 := ⟨[.bot, .bot, .bot, .bot, .ow 144, Bo false, .bot, .bot, .bot, .bot, .bot, .bot, .bot, .bot, .bot, .bot, .bot, .bot, .bot, .bot, .bot, .bot], [(144, .arr 37 3 ((([] : List ((Int × Int × Int)))).map c37))]⟩) ?_ ?_
    · refine XL_cons rfl (X_of_Y1 rfl (Y1_bslice0 Try.underlying31 sz37 (by decide) rfl rfl)) ?_
      refine XL_cons rfl (X_of_Y0 rfl (E_assign (.ow 144) rfl (by kernel_rfl))) ?_
      refine XL_cons rfl (X_of_Y0 rfl (E_assign (Bo false) rfl (by kernel_rfl))) ?_
      refine XL_nil ?_
      kernel_rfl
    refine V_ret ?_
    obtain rfl := some_inj h
    show Post _ _ _ _ _
    exact ⟨.inr rfl, rfl, rfl, rfl⟩
  · have h := of_false h hc7
    refine V_skip ?_
    show V _ _ _ _
    obtain ⟨y8, hy8, h⟩ := of_bind h
    refine V_sreg [false, false, false, false, true, true, false, false, false, false, false, false, false, false, false, false, false, false, false, false, false, false] [168] (s1 := ⟨[.bot, .bot, .bot, .bot, .ow 168, Bo true, .bot, .bot, .bot, .bot, .bot, .bot, .bot, .bot, .bot, .bot, .bot, .bot, .bot, .bot, .bot, .bot], [(168, .arr 37 3 (y8.map c37))]⟩) ?_ ?_
    · refine XL_cons rfl (X_of_Y0 rfl (E_move (I d1) rfl (by kernel_rfl))) ?_
      refine XL_cons rfl (X_of_Y0 rfl (E_move (I vn2) rfl (by kernel_rfl))) ?_
      refine XL_cons rfl (X_of_Y1 rfl (Y1_call (s_impl_formsWithLeading hy8) cf_impl_formsWithLeading rfl (by kernel_rfl))) ?_
      refine XL_cons rfl (X_of_Y0 rfl (E_assign (.ow 168) rfl (by kernel_rfl))) ?_
      refine XL_cons rfl (X_of_Y0 rfl (E_assign (Bo true) rfl (by kernel_rfl))) ?_
      refine XL_nil ?_
      kernel_rfl
    refine V_ret ?_
    obtain rfl := some_inj h
    show Post _ _ _ _ _
    exact ⟨.inr rfl, rfl, rfl, rfl⟩
theorem cf_impl_abs : ∀ args w, (callFunc 93 args).run Try.prog w = .ok (.enter 93 args) w := run_callFunc Try.func93 (by kernel_rfl) (by kernel_rfl)
set_option maxRecDepth 100000 in
set_option maxHeartbeats 400000 in
theorem s_impl_abs {vn1 : Int} {r : Int} (h : r_impl_abs vn1 = some r) : CallS Try.prog 93 [I vn1] (I r) [] := by
  refine CallS_of_text (rs := [.t 2]) (vs := [.tmp 2]) Try.func93 rfl rfl (.cons rfl FitsL.nil) (by decide) 8 rfl ?_
  unfold r_impl_abs at h
  show V _ _ ⟨[I vn1, .bot, .bot, .bot, .bot, .bot, .bot, .bot], []⟩ _
  refine V_sreg [true, false, false, false, false, false, false, false] [] (s1 := ⟨[I vn1, .bot, .bot, .bot, .bot, .bot, .bot, .bot], []⟩) ?_ ?_
  · refine XL_cons rfl (X_of_Y0 rfl (E_assign (I 0) rfl (by kernel_rfl))) ?_
    refine XL_nil ?_
    kernel_rfl
  obtain ⟨t2, ht2, h⟩ := of_sI h
  refine V_sreg [false, false, true, false, false, false, false, false] [] (s1 := ⟨[.bot, .bot, I t2, .bot, .bot, .bot, .bot, .bot], []⟩) ?_ ?_
  · refine XL_cons rfl (X_of_Y0 rfl (E_move (I vn1) rfl (by kernel_rfl))) ?_
    refine XL_cons rfl (X_of_Y0 rfl (E_move (I vn1) rfl (by kernel_rfl))) ?_
    refine XL_cons rfl (X_of_Y0 rfl (Y0_max (a := vn1) (b := -9223372036854775807) rfl (by kernel_rfl) (by kernel_rfl))) ?_
    refine XL_cons rfl (X_of_Y0 rfl (Y0_neg64 (a := mxI vn1 (-9223372036854775807)) rfl (by kernel_rfl))) ?_
    refine XL_cons rfl (X_of_Y0 rfl (Y0_max (a := vn1) (b := w64 (0 - (mxI vn1 (-9223372036854775807)))) rfl (by kernel_rfl) (by kernel_rfl))) ?_
    refine XL_cons rfl (X_of_Y0 rfl (E_assign (I (mxI vn1 (w64 (0 - (mxI vn1 (-9223372036854775807)))))) rfl (by kernel_rfl))) ?_
    refine XL_nil ?_
    subst ht2
    kernel_rfl
  refine V_ret ?_
  obtain rfl := some_inj h
  show Post _ _ _ _ _
  exact ⟨.inr rfl, rfl, rfl, rfl⟩
theorem cf_impl_gcd : ∀ args w, (callFunc 84 args).run Try.prog w = .ok (.enter 84 args) w := run_callFunc Try.func84 (by kernel_rfl) (by kernel_rfl)
set_option maxRecDepth 100000 in
set_option maxHeartbeats 400000 in
theorem s_impl_gcd {a1 : Int} {b2 : Int} {r : Int} (h : r_impl_gcd a1 b2 = some r) : CallS Try.prog 84 [I a1, I b2] (I r) [] := by
  refine CallS_of_text (rs := [.t 4]) (vs := [.tmp 4]) Try.func84 rfl rfl (.cons rfl FitsL.nil) (by decide) 13 rfl ?_
  unfold r_impl_gcd at h
  show V _ _ ⟨[I a1, I b2, .bot, .bot, .bot, .bot, .bot, .bot, .bot, .bot, .bot, .bot, .bot], []⟩ _
  refine V_sreg [true, true, false, false, false, false, false, false, false, false, false, false, false] [] (s1 := ⟨[I a1, I b2, .bot, .bot, .bot, .bot, .bot, .bot, .bot, .bot, .bot, .bot, .bot], []⟩) ?_ ?_
  · refine XL_cons rfl (X_of_Y0 rfl (E_assign (I 0) rfl (by kernel_rfl))) ?_
    refine XL_nil ?_
    kernel_rfl
  refine V_seq ?_
  obtain ⟨o6, hLo6, h⟩ := of_bind h
  refine V_toK [true, false, false, false, false, false, false, false, false, false, false, false, false] [] (s1 := ⟨[I o6, .bot, .bot, .bot, .bot, .bot, .bot, .bot, .bot, .bot, .bot, .bot, .bot], []⟩) ?_ ?_
  · clear h
    refine V_block (V_loop (fun n s => ∃ (a3 : Int) (b4 : Int), s.keep [true, true, false, false, false, false, false, false, false, false, false, false, false] [] = (⟨[I a3, I b4, .bot, .bot, .bot, .bot, .bot, .bot, .bot, .bot, .bot, .bot, .bot], []⟩ : St) ∧ r_impl_gcd_L5 n a3 b4 = some o6) FU ⟨_, _,  by rfl, hLo6⟩ ?_)
    clear hLo6
    rintro n s ⟨a3, b4, hs, h⟩
    refine V_keep _ _ hs ?_
    clear hs
    cases n with
    | zero => cases h
    | succ n =>
      rw [r_impl_gcd_L5] at h
      refine V_seq ?_
      refine V_sreg [true, true, false, false, false, false, true, false, false, false, false, false, false] [] (s1 := ⟨[I a3, I b4, .bot, .bot, .bot, .bot, Bo (!eqI b4 0), .bot, .bot, .bot, .bot, .bot, .bot], []⟩) ?_ ?_
      · refine XL_cons rfl (X_of_Y0 rfl (E_move (I b4) rfl (by kernel_rfl))) ?_
        refine XL_cons rfl (X_of_Y0 rfl (Y0_new (k := .i64) (a := b4) (b := 0) rfl (by kernel_rfl) (by kernel_rfl))) ?_
        refine XL_nil ?_
        kernel_rfl
      refine V_cond rfl (fun hc7 => ?_) (fun hc7 => ?_)
      · have h := of_true h hc7
        refine V_skip ?_
        show V _ _ _ _
        refine V_block ?_
        obtain ⟨z8, hz8, h⟩ := of_bind h
        obtain ⟨b9, hb9, h⟩ := of_sI h
        refine V_dreg [0, 0, 0, 6, 3, 31] 6 [[.z, .b, .b, .b, .z, .z], [.b, .z, .b, .z, .z, .z], [.b, .b, .z, .z, .b, .z], [.b, .a, .a, .z, .b, .z], [.a, .a, .b, .b, .z, .z], [.a, .a, .a, .a, .a, .z]] [true, true, false, false, false, false, false, false, false, false, false, false, false] [] (s1 := ⟨[I b4, I b9, .bot, .bot, .bot, .bot, .bot, .bot, .bot, .bot, .bot, .bot, .bot], []⟩) (by kernel_rfl) (by kernel_rfl) ?_ ?_
        · refine DE_0 0 (I b4) (by kernel_rfl) rfl rfl rfl (gsat_none rfl) (by kernel_rfl) (E_move (I b4) rfl (by kernel_rfl)) 7 rfl ?_
          refine DE_0 1 (I a3) (by kernel_rfl) rfl rfl rfl (gsat_none rfl) (by kernel_rfl) (E_move (I a3) rfl (by kernel_rfl)) 8 rfl ?_
          refine DE_0 2 (I b4) (by kernel_rfl) rfl rfl rfl (gsat_none rfl) (by kernel_rfl) (E_move (I b4) rfl (by kernel_rfl)) 9 rfl ?_
          refine DE_0 3 (I (Int.tmod a3 b4)) (by kernel_rfl) rfl rfl rfl (gsat_none rfl) (by kernel_rfl) (Y0_rem (k := .i64) (a := a3) (b := b4) rfl (by kernel_rfl) (by kernel_rfl) (nz_some hz8)) 10 rfl ?_
          refine DE_0 4 (I b4) (by kernel_rfl) rfl rfl rfl (gsat_none rfl) (by kernel_rfl) (E_assign (I b4) rfl (by kernel_rfl)) 0 rfl ?_
          refine DE_0 5 (I (Int.tmod a3 b4)) (by kernel_rfl) rfl rfl rfl (gsat_none rfl) (by kernel_rfl) (E_assign (I (Int.tmod a3 b4)) rfl (by kernel_rfl)) 1 rfl ?_
          refine DL_nil (by kernel_rfl) ?_
          refine XL_nil ?_
          subst hb9
          kernel_rfl
        exact ⟨n, Nat.lt_succ_self n, _, _,  by rfl, h⟩
      · have h := of_false h hc7
        refine V_exit ?_
        obtain rfl := some_inj h
        show St.keep _ _ _ = _
        rfl
  show V _ _ _ _
  obtain ⟨y10, hy10, h⟩ := of_bind h
  refine V_sreg [false, false, false, false, true, false, false, false, false, false, false, false, false] [] (s1 := ⟨[.bot, .bot, .bot, .bot, I y10, .bot, .bot, .bot, .bot, .bot, .bot, .bot, .bot], []⟩) ?_ ?_
  · refine XL_cons rfl (X_of_Y0 rfl (E_move (I o6) rfl (by kernel_rfl))) ?_
    refine XL_cons rfl (X_of_Y1 rfl (Y1_call (s_impl_abs hy10) cf_impl_abs rfl (by kernel_rfl))) ?_
    refine XL_cons rfl (X_of_Y0 rfl (E_assign (I y10) rfl (by kernel_rfl))) ?_
    refine XL_nil ?_
    kernel_rfl
  refine V_ret ?_
  obtain rfl := some_inj h
  show Post _ _ _ _ _
  exact ⟨.inr rfl, rfl, rfl, rfl⟩
theorem cf_impl_Form_content : ∀ args w, (callFunc 131 args).run Try.prog w = .ok (.enter 131 args) w := run_callFunc Try.func131 (by kernel_rfl) (by kernel_rfl)
set_option maxRecDepth 100000 in
set_option maxHeartbeats 400000 in
theorem s_impl_Form_content {f1 : (Int × Int × Int)} {r : Int} (h : r_impl_Form_content f1 = some r) : CallS Try.prog 131 [.ag [Ti f1.1, Ti f1.2.1, Ti f1.2.2]] (I r) [] := by
  refine CallS_of_text (rs := [.t 2]) (vs := [.tmp 2]) Try.func131 rfl rfl (.cons rfl FitsL.nil) (by decide) 11 rfl ?_
  unfold r_impl_Form_content at h
  show V _ _ ⟨[.ag [Ti f1.1, Ti f1.2.1, Ti f1.2.2], .bot, .bot, .bot, .bot, .bot, .bot, .bot, .bot, .bot, .bot], []⟩ _
  refine V_sreg [false, true, false, false, false, false, false, false, false, false, false] [8] (s1 := ⟨[.bot, .pt 8 0, .bot, .bot, .bot, .bot, .bot, .bot, .bot, .bot, .bot], [(8, .box [Ti f1.1, Ti f1.2.1, Ti f1.2.2])]⟩) ?_ ?_
  · refine XL_cons rfl (X_of_Y1 rfl (Y1_box (cs := [Ti f1.1, Ti f1.2.1, Ti f1.2.2]) rfl (by kernel_rfl))) ?_
    refine XL_cons rfl (X_of_Y0 rfl (E_assign (I 0) rfl (by kernel_rfl))) ?_
    refine XL_nil ?_
    kernel_rfl
  obtain ⟨y2, hy2, h⟩ := of_bind h
  obtain ⟨y3, hy3, h⟩ := of_bind h
  refine V_sdreg [0, 1, 0, 4, 0, 16, 60, 127, 255] 9 [[.z, .z, .b, .b, .b, .b, .b, .z, .z], [.a, .z, .b, .b, .b, .b, .b, .z, .z], [.b, .b, .z, .z, .b, .b, .z, .z, .z], [.b, .b, .a, .z, .b, .b, .z, .z, .z], [.b, .b, .b, .b, .z, .z, .z, .z, .z], [.b, .b, .b, .b, .a, .z, .z, .z, .z], [.b, .b, .a, .a, .a, .a, .z, .z, .z], [.a, .a, .a, .a, .a, .a, .a, .z, .z], [.a, .a, .a, .a, .a, .a, .a, .a, .z]] [false, false, true, false, false, false, false, false, false, false, false] [] (s1 := ⟨[.bot, .bot, I y3, .bot, .bot, .bot, .bot, .bot, .bot, .bot, .bot], []⟩) (by kernel_rfl) (by kernel_rfl) ?_ ?_
  · refine DE_0 0 (.pt 8 0) (by kernel_rfl) rfl rfl rfl (gsat_none rfl) (by kernel_rfl) (E_field (.pt 8 0) Try.underlying37 rfl sz3 rfl (by kernel_rfl) (by intro hh; cases hh)) 3 rfl ?_
    refine DE_0 1 (I f1.1) (by kernel_rfl) rfl rfl rfl (gsat_none rfl) (by kernel_rfl) (Y0_load1 (c := Ti f1.1) (cs := [Ti f1.2.1, Ti f1.2.2]) sc3 rfl (by kernel_rfl)) 4 rfl ?_
    refine DE_0 2 (.pt 8 1) (by kernel_rfl) rfl rfl rfl (gsat_none rfl) (by kernel_rfl) (E_field (.pt 8 1) Try.underlying37 rfl sz3 rfl (by kernel_rfl) (by intro hh; cases hh)) 5 rfl ?_
    refine DE_0 3 (I f1.2.1) (by kernel_rfl) rfl rfl rfl (gsat_none rfl) (by kernel_rfl) (Y0_load1 (c := Ti f1.2.1) (cs := [Ti f1.2.2]) sc3 rfl (by kernel_rfl)) 6 rfl ?_
    refine DE_0 4 (.pt 8 2) (by kernel_rfl) rfl rfl rfl (gsat_none rfl) (by kernel_rfl) (E_field (.pt 8 2) Try.underlying37 rfl sz3 rfl (by kernel_rfl) (by intro hh; cases hh)) 7 rfl ?_
    refine DE_0 5 (I f1.2.2) (by kernel_rfl) rfl rfl rfl (gsat_none rfl) (by kernel_rfl) (Y0_load1 (c := Ti f1.2.2) (cs := []) sc3 rfl (by kernel_rfl)) 8 rfl ?_
    refine DE_1 6 (by kernel_rfl) rfl rfl rfl (gsat_none rfl) (Y1_call (s_impl_gcd hy2) cf_impl_gcd rfl (by kernel_rfl)) rfl rfl rfl 9 rfl ?_
    refine DE_1 7 (by kernel_rfl) rfl rfl rfl (gsat_none rfl) (Y1_call (s_impl_gcd hy3) cf_impl_gcd rfl (by kernel_rfl)) rfl rfl rfl 10 rfl ?_
    refine DE_0 8 (I y3) (by kernel_rfl) rfl rfl rfl (gsat_none rfl) (by kernel_rfl) (E_assign (I y3) rfl (by kernel_rfl)) 2 rfl ?_
    refine DL_nil (by kernel_rfl) ?_
    refine XL_nil ?_
    kernel_rfl
  refine V_ret ?_
  obtain rfl := some_inj h
  show Post _ _ _ _ _
  exact ⟨.inr rfl, rfl, rfl, rfl⟩
theorem cf_impl_primitiveOf : ∀ args w, (callFunc 78 args).run Try.prog w = .ok (.enter 78 args) w := run_callFunc Try.func78 (by kernel_rfl) (by kernel_rfl)
set_option maxRecDepth 100000 in
set_option maxHeartbeats 400000 in
theorem s_impl_primitiveOf {forms1 : List ((Int × Int × Int))} {r : List ((Int × Int × Int))} (h : r_impl_primitiveOf forms1 = some r) : CallS Try.prog 78 [.c (.sl (forms1.map c37))] (.ow 0) [(0, .arr 37 3 (r.map c37))] := by
  refine CallS_of_text (rs := [.t 2]) (vs := [.tmp 2]) Try.func78 rfl rfl (.cons rfl FitsL.nil) (by decide) 22 rfl ?_
  unfold r_impl_primitiveOf at h
  show V _ _ ⟨[.c (.sl (forms1.map c37)), .bot, .bot, .bot, .bot, .bot, .bot, .bot, .bot, .bot, .bot, .bot, .bot, .bot, .bot, .bot, .bot, .bot, .bot, .bot, .bot, .bot], []⟩ _
  refine V_sreg [true, false, false, false, false, false, false, false, false, false, false, false, false, false, false, false, false, false, false, false, false, false] [] (s1 := ⟨[.c (.sl (forms1.map c37)), .bot, .bot, .bot, .bot, .bot, .bot, .bot, .bot, .bot, .bot, .bot, .bot, .bot, .bot, .bot, .bot, .bot, .bot, .bot, .bot, .bot], []⟩) ?_ ?_
  · refine XL_cons rfl (X_of_Y1 rfl (Y1_nil (e := 37) 3 (by decide) (.inl rfl))) ?_
    refine XL_nil ?_
    kernel_rfl
  refine V_sreg [true, false, false, true, false, false, false, false, false, false, false, false, false, false, false, false, false, false, false, false, false, false] [48] (s1 := ⟨[.c (.sl (forms1.map c37)), .bot, .bot, .ow 48, .bot, .bot, .bot, .bot, .bot, .bot, .bot, .bot, .bot, .bot, .bot, .bot, .bot, .bot, .bot, .bot, .bot, .bot], [(48, .arr 37 3 ((([] : List ((Int × Int × Int)))).map c37))]⟩) ?_ ?_
  · refine XL_cons rfl (X_of_Y1 rfl (Y1_bslice0 Try.underlying31 sz37 (by decide) rfl rfl)) ?_
    refine XL_cons rfl (X_of_Y0 rfl (E_assign (.ow 48) rfl (by kernel_rfl))) ?_
    refine XL_nil ?_
    kernel_rfl
  refine V_seq ?_
  refine V_sreg [false, false, false, true, false, false, false, true, true, true, false, false, false, false, false, false, false, false, false, false, false, false] [48] (s1 := ⟨[.bot, .bot, .bot, .ow 48, .bot, .bot, .bot, .c (.sl (forms1.map c37)), I ((forms1.length : Int)), I 0, .bot, .bot, .bot, .bot, .bot, .bot, .bot, .bot, .bot, .bot, .bot, .bot], [(48, .arr 37 3 ((([] : List ((Int × Int × Int)))).map c37))]⟩) ?_ ?_
  · refine XL_cons rfl (X_of_Y0 rfl (E_move (.c (.sl (forms1.map c37))) rfl (by kernel_rfl))) ?_
    refine XL_cons rfl (X_of_Y0 rfl (Y0_lenM (c := c37) (xs := forms1) Try.underlying31 rfl (by kernel_rfl))) ?_
    refine XL_cons rfl (X_of_Y0 rfl (E_move (I 0) rfl (by kernel_rfl))) ?_
    refine XL_nil ?_
    kernel_rfl
  obtain ⟨o5, hLo5, h⟩ := of_bind h
  refine V_toK [false, false, false, true, false, false, false, false, false, false, false, false, false, false, false, false, false, false, false, false, false, false] [48] (s1 := ⟨[.bot, .bot, .bot, .ow 48, .bot, .bot, .bot, .bot, .bot, .bot, .bot, .bot, .bot, .bot, .bot, .bot, .bot, .bot, .bot, .bot, .bot, .bot], [(48, .arr 37 3 (o5.map c37))]⟩) ?_ ?_
  · clear h
    refine V_block (V_loop (fun n s => ∃ (t2 : Int) (l3 : List ((Int × Int × Int))), s.keep [false, false, false, true, false, false, false, true, true, true, false, false, false, false, false, false, false, false, false, false, false, false] [48] = (⟨[.bot, .bot, .bot, .ow 48, .bot, .bot, .bot, .c (.sl (forms1.map c37)), I ((forms1.length : Int)), I t2, .bot, .bot, .bot, .bot, .bot, .bot, .bot, .bot, .bot, .bot, .bot, .bot], [(48, .arr 37 3 (l3.map c37))]⟩ : St) ∧ r_impl_primitiveOf_L4 forms1 n t2 l3 = some o5) FU ⟨_, _,  by rfl, hLo5⟩ ?_)
    clear hLo5
    rintro n s ⟨t2, l3, hs, h⟩
    refine V_keep _ _ hs ?_
    clear hs
    cases n with
    | zero => cases h
    | succ n =>
      rw [r_impl_primitiveOf_L4] at h
      refine V_sreg [false, false, false, true, false, false, false, true, true, true, true, false, false, false, false, false, false, false, false, false, false, false] [48] (s1 := ⟨[.bot, .bot, .bot, .ow 48, .bot, .bot, .bot, .c (.sl (forms1.map c37)), I ((forms1.length : Int)), I t2, Bo (ltI t2 ((forms1.length : Int))), .bot, .bot, .bot, .bot, .bot, .bot, .bot, .bot, .bot, .bot, .bot], [(48, .arr 37 3 (l3.map c37))]⟩) ?_ ?_
      · refine XL_cons rfl (X_of_Y0 rfl (Y0_ltw (k := .i64) (a := t2) (b := (forms1.length : Int)) rfl (by kernel_rfl) (by kernel_rfl))) ?_
        refine XL_nil ?_
        kernel_rfl
      refine V_seq ?_
      refine V_cond rfl (fun hc6 => ?_) (fun hc6 => ?_)
      · have h := of_true h hc6
        refine V_skip ?_
        show V _ _ _ _
        refine V_seq ?_
        refine V_block ?_
        obtain ⟨e7, he7, h⟩ := of_bind h
        refine V_sreg [false, false, false, true, false, true, false, true, true, true, false, false, false, false, false, false, false, false, false, false, false, false] [40, 48] (s1 := ⟨[.bot, .bot, .bot, .ow 48, .bot, .pt 40 0, .bot, .c (.sl (forms1.map c37)), I ((forms1.length : Int)), I t2, .bot, .bot, .bot, .bot, .bot, .bot, .bot, .bot, .bot, .bot, .bot, .bot], [(40, .box [Ti e7.1, Ti e7.2.1, Ti e7.2.2]), (48, .arr 37 3 (l3.map c37))]⟩) ?_ ?_
        · refine XL_cons rfl (X_of_Y0 rfl (Y0_idxM (c := c37) (xs := forms1) (v := e7) (n := t2) Try.underlying31 sz37 rfl (by kernel_rfl) (by kernel_rfl) he7)) ?_
          refine XL_cons rfl (X_of_Y0 rfl (E_loadn (cs := [Ti e7.1, Ti e7.2.1, Ti e7.2.2]) [Ti e7.1, Ti e7.2.1, Ti e7.2.2] wd37 rfl (by kernel_rfl) (Nat.le_of_ble_eq_true rfl) (by kernel_rfl))) ?_
          refine XL_cons rfl (X_of_Y1 rfl (Y1_alloc (z := zv37) rfl zf37 rfl)) ?_
          refine XL_cons rfl (E_store (id := 40) (off := 0) (cs := [Ti 0, Ti 0, Ti 0]) (vc := [Ti e7.1, Ti e7.2.1, Ti e7.2.2]) [Ti e7.1, Ti e7.2.1, Ti e7.2.2] rfl rfl (by kernel_rfl) (by kernel_rfl) (by kernel_rfl) sz37 (Nat.le_of_ble_eq_true rfl) (by kernel_rfl)) ?_
          refine XL_nil ?_
          kernel_rfl
        obtain ⟨y8, hy8, h⟩ := of_bind h
        refine V_sreg [false, false, false, true, false, true, false, true, true, true, false, false, false, false, false, true, false, false, false, false, false, false] [40, 48] (s1 := ⟨[.bot, .bot, .bot, .ow 48, .bot, .pt 40 0, .bot, .c (.sl (forms1.map c37)), I ((forms1.length : Int)), I t2, .bot, .bot, .bot, .bot, .bot, Bo (eqI y8 1), .bot, .bot, .bot, .bot, .bot, .bot], [(40, .box [Ti e7.1, Ti e7.2.1, Ti e7.2.2]), (48, .arr 37 3 (l3.map c37))]⟩) ?_ ?_
        · refine XL_cons rfl (X_of_Y0 rfl (E_loadn (cs := [Ti e7.1, Ti e7.2.1, Ti e7.2.2]) [Ti e7.1, Ti e7.2.1, Ti e7.2.2] wd37 rfl (by kernel_rfl) (Nat.le_of_ble_eq_true rfl) (by kernel_rfl))) ?_
          refine XL_cons rfl (X_of_Y1 rfl (Y1_call (s_impl_Form_content hy8) cf_impl_Form_content rfl (by kernel_rfl))) ?_
          refine XL_cons rfl (X_of_Y0 rfl (Y0_eqw (k := .i64) (a := y8) (b := 1) rfl (by kernel_rfl) (by kernel_rfl))) ?_
          refine XL_nil ?_
          kernel_rfl
        refine V_cond rfl (fun hc9 => ?_) (fun hc9 => ?_)
        · have h := of_true h hc9
          obtain ⟨u10, hu10, h⟩ := of_bind h
          refine V_reg [false, false, false, true, false, false, false, true, true, true, false, false, false, false, false, false, false, false, false, false, false, false] [48] (s1 := ⟨[.bot, .bot, .bot, .ow 48, .bot, .bot, .bot, .c (.sl (forms1.map c37)), I ((forms1.length : Int)), I t2, .bot, .bot, .bot, .bot, .bot, .bot, .bot, .bot, .bot, .bot, .bot, .bot], [(48, .arr 37 3 ((l3 ++ ([e7])).map c37))]⟩) ?_ ?_
          · refine XL_cons rfl (X_of_Y0 rfl (E_move (.ow 48) rfl (by kernel_rfl))) ?_
            refine XL_cons rfl (X_of_Y0 rfl (E_loadn (cs := [Ti e7.1, Ti e7.2.1, Ti e7.2.2]) [Ti e7.1, Ti e7.2.1, Ti e7.2.2] wd37 rfl (by kernel_rfl) (Nat.le_of_ble_eq_true rfl) (by kernel_rfl))) ?_
            refine XL_cons rfl (X_of_Y1 rfl (Y1_bslice (z := zv37) (els := [e7].map c37) Try.underlying31 iz37 rfl (by decide) rfl (by kernel_rfl) rfl (by simp [c37]) (by decide) (by decide))) ?_
            refine XL_cons rfl (X_appendM (c := c37) (xs := l3) (ys := [e7]) (id := 48) (z := zv37) rfl rfl Try.underlying31 izb37 rfl (by kernel_rfl) (by kernel_rfl) (by kernel_rfl) (fun _ => rfl) (by simp) (room_some hu10) (by decide)) ?_
            refine XL_cons rfl (X_of_Y0 rfl (E_assign (.ow 48) rfl (by kernel_rfl))) ?_
            refine XL_nil ?_
            kernel_rfl
          show V _ _ _ _
          obtain ⟨t11, ht11, h⟩ := of_sI h
          refine V_reg [false, false, false, true, false, false, false, true, true, true, false, false, false, false, false, false, false, false, false, false, false, false] [48] (s1 := ⟨[.bot, .bot, .bot, .ow 48, .bot, .bot, .bot, .c (.sl (forms1.map c37)), I ((forms1.length : Int)), I t11, .bot, .bot, .bot, .bot, .bot, .bot, .bot, .bot, .bot, .bot, .bot, .bot], [(48, .arr 37 3 ((l3 ++ ([e7])).map c37))]⟩) ?_ ?_
          · refine XL_cons rfl (X_of_Y0 rfl (Y0_add64 (a := t2) (b := 1) rfl (by kernel_rfl) (by kernel_rfl))) ?_
            refine XL_cons rfl (X_of_Y0 rfl (E_move (I (w64 (t2 + 1))) rfl (by kernel_rfl))) ?_
            refine XL_nil ?_
            subst ht11
            kernel_rfl
          exact ⟨n, Nat.lt_succ_self n, _, _,  by rfl, h⟩
        · have h := of_false h hc9
          refine V_skip ?_
          show V _ _ _ _
          obtain ⟨t12, ht12, h⟩ := of_sI h
          refine V_reg [false, false, false, true, false, false, false, true, true, true, false, false, false, false, false, false, false, false, false, false, false, false] [48] (s1 := ⟨[.bot, .bot, .bot, .ow 48, .bot, .bot, .bot, .c (.sl (forms1.map c37)), I ((forms1.length : Int)), I t12, .bot, .bot, .bot, .bot, .bot, .bot, .bot, .bot, .bot, .bot, .bot, .bot], [(48, .arr 37 3 (l3.map c37))]⟩) ?_ ?_
          · refine XL_cons rfl (X_of_Y0 rfl (Y0_add64 (a := t2) (b := 1) rfl (by kernel_rfl) (by kernel_rfl))) ?_
            refine XL_cons rfl (X_of_Y0 rfl (E_move (I (w64 (t2 + 1))) rfl (by kernel_rfl))) ?_
            refine XL_nil ?_
            subst ht12
            kernel_rfl
          exact ⟨n, Nat.lt_succ_self n, _, _,  by rfl, h⟩
      · have h := of_false h hc6
        refine V_exit ?_
        obtain rfl := some_inj h
        show St.keep _ _ _ = _
        rfl
  show V _ _ _ _
  refine V_sreg [false, false, true, false, false, false, false, false, false, false, false, false, false, false, false, false, false, false, false, false, false, false] [48] (s1 := ⟨[.bot, .bot, .ow 48, .bot, .bot, .bot, .bot, .bot, .bot, .bot, .bot, .bot, .bot, .bot, .bot, .bot, .bot, .bot, .bot, .bot, .bot, .bot], [(48, .arr 37 3 (o5.map c37))]⟩) ?_ ?_
  · refine XL_cons rfl (X_of_Y0 rfl (E_move (.ow 48) rfl (by kernel_rfl))) ?_
    refine XL_cons rfl (X_of_Y0 rfl (E_assign (.ow 48) rfl (by kernel_rfl))) ?_
    refine XL_nil ?_
    kernel_rfl
  refine V_ret ?_
  obtain rfl := some_inj h
  show Post _ _ _ _ _
  exact ⟨.inr rfl, rfl, rfl, rfl⟩
theorem cf_impl_PrimitiveFormsWithLeading : ∀ args w, (callFunc 22 args).run Try.prog w = .ok (.enter 22 args) w := run_callFunc Try.func22 (by kernel_rfl) (by kernel_rfl)
set_option maxRecDepth 100000 in
set_option maxHeartbeats 400000 in
theorem s_impl_PrimitiveFormsWithLeading {d1 : Int} {vn2 : Int} {r : ((List ((Int × Int × Int))) × Bool)} (h : r_impl_PrimitiveFormsWithLeading d1 vn2 = some r) : CallS Try.prog 22 [I d1, I vn2] (.tc (.ow 0) (.tc (Bo r.2) .tn)) [(0, .arr 37 3 (r.1.map c37))] := by
  refine CallS_of_text (rs := [.t 4, .t 5]) (vs := [.tmp 4, .tmp 5]) Try.func22 rfl rfl (.cons rfl (.cons rfl FitsL.nil)) (by decide) 17 rfl ?_
  unfold r_impl_PrimitiveFormsWithLeading at h
  show V _ _ ⟨[I d1, I vn2, .bot, .bot, .bot, .bot, .bot, .bot, .bot, .bot, .bot, .bot, .bot, .bot, .bot, .bot, .bot], []⟩ _
  refine V_sreg [true, true, false, false, false, false, false, false, false, false, false, false, false, false, false, false, false] [] (s1 := ⟨[I d1, I vn2, .bot, .bot, .bot, .bot, .bot, .bot, .bot, .bot, .bot, .bot, .bot, .bot, .bot, .bot, .bot], []⟩) ?_ ?_
  · refine XL_cons rfl (X_of_Y1 rfl (Y1_nil (e := 37) 3 (by decide) (.inl rfl))) ?_
    refine XL_cons rfl (X_of_Y0 rfl (E_assign (Bo false) rfl (by kernel_rfl))) ?_
    refine XL_nil ?_
    kernel_rfl
  obtain ⟨y3, hy3, h⟩ := of_bind h
  refine V_sreg [false, false, false, false, false, false, true, true, false, false, false, false, false, false, false, false, false] [88] (s1 := ⟨[.bot, .bot, .bot, .bot, .bot, .bot, .ow 88, Bo y3.2, .bot, .bot, .bot, .bot, .bot, .bot, .bot, .bot, .bot], [(88, .arr 37 3 (y3.1.map c37))]⟩) ?_ ?_
  · refine XL_cons rfl (X_of_Y0 rfl (E_move (I d1) rfl (by kernel_rfl))) ?_
    refine XL_cons rfl (X_of_Y0 rfl (E_move (I vn2) rfl (by kernel_rfl))) ?_
    refine XL_cons rfl (X_of_Y1 rfl (Y1_call (s_impl_FormsWithLeading hy3) cf_impl_FormsWithLeading rfl (by kernel_rfl))) ?_
    refine XL_cons rfl (X_of_Y0 rfl (E_move (.tc (.ow 88) (.tc (Bo y3.2) .tn)) rfl (by kernel_rfl))) ?_
    refine XL_cons rfl (X_of_Y0 rfl (E_ext (n := 0) (.ow 88) (.tc (Bo y3.2) .tn) (.ow 88) rfl (by kernel_rfl) (by kernel_rfl) (by intro hh; cases hh))) ?_
    refine XL_cons rfl (X_of_Y0 rfl (E_ext (n := 1) (.ow 88) (.tc (Bo y3.2) .tn) (Bo y3.2) rfl (by kernel_rfl) (by kernel_rfl) (by intro hh; cases hh))) ?_
    refine XL_cons rfl (X_of_Y0 rfl (E_assign (.ow 88) rfl (by kernel_rfl))) ?_
    refine XL_cons rfl (X_of_Y0 rfl (E_assign (Bo y3.2) rfl (by kernel_rfl))) ?_
    refine XL_nil ?_
    kernel_rfl
  obtain ⟨y4, hy4, h⟩ := of_bind h
  refine V_sreg [false, false, false, false, true, true, false, false, false, false, false, false, false, false, false, false, false] [120] (s1 := ⟨[.bot, .bot, .bot, .bot, .ow 120, Bo y3.2, .bot, .bot, .bot, .bot, .bot, .bot, .bot, .bot, .bot, .bot, .bot], [(120, .arr 37 3 (y4.map c37))]⟩) ?_ ?_
  · refine XL_cons rfl (X_of_Y0 rfl (E_move (.ow 88) rfl (by kernel_rfl))) ?_
    refine XL_cons rfl (X_of_Y1 rfl (Y1_callS (s_impl_primitiveOf hy4) cf_impl_primitiveOf rfl (by kernel_rfl) rfl (flatE_cons (fun _ => rfl) rfl))) ?_
    refine XL_cons rfl (X_of_Y0 rfl (E_move (Bo y3.2) rfl (by kernel_rfl))) ?_
    refine XL_cons rfl (X_of_Y0 rfl (E_assign (.ow 120) rfl (by kernel_rfl))) ?_
    refine XL_cons rfl (X_of_Y0 rfl (E_assign (Bo y3.2) rfl (by kernel_rfl))) ?_
    refine XL_nil ?_
    kernel_rfl
  refine V_ret ?_
  obtain rfl := some_inj h
  show Post _ _ _ _ _
  exact ⟨.inr rfl, rfl, rfl, rfl⟩
theorem cf_spec_l1In : ∀ args w, (callFunc 80 args).run Try.prog w = .ok (.enter 80 args) w := run_callFunc Try.func80 (by kernel_rfl) (by kernel_rfl)
set_option maxRecDepth 100000 in
set_option maxHeartbeats 400000 in
theorem s_spec_l1In {vn1 : Int} {lo2 : Int} {hi3 : Int} {r : Bool} (h : r_spec_l1In vn1 lo2 hi3 = some r) : CallS Try.prog 80 [I vn1, I lo2, I hi3] (Bo r) [] := by
  refine CallS_of_text (rs := [.t 6]) (vs := [.tmp 6]) Try.func80 rfl rfl (.cons rfl FitsL.nil) (by decide) 15 rfl ?_
  unfold r_spec_l1In at h
  show V _ _ ⟨[I vn1, I lo2, I hi3, .bot, .bot, .bot, .bot, .bot, .bot, .bot, .bot, .bot, .bot, .bot, .bot], []⟩ _
  refine V_sreg [true, true, true, false, false, false, false, false, false, false, false, false, false, false, false] [] (s1 := ⟨[I vn1, I lo2, I hi3, .bot, .bot, .bot, .bot, .bot, .bot, .bot, .bot, .bot, .bot, .bot, .bot], []⟩) ?_ ?_
  · refine XL_cons rfl (X_of_Y0 rfl (E_assign (Bo false) rfl (by kernel_rfl))) ?_
    refine XL_nil ?_
    kernel_rfl
  refine V_sreg [false, false, false, false, false, false, true, false, false, false, false, false, false, false, false] [] (s1 := ⟨[.bot, .bot, .bot, .bot, .bot, .bot, Bo (bif (leI lo2 vn1) then (leI vn1 hi3) else false), .bot, .bot, .bot, .bot, .bot, .bot, .bot, .bot], []⟩) ?_ ?_
  · refine XL_cons rfl (X_of_Y0 rfl (E_move (I vn1) rfl (by kernel_rfl))) ?_
    refine XL_cons rfl (X_of_Y0 rfl (E_move (I lo2) rfl (by kernel_rfl))) ?_
    refine XL_cons rfl (X_of_Y0 rfl (Y0_gew (k := .i64) (a := vn1) (b := lo2) rfl (by kernel_rfl) (by kernel_rfl))) ?_
    refine XL_cons rfl (X_of_Y0 rfl (E_move (Bo (leI lo2 vn1)) rfl (by kernel_rfl))) ?_
    refine XL_split (leI lo2 vn1) (fun hc4 => ?_) (fun hc4 => ?_)
    · refine XL_takeC (leI lo2 vn1) rfl rfl (by kernel_rfl) hc4 (X_of_Y0 rfl (E_move (I vn1) rfl (by kernel_rfl))) ?_
      refine XL_takeC (leI lo2 vn1) rfl rfl (by kernel_rfl) hc4 (X_of_Y0 rfl (E_move (I hi3) rfl (by kernel_rfl))) ?_
      refine XL_takeC (leI lo2 vn1) rfl rfl (by kernel_rfl) hc4 (X_of_Y0 rfl (Y0_lew (k := .i64) (a := vn1) (b := hi3) rfl (by kernel_rfl) (by kernel_rfl))) ?_
      refine XL_cons rfl (X_of_Y0 rfl (Y0_pick1 (b := leI lo2 vn1) (p := leI vn1 hi3) (q := false) rfl (by kernel_rfl) hc4 (by kernel_rfl))) ?_
      refine XL_cons rfl (X_of_Y0 rfl (E_assign (Bo (bif (leI lo2 vn1) then (leI vn1 hi3) else false)) rfl (by kernel_rfl))) ?_
      refine XL_nil ?_
      kernel_rfl
    · refine XL_skipT (leI lo2 vn1) rfl rfl (by kernel_rfl) hc4 rfl ?_
      refine XL_skipT (leI lo2 vn1) rfl rfl (by kernel_rfl) hc4 rfl ?_
      refine XL_skipT (leI lo2 vn1) rfl rfl (by kernel_rfl) hc4 rfl ?_
      refine XL_cons rfl (X_of_Y0 rfl (Y0_pick0 (b := leI lo2 vn1) (p := leI vn1 hi3) (q := false) rfl (by kernel_rfl) hc4 (by kernel_rfl))) ?_
      refine XL_cons rfl (X_of_Y0 rfl (E_assign (Bo (bif (leI lo2 vn1) then (leI vn1 hi3) else false)) rfl (by kernel_rfl))) ?_
      refine XL_nil ?_
      kernel_rfl
  refine V_ret ?_
  obtain rfl := some_inj h
  show Post _ _ _ _ _
  exact ⟨.inr rfl, rfl, rfl, rfl⟩
theorem cf_spec_nuGood : ∀ args w, (callFunc 79 args).run Try.prog w = .ok (.enter 79 args) w := run_callFunc Try.func79 (by kernel_rfl) (by kernel_rfl)
set_option maxRecDepth 100000 in
set_option maxHeartbeats 400000 in
theorem s_spec_nuGood {vn1 : Int} {r : Bool} (h : r_spec_nuGood vn1 = some r) : CallS Try.prog 79 [I vn1] (Bo r) [] := by
  refine CallS_of_text (rs := [.t 2]) (vs := [.tmp 2]) Try.func79 rfl rfl (.cons rfl FitsL.nil) (by decide) 5 rfl ?_
  unfold r_spec_nuGood at h
  show V _ _ ⟨[I vn1, .bot, .bot, .bot, .bot], []⟩ _
  refine V_sreg [true, false, false, false, false] [] (s1 := ⟨[I vn1, .bot, .bot, .bot, .bot], []⟩) ?_ ?_
  · refine XL_cons rfl (X_of_Y0 rfl (E_assign (Bo false) rfl (by kernel_rfl))) ?_
    refine XL_nil ?_
    kernel_rfl
  obtain ⟨y2, hy2, h⟩ := of_bind h
  refine V_sreg [false, false, true, false, false] [] (s1 := ⟨[.bot, .bot, Bo y2, .bot, .bot], []⟩) ?_ ?_
  · refine XL_cons rfl (X_of_Y0 rfl (E_move (I vn1) rfl (by kernel_rfl))) ?_
    refine XL_cons rfl (X_of_Y1 rfl (Y1_call (s_spec_l1In hy2) cf_spec_l1In rfl (by kernel_rfl))) ?_
    refine XL_cons rfl (X_of_Y0 rfl (E_assign (Bo y2) rfl (by kernel_rfl))) ?_
    refine XL_nil ?_
    kernel_rfl
  refine V_ret ?_
  obtain rfl := some_inj h
  show Post _ _ _ _ _
  exact ⟨.inr rfl, rfl, rfl, rfl⟩
theorem cf_spec_roDisc : ∀ args w, (callFunc 132 args).run Try.prog w = .ok (.enter 132 args) w := run_callFunc Try.func132 (by kernel_rfl) (by kernel_rfl)
set_option maxRecDepth 100000 in
set_option maxHeartbeats 400000 in
theorem s_spec_roDisc {d1 : Int} {vn2 : Int} {r : List Int} (h : r_spec_roDisc d1 vn2 = some r) : CallS Try.prog 132 [I d1, I vn2] (.ow 0) [(0, .arr 3 1 (r.map c3))] := by
  refine CallS_of_text (rs := [.t 4]) (vs := [.tmp 4]) Try.func132 rfl rfl (.cons rfl FitsL.nil) (by decide) 27 rfl ?_
  unfold r_spec_roDisc at h
  show V _ _ ⟨[I d1, I vn2, .bot, .bot, .bot, .bot, .bot, .bot, .bot, .bot, .bot, .bot, .bot, .bot, .bot, .bot, .bot, .bot, .bot, .bot, .bot, .bot, .bot, .bot, .bot, .bot, .bot], []⟩ _
  refine V_sreg [true, true, false, false, false, false, false, false, false, false, false, false, false, false, false, false, false, false, false, false, false, false, false, false, false, false, false] [] (s1 := ⟨[I d1, I vn2, .bot, .bot, .bot, .bot, .bot, .bot, .bot, .bot, .bot, .bot, .bot, .bot, .bot, .bot, .bot, .bot, .bot, .bot, .bot, .bot, .bot, .bot, .bot, .bot, .bot], []⟩) ?_ ?_
  · refine XL_cons rfl (X_of_Y1 rfl (Y1_nil (e := 3) 1 (by decide) (.inl rfl))) ?_
    refine XL_nil ?_
    kernel_rfl
  refine V_sreg [true, true, false, false, false, true, false, false, false, false, false, false, false, false, false, false, false, false, false, false, false, false, false, false, false, false, false] [40] (s1 := ⟨[I d1, I vn2, .bot, .bot, .bot, .ow 40, .bot, .bot, .bot, .bot, .bot, .bot, .bot, .bot, .bot, .bot, .bot, .bot, .bot, .bot, .bot, .bot, .bot, .bot, .bot, .bot, .bot], [(40, .arr 3 1 ((([] : List Int)).map c3))]⟩) ?_ ?_
  · refine XL_cons rfl (X_of_Y1 rfl (Y1_nil (e := 3) 1 (by decide) (.inl rfl))) ?_
    refine XL_nil ?_
    kernel_rfl
  refine V_seq ?_
  refine V_sreg [true, true, false, false, false, true, true, false, false, false, false, false, false, false, false, false, false, false, false, false, false, false, false, false, false, false, false] [40] (s1 := ⟨[I d1, I vn2, .bot, .bot, .bot, .ow 40, I 0, .bot, .bot, .bot, .bot, .bot, .bot, .bot, .bot, .bot, .bot, .bot, .bot, .bot, .bot, .bot, .bot, .bot, .bot, .bot, .bot], [(40, .arr 3 1 ((([] : List Int)).map c3))]⟩) ?_ ?_
  · refine XL_cons rfl (X_of_Y0 rfl (E_assign (I 0) rfl (by kernel_rfl))) ?_
    refine XL_nil ?_
    kernel_rfl
  obtain ⟨o6, hLo6, h⟩ := of_bind h
  refine V_toK [false, false, false, false, false, true, false, false, false, false, false, false, false, false, false, false, false, false, false, false, false, false, false, false, false, false, false] [40] (s1 := ⟨[.bot, .bot, .bot, .bot, .bot, .ow 40, .bot, .bot, .bot, .bot, .bot, .bot, .bot, .bot, .bot, .bot, .bot, .bot, .bot, .bot, .bot, .bot, .bot, .bot, .bot, .bot, .bot], [(40, .arr 3 1 (o6.map c3))]⟩) ?_ ?_
  · clear h
    refine V_block (V_loop (fun n s => ∃ (b3 : Int) (l4 : List Int), s.keep [true, true, false, false, false, true, true, false, false, false, false, false, false, false, false, false, false, false, false, false, false, false, false, false, false, false, false] [40] = (⟨[I d1, I vn2, .bot, .bot, .bot, .ow 40, I b3, .bot, .bot, .bot, .bot, .bot, .bot, .bot, .bot, .bot, .bot, .bot, .bot, .bot, .bot, .bot, .bot, .bot, .bot, .bot, .bot], [(40, .arr 3 1 (l4.map c3))]⟩ : St) ∧ r_spec_roDisc_L5 d1 vn2 n b3 l4 = some o6) FU ⟨_, _,  by rfl, hLo6⟩ ?_)
    clear hLo6
    rintro n s ⟨b3, l4, hs, h⟩
    refine V_keep _ _ hs ?_
    clear hs
    cases n with
    | zero => cases h
    | succ n =>
      rw [r_spec_roDisc_L5] at h
      refine V_seq ?_
      refine V_sreg [true, true, false, false, false, true, true, false, false, false, true, false, false, false, false, false, false, false, false, false, false, false, false, false, false, false, false] [40] (s1 := ⟨[I d1, I vn2, .bot, .bot, .bot, .ow 40, I b3, .bot, .bot, .bot, Bo (ltI b3 (w64 (2 * vn2))), .bot, .bot, .bot, .bot, .bot, .bot, .bot, .bot, .bot, .bot, .bot, .bot, .bot, .bot, .bot, .bot], [(40, .arr 3 1 (l4.map c3))]⟩) ?_ ?_
      · refine XL_cons rfl (X_of_Y0 rfl (E_move (I b3) rfl (by kernel_rfl))) ?_
        refine XL_cons rfl (X_of_Y0 rfl (E_move (I vn2) rfl (by kernel_rfl))) ?_
        refine XL_cons rfl (X_of_Y0 rfl (Y0_mul64 (a := 2) (b := vn2) rfl (by kernel_rfl) (by kernel_rfl))) ?_
        refine XL_cons rfl (X_of_Y0 rfl (Y0_ltw (k := .i64) (a := b3) (b := w64 (2 * vn2)) rfl (by kernel_rfl) (by kernel_rfl))) ?_
        refine XL_nil ?_
        kernel_rfl
      refine V_cond rfl (fun hc7 => ?_) (fun hc7 => ?_)
      · have h := of_true h hc7
        refine V_skip ?_
        show V _ _ _ _
        refine V_seq ?_
        refine V_block ?_
        obtain ⟨z8, hz8, h⟩ := of_bind h
        obtain ⟨t9, ht9, h⟩ := of_bind h
        have ht9 := some_inj ht9
        refine V_sreg [true, true, false, false, false, true, true, false, false, false, false, false, false, false, false, false, false, false, false, false, false, true, false, false, false, false, false] [40] (s1 := ⟨[I d1, I vn2, .bot, .bot, .bot, .ow 40, I b3, .bot, .bot, .bot, .bot, .bot, .bot, .bot, .bot, .bot, .bot, .bot, .bot, .bot, .bot, Bo t9, .bot, .bot, .bot, .bot, .bot], [(40, .arr 3 1 (l4.map c3))]⟩) ?_ ?_
        · refine XL_cons rfl (X_of_Y0 rfl (E_move (I b3) rfl (by kernel_rfl))) ?_
          refine XL_cons rfl (X_of_Y0 rfl (E_move (I b3) rfl (by kernel_rfl))) ?_
          refine XL_cons rfl (X_of_Y0 rfl (Y0_mul64 (a := b3) (b := b3) rfl (by kernel_rfl) (by kernel_rfl))) ?_
          refine XL_cons rfl (X_of_Y0 rfl (E_move (I d1) rfl (by kernel_rfl))) ?_
          refine XL_cons rfl (X_of_Y0 rfl (Y0_sub64 (a := w64 (b3 * b3)) (b := d1) rfl (by kernel_rfl) (by kernel_rfl))) ?_
          refine XL_cons rfl (X_of_Y0 rfl (E_move (I vn2) rfl (by kernel_rfl))) ?_
          refine XL_cons rfl (X_of_Y0 rfl (Y0_mul64 (a := 4) (b := vn2) rfl (by kernel_rfl) (by kernel_rfl))) ?_
          refine XL_cons rfl (X_of_Y0 rfl (Y0_rem (k := .i64) (a := w64 ((w64 (b3 * b3)) - d1)) (b := w64 (4 * vn2)) rfl (by kernel_rfl) (by kernel_rfl) (nz_some hz8))) ?_
          refine XL_cons rfl (X_of_Y0 rfl (Y0_eqw (k := .i64) (a := Int.tmod (w64 ((w64 (b3 * b3)) - d1)) (w64 (4 * vn2))) (b := 0) rfl (by kernel_rfl) (by kernel_rfl))) ?_
          refine XL_nil ?_
          subst ht9
          kernel_rfl
        refine V_cond rfl (fun hc10 => ?_) (fun hc10 => ?_)
        · have h := of_true h hc10
          obtain ⟨u11, hu11, h⟩ := of_bind h
          refine V_reg [true, true, false, false, false, true, true, false, false, false, false, false, false, false, false, false, false, false, false, false, false, false, false, false, false, false, false] [40] (s1 := ⟨[I d1, I vn2, .bot, .bot, .bot, .ow 40, I b3, .bot, .bot, .bot, .bot, .bot, .bot, .bot, .bot, .bot, .bot, .bot, .bot, .bot, .bot, .bot, .bot, .bot, .bot, .bot, .bot], [(40, .arr 3 1 ((l4 ++ ([b3])).map c3))]⟩) ?_ ?_
          · refine XL_cons rfl (X_of_Y0 rfl (E_move (.ow 40) rfl (by kernel_rfl))) ?_
            refine XL_cons rfl (X_of_Y0 rfl (E_move (I b3) rfl (by kernel_rfl))) ?_
            refine XL_cons rfl (X_of_Y1 rfl (Y1_bslice (z := zv3) (els := [b3].map c3) Try.underlying27 iz3 rfl (by decide) rfl (by kernel_rfl) rfl (by simp [c3]) (by decide) (by decide))) ?_
            refine XL_cons rfl (X_appendM (c := c3) (xs := l4) (ys := [b3]) (id := 40) (z := zv3) rfl rfl Try.underlying27 izb3 rfl (by kernel_rfl) (by kernel_rfl) (by kernel_rfl) (fun _ => rfl) (by simp) (room_some hu11) (by decide)) ?_
            refine XL_cons rfl (X_of_Y0 rfl (E_assign (.ow 40) rfl (by kernel_rfl))) ?_
            refine XL_nil ?_
            kernel_rfl
          show V _ _ _ _
          obtain ⟨b12, hb12, h⟩ := of_sI h
          refine V_reg [true, true, false, false, false, true, true, false, false, false, false, false, false, false, false, false, false, false, false, false, false, false, false, false, false, false, false] [40] (s1 := ⟨[I d1, I vn2, .bot, .bot, .bot, .ow 40, I b12, .bot, .bot, .bot, .bot, .bot, .bot, .bot, .bot, .bot, .bot, .bot, .bot, .bot, .bot, .bot, .bot, .bot, .bot, .bot, .bot], [(40, .arr 3 1 ((l4 ++ ([b3])).map c3))]⟩) ?_ ?_
          · refine XL_cons rfl (X_of_Y0 rfl (E_move (I b3) rfl (by kernel_rfl))) ?_
            refine XL_cons rfl (X_of_Y0 rfl (Y0_add64 (a := b3) (b := 1) rfl (by kernel_rfl) (by kernel_rfl))) ?_
            refine XL_cons rfl (X_of_Y0 rfl (E_assign (I (w64 (b3 + 1))) rfl (by kernel_rfl))) ?_
            refine XL_nil ?_
            subst hb12
            kernel_rfl
          exact ⟨n, Nat.lt_succ_self n, _, _,  by rfl, h⟩
        · have h := of_false h hc10
          refine V_skip ?_
          show V _ _ _ _
          obtain ⟨b13, hb13, h⟩ := of_sI h
          refine V_reg [true, true, false, false, false, true, true, false, false, false, false, false, false, false, false, false, false, false, false, false, false, false, false, false, false, false, false] [40] (s1 := ⟨[I d1, I vn2, .bot, .bot, .bot, .ow 40, I b13, .bot, .bot, .bot, .bot, .bot, .bot, .bot, .bot, .bot, .bot, .bot, .bot, .bot, .bot, .bot, .bot, .bot, .bot, .bot, .bot], [(40, .arr 3 1 (l4.map c3))]⟩) ?_ ?_
          · refine XL_cons rfl (X_of_Y0 rfl (E_move (I b3) rfl (by kernel_rfl))) ?_
            refine XL_cons rfl (X_of_Y0 rfl (Y0_add64 (a := b3) (b := 1) rfl (by kernel_rfl) (by kernel_rfl))) ?_
            refine XL_cons rfl (X_of_Y0 rfl (E_assign (I (w64 (b3 + 1))) rfl (by kernel_rfl))) ?_
            refine XL_nil ?_
            subst hb13
            kernel_rfl
          exact ⟨n, Nat.lt_succ_self n, _, _,  by rfl, h⟩
      · have h := of_false h hc7
        refine V_exit ?_
        obtain rfl := some_inj h
        show St.keep _ _ _ = _
        rfl
  show V _ _ _ _
  refine V_sreg [false, false, false, false, true, false, false, false, false, false, false, false, false, false, false, false, false, false, false, false, false, false, false, false, false, false, false] [40] (s1 := ⟨[.bot, .bot, .bot, .bot, .ow 40, .bot, .bot, .bot, .bot, .bot, .bot, .bot, .bot, .bot, .bot, .bot, .bot, .bot, .bot, .bot, .bot, .bot, .bot, .bot, .bot, .bot, .bot], [(40, .arr 3 1 (o6.map c3))]⟩) ?_ ?_
  · refine XL_cons rfl (X_of_Y0 rfl (E_move (.ow 40) rfl (by kernel_rfl))) ?_
    refine XL_cons rfl (X_of_Y0 rfl (E_assign (.ow 40) rfl (by kernel_rfl))) ?_
    refine XL_nil ?_
    kernel_rfl
  refine V_ret ?_
  obtain rfl := some_inj h
  show Post _ _ _ _ _
  exact ⟨.inr rfl, rfl, rfl, rfl⟩
theorem cf_spec_roForms : ∀ args w, (callFunc 81 args).run Try.prog w = .ok (.enter 81 args) w := run_callFunc Try.func81 (by kernel_rfl) (by kernel_rfl)
set_option maxRecDepth 100000 in
set_option maxHeartbeats 400000 in
theorem s_spec_roForms {d1 : Int} {vn2 : Int} {r : List ((Int × Int × Int))} (h : r_spec_roForms d1 vn2 = some r) : CallS Try.prog 81 [I d1, I vn2] (.ow 0) [(0, .arr 37 3 (r.map c37))] := by
  refine CallS_of_text (rs := [.t 4]) (vs := [.tmp 4]) Try.func81 rfl rfl (.cons rfl FitsL.nil) (by decide) 32 rfl ?_
  unfold r_spec_roForms at h
  show V _ _ ⟨[I d1, I vn2, .bot, .bot, .bot, .bot, .bot, .bot, .bot, .bot, .bot, .bot, .bot, .bot, .bot, .bot, .bot, .bot, .bot, .bot, .bot, .bot, .bot, .bot, .bot, .bot, .bot, .bot, .bot, .bot, .bot, .bot], []⟩ _
  refine V_sreg [true, true, false, false, false, false, false, false, false, false, false, false, false, false, false, false, false, false, false, false, false, false, false, false, false, false, false, false, false, false, false, false] [] (s1 := ⟨[I d1, I vn2, .bot, .bot, .bot, .bot, .bot, .bot, .bot, .bot, .bot, .bot, .bot, .bot, .bot, .bot, .bot, .bot, .bot, .bot, .bot, .bot, .bot, .bot, .bot, .bot, .bot, .bot, .bot, .bot, .bot, .bot], []⟩) ?_ ?_
  · refine XL_cons rfl (X_of_Y1 rfl (Y1_nil (e := 37) 3 (by decide) (.inl rfl))) ?_
    refine XL_nil ?_
    kernel_rfl
  refine V_sreg [true, true, false, false, false, true, false, false, false, false, false, false, false, false, false, false, false, false, false, false, false, false, false, false, false, false, false, false, false, false, false, false] [40] (s1 := ⟨[I d1, I vn2, .bot, .bot, .bot, .ow 40, .bot, .bot, .bot, .bot, .bot, .bot, .bot, .bot, .bot, .bot, .bot, .bot, .bot, .bot, .bot, .bot, .bot, .bot, .bot, .bot, .bot, .bot, .bot, .bot, .bot, .bot], [(40, .arr 37 3 ((([] : List ((Int × Int × Int)))).map c37))]⟩) ?_ ?_
  · refine XL_cons rfl (X_of_Y1 rfl (Y1_nil (e := 37) 3 (by decide) (.inl rfl))) ?_
    refine XL_nil ?_
    kernel_rfl
  refine V_seq ?_
  obtain ⟨y3, hy3, h⟩ := of_bind h
  refine V_sreg [true, true, false, false, false, true, false, false, false, false, true, true, true, false, false, false, false, false, false, false, false, false, false, false, false, false, false, false, false, false, false, false] [80, 40] (s1 := ⟨[I d1, I vn2, .bot, .bot, .bot, .ow 40, .bot, .bot, .bot, .bot, .ow 80, I ((y3.length : Int)), I 0, .bot, .bot, .bot, .bot, .bot, .bot, .bot, .bot, .bot, .bot, .bot, .bot, .bot, .bot, .bot, .bot, .bot, .bot, .bot], [(80, .arr 3 1 (y3.map c3)), (40, .arr 37 3 ((([] : List ((Int × Int × Int)))).map c37))]⟩) ?_ ?_
  · refine XL_cons rfl (X_of_Y0 rfl (E_move (I d1) rfl (by kernel_rfl))) ?_
    refine XL_cons rfl (X_of_Y0 rfl (E_move (I vn2) rfl (by kernel_rfl))) ?_
    refine XL_cons rfl (X_of_Y1 rfl (Y1_call (s_spec_roDisc hy3) cf_spec_roDisc rfl (by kernel_rfl))) ?_
    refine XL_cons rfl (X_of_Y0 rfl (Y0_lenM (c := c3) (xs := y3) Try.underlying27 rfl (by kernel_rfl))) ?_
    refine XL_cons rfl (X_of_Y0 rfl (E_move (I 0) rfl (by kernel_rfl))) ?_
    refine XL_nil ?_
    kernel_rfl
  obtain ⟨o7, hLo7, h⟩ := of_bind h
  refine V_toK [false, false, false, false, false, true, false, false, false, false, false, false, false, false, false, false, false, false, false, false, false, false, false, false, false, false, false, false, false, false, false, false] [40] (s1 := ⟨[.bot, .bot, .bot, .bot, .bot, .ow 40, .bot, .bot, .bot, .bot, .bot, .bot, .bot, .bot, .bot, .bot, .bot, .bot, .bot, .bot, .bot, .bot, .bot, .bot, .bot, .bot, .bot, .bot, .bot, .bot, .bot, .bot], [(40, .arr 37 3 (o7.map c37))]⟩) ?_ ?_
  · clear h
    refine V_block (V_loop (fun n s => ∃ (t4 : Int) (l5 : List ((Int × Int × Int))), s.keep [true, true, false, false, false, true, false, false, false, false, true, true, true, false, false, false, false, false, false, false, false, false, false, false, false, false, false, false, false, false, false, false] [80, 40] = (⟨[I d1, I vn2, .bot, .bot, .bot, .ow 40, .bot, .bot, .bot, .bot, .ow 80, I ((y3.length : Int)), I t4, .bot, .bot, .bot, .bot, .bot, .bot, .bot, .bot, .bot, .bot, .bot, .bot, .bot, .bot, .bot, .bot, .bot, .bot, .bot], [(80, .arr 3 1 (y3.map c3)), (40, .arr 37 3 (l5.map c37))]⟩ : St) ∧ r_spec_roForms_L6 d1 vn2 y3 n t4 l5 = some o7) FU ⟨_, _,  by rfl, hLo7⟩ ?_)
    clear hLo7
    rintro n s ⟨t4, l5, hs, h⟩
    refine V_keep _ _ hs ?_
    clear hs
    cases n with
    | zero => cases h
    | succ n =>
      rw [r_spec_roForms_L6] at h
      refine V_sreg [true, true, false, false, false, true, false, false, false, false, true, true, true, true, false, false, false, false, false, false, false, false, false, false, false, false, false, false, false, false, false, false] [80, 40] (s1 := ⟨[I d1, I vn2, .bot, .bot, .bot, .ow 40, .bot, .bot, .bot, .bot, .ow 80, I ((y3.length : Int)), I t4, Bo (ltI t4 ((y3.length : Int))), .bot, .bot, .bot, .bot, .bot, .bot, .bot, .bot, .bot, .bot, .bot, .bot, .bot, .bot, .bot, .bot, .bot, .bot], [(80, .arr 3 1 (y3.map c3)), (40, .arr 37 3 (l5.map c37))]⟩) ?_ ?_
      · refine XL_cons rfl (X_of_Y0 rfl (Y0_ltw (k := .i64) (a := t4) (b := (y3.length : Int)) rfl (by kernel_rfl) (by kernel_rfl))) ?_
        refine XL_nil ?_
        kernel_rfl
      refine V_seq ?_
      refine V_cond rfl (fun hc8 => ?_) (fun hc8 => ?_)
      · have h := of_true h hc8
        refine V_skip ?_
        show V _ _ _ _
        refine V_seq ?_
        refine V_block ?_
        obtain ⟨e9, he9, h⟩ := of_bind h
        obtain ⟨e10, he10, h⟩ := of_bind h
        refine V_sreg [true, true, false, false, false, true, false, true, false, false, true, true, true, false, false, false, false, false, false, false, false, false, false, false, false, false, false, false, false, false, false, false] [80, 40] (s1 := ⟨[I d1, I vn2, .bot, .bot, .bot, .ow 40, .bot, I e10, .bot, .bot, .ow 80, I ((y3.length : Int)), I t4, .bot, .bot, .bot, .bot, .bot, .bot, .bot, .bot, .bot, .bot, .bot, .bot, .bot, .bot, .bot, .bot, .bot, .bot, .bot], [(80, .arr 3 1 (y3.map c3)), (40, .arr 37 3 (l5.map c37))]⟩) ?_ ?_
        · refine XL_cons rfl (X_of_Y0 rfl (Y0_idxoM (c := c3) (xs := y3) (v := e9) (id := 80) (T := 3) (sz := 1) (n := t4) Try.underlying27 sz3 rfl (by kernel_rfl) (by kernel_rfl) (by kernel_rfl) he9)) ?_
          refine XL_cons rfl (X_of_Y0 rfl (Y0_loado1 (c := c3) (xs := y3) (v := e10) (id := 80) (sz := 1) (T := 3) (off := 0) (n := t4) (d := Ti e10) (ds := []) sc3 rfl (by kernel_rfl) (by kernel_rfl) he10 (by kernel_rfl))) ?_
          refine XL_cons rfl (X_of_Y0 rfl (E_assign (I e10) rfl (by kernel_rfl))) ?_
          refine XL_nil ?_
          kernel_rfl
        obtain ⟨z11, hz11, h⟩ := of_bind h
        obtain ⟨u12, hu12, h⟩ := of_bind h
        obtain ⟨l13, hl13, h⟩ := of_bind h
        have hl13 := some_inj hl13
        refine V_reg [true, true, false, false, false, true, false, false, false, false, true, true, true, false, false, false, false, false, false, false, false, false, false, false, false, false, false, false, false, false, false, false] [80, 40] (s1 := ⟨[I d1, I vn2, .bot, .bot, .bot, .ow 40, .bot, .bot, .bot, .bot, .ow 80, I ((y3.length : Int)), I t4, .bot, .bot, .bot, .bot, .bot, .bot, .bot, .bot, .bot, .bot, .bot, .bot, .bot, .bot, .bot, .bot, .bot, .bot, .bot], [(80, .arr 3 1 (y3.map c3)), (40, .arr 37 3 (l13.map c37))]⟩) ?_ ?_
        · refine XL_cons rfl (X_of_Y0 rfl (E_move (.ow 40) rfl (by kernel_rfl))) ?_
          refine XL_cons rfl (X_of_Y0 rfl (E_move (I vn2) rfl (by kernel_rfl))) ?_
          refine XL_cons rfl (X_of_Y0 rfl (E_move (I e10) rfl (by kernel_rfl))) ?_
          refine XL_cons rfl (X_of_Y0 rfl (E_move (I e10) rfl (by kernel_rfl))) ?_
          refine XL_cons rfl (X_of_Y0 rfl (E_move (I e10) rfl (by kernel_rfl))) ?_
          refine XL_cons rfl (X_of_Y0 rfl (Y0_mul64 (a := e10) (b := e10) rfl (by kernel_rfl) (by kernel_rfl))) ?_
          refine XL_cons rfl (X_of_Y0 rfl (E_move (I d1) rfl (by kernel_rfl))) ?_
          refine XL_cons rfl (X_of_Y0 rfl (Y0_sub64 (a := w64 (e10 * e10)) (b := d1) rfl (by kernel_rfl) (by kernel_rfl))) ?_
          refine XL_cons rfl (X_of_Y0 rfl (E_move (I vn2) rfl (by kernel_rfl))) ?_
          refine XL_cons rfl (X_of_Y0 rfl (Y0_mul64 (a := 4) (b := vn2) rfl (by kernel_rfl) (by kernel_rfl))) ?_
          refine XL_cons rfl (X_of_Y0 rfl (Y0_quo64 (a := w64 ((w64 (e10 * e10)) - d1)) (b := w64 (4 * vn2)) rfl (by kernel_rfl) (by kernel_rfl) (nz_some hz11))) ?_
          refine XL_cons rfl (X_of_Y0 rfl (Y0_build (cs := [Ti vn2, Ti e10, Ti (w64 (Int.tdiv (w64 ((w64 (e10 * e10)) - d1)) (w64 (4 * vn2))))]) pl37 bt37 rfl rfl (by kernel_rfl))) ?_
          refine XL_cons rfl (X_of_Y1 rfl (Y1_bslice (z := zv37) (els := [(vn2, e10, w64 (Int.tdiv (w64 ((w64 (e10 * e10)) - d1)) (w64 (4 * vn2))))].map c37) Try.underlying31 iz37 rfl (by decide) rfl (by kernel_rfl) rfl (by simp [c37]) (by decide) (by decide))) ?_
          refine XL_cons rfl (X_appendM (c := c37) (xs := l5) (ys := [(vn2, e10, w64 (Int.tdiv (w64 ((w64 (e10 * e10)) - d1)) (w64 (4 * vn2))))]) (id := 40) (z := zv37) rfl rfl Try.underlying31 izb37 rfl (by kernel_rfl) (by kernel_rfl) (by kernel_rfl) (fun _ => rfl) (by simp) (room_some hu12) (by decide)) ?_
          refine XL_cons rfl (X_of_Y0 rfl (E_assign (.ow 40) rfl (by kernel_rfl))) ?_
          refine XL_nil ?_
          subst hl13
          kernel_rfl
        show V _ _ _ _
        obtain ⟨t14, ht14, h⟩ := of_sI h
        refine V_reg [true, true, false, false, false, true, false, false, false, false, true, true, true, false, false, false, false, false, false, false, false, false, false, false, false, false, false, false, false, false, false, false] [80, 40] (s1 := ⟨[I d1, I vn2, .bot, .bot, .bot, .ow 40, .bot, .bot, .bot, .bot, .ow 80, I ((y3.length : Int)), I t14, .bot, .bot, .bot, .bot, .bot, .bot, .bot, .bot, .bot, .bot, .bot, .bot, .bot, .bot, .bot, .bot, .bot, .bot, .bot], [(80, .arr 3 1 (y3.map c3)), (40, .arr 37 3 (l13.map c37))]⟩) ?_ ?_
        · refine XL_cons rfl (X_of_Y0 rfl (Y0_add64 (a := t4) (b := 1) rfl (by kernel_rfl) (by kernel_rfl))) ?_
          refine XL_cons rfl (X_of_Y0 rfl (E_move (I (w64 (t4 + 1))) rfl (by kernel_rfl))) ?_
          refine XL_nil ?_
          subst ht14
          kernel_rfl
        exact ⟨n, Nat.lt_succ_self n, _, _,  by rfl, h⟩
      · have h := of_false h hc8
        refine V_exit ?_
        obtain rfl := some_inj h
        show St.keep _ _ _ = _
        rfl
  show V _ _ _ _
  refine V_sreg [false, false, false, false, true, false, false, false, false, false, false, false, false, false, false, false, false, false, false, false, false, false, false, false, false, false, false, false, false, false, false, false] [40] (s1 := ⟨[.bot, .bot, .bot, .bot, .ow 40, .bot, .bot, .bot, .bot, .bot, .bot, .bot, .bot, .bot, .bot, .bot, .bot, .bot, .bot, .bot, .bot, .bot, .bot, .bot, .bot, .bot, .bot, .bot, .bot, .bot, .bot, .bot], [(40, .arr 37 3 (o7.map c37))]⟩) ?_ ?_
  · refine XL_cons rfl (X_of_Y0 rfl (E_move (.ow 40) rfl (by kernel_rfl))) ?_
    refine XL_cons rfl (X_of_Y0 rfl (E_assign (.ow 40) rfl (by kernel_rfl))) ?_
    refine XL_nil ?_
    kernel_rfl
  refine V_ret ?_
  obtain rfl := some_inj h
  show Post _ _ _ _ _
  exact ⟨.inr rfl, rfl, rfl, rfl⟩
theorem cf_spec_l1Abs : ∀ args w, (callFunc 95 args).run Try.prog w = .ok (.enter 95 args) w := run_callFunc Try.func95 (by kernel_rfl) (by kernel_rfl)
set_option maxRecDepth 100000 in
set_option maxHeartbeats 400000 in
theorem s_spec_l1Abs {vn1 : Int} {r : Int} (h : r_spec_l1Abs vn1 = some r) : CallS Try.prog 95 [I vn1] (I r) [] := by
  refine CallS_of_text (rs := [.t 2]) (vs := [.tmp 2]) Try.func95 rfl rfl (.cons rfl FitsL.nil) (by decide) 7 rfl ?_
  unfold r_spec_l1Abs at h
  show V _ _ ⟨[I vn1, .bot, .bot, .bot, .bot, .bot, .bot], []⟩ _
  refine V_sreg [true, false, false, false, false, false, false] [] (s1 := ⟨[I vn1, .bot, .bot, .bot, .bot, .bot, .bot], []⟩) ?_ ?_
  · refine XL_cons rfl (X_of_Y0 rfl (E_assign (I 0) rfl (by kernel_rfl))) ?_
    refine XL_nil ?_
    kernel_rfl
  obtain ⟨y2, hy2, h⟩ := of_bind h
  refine V_sreg [false, false, true, false, false, false, false] [] (s1 := ⟨[.bot, .bot, I y2, .bot, .bot, .bot, .bot], []⟩) ?_ ?_
  · refine XL_cons rfl (X_of_Y0 rfl (E_move (I vn1) rfl (by kernel_rfl))) ?_
    refine XL_cons rfl (X_of_Y0 rfl (E_move (I vn1) rfl (by kernel_rfl))) ?_
    refine XL_cons rfl (X_of_Y0 rfl (Y0_neg64 (a := vn1) rfl (by kernel_rfl))) ?_
    refine XL_cons rfl (X_of_Y1 rfl (Y1_call (s_spec_l1Most hy2) cf_spec_l1Most rfl (by kernel_rfl))) ?_
    refine XL_cons rfl (X_of_Y0 rfl (E_assign (I y2) rfl (by kernel_rfl))) ?_
    refine XL_nil ?_
    kernel_rfl
  refine V_ret ?_
  obtain rfl := some_inj h
  show Post _ _ _ _ _
  exact ⟨.inr rfl, rfl, rfl, rfl⟩
theorem cf_spec_nuGcd : ∀ args w, (callFunc 97 args).run Try.prog w = .ok (.enter 97 args) w := run_callFunc Try.func97 (by kernel_rfl) (by kernel_rfl)
set_option maxRecDepth 100000 in
set_option maxHeartbeats 400000 in
theorem s_spec_nuGcd {a1 : Int} {b2 : Int} {r : Int} (h : r_spec_nuGcd a1 b2 = some r) : CallS Try.prog 97 [I a1, I b2] (I r) [] := by
  refine CallS_of_text (rs := [.t 4]) (vs := [.tmp 4]) Try.func97 rfl rfl (.cons rfl FitsL.nil) (by decide) 16 rfl ?_
  unfold r_spec_nuGcd at h
  show V _ _ ⟨[I a1, I b2, .bot, .bot, .bot, .bot, .bot, .bot, .bot, .bot, .bot, .bot, .bot, .bot, .bot, .bot], []⟩ _
  refine V_sreg [true, true, false, false, false, false, false, false, false, false, false, false, false, false, false, false] [] (s1 := ⟨[I a1, I b2, .bot, .bot, .bot, .bot, .bot, .bot, .bot, .bot, .bot, .bot, .bot, .bot, .bot, .bot], []⟩) ?_ ?_
  · refine XL_cons rfl (X_of_Y0 rfl (E_assign (I 0) rfl (by kernel_rfl))) ?_
    refine XL_nil ?_
    kernel_rfl
  obtain ⟨y3, hy3, h⟩ := of_bind h
  obtain ⟨y4, hy4, h⟩ := of_bind h
  refine V_sreg [true, true, false, false, false, false, false, false, false, false, false, false, false, false, false, false] [] (s1 := ⟨[I y3, I y4, .bot, .bot, .bot, .bot, .bot, .bot, .bot, .bot, .bot, .bot, .bot, .bot, .bot, .bot], []⟩) ?_ ?_
  · refine XL_cons rfl (X_of_Y0 rfl (E_move (I a1) rfl (by kernel_rfl))) ?_
    refine XL_cons rfl (X_of_Y1 rfl (Y1_call (s_spec_l1Abs hy3) cf_spec_l1Abs rfl (by kernel_rfl))) ?_
    refine XL_cons rfl (X_of_Y0 rfl (E_move (I b2) rfl (by kernel_rfl))) ?_
    refine XL_cons rfl (X_of_Y1 rfl (Y1_call (s_spec_l1Abs hy4) cf_spec_l1Abs rfl (by kernel_rfl))) ?_
    refine XL_cons rfl (X_of_Y0 rfl (E_assign (I y3) rfl (by kernel_rfl))) ?_
    refine XL_cons rfl (X_of_Y0 rfl (E_assign (I y4) rfl (by kernel_rfl))) ?_
    refine XL_nil ?_
    kernel_rfl
  refine V_seq ?_
  obtain ⟨o8, hLo8, h⟩ := of_bind h
  refine V_toK [true, false, false, false, false, false, false, false, false, false, false, false, false, false, false, false] [] (s1 := ⟨[I o8, .bot, .bot, .bot, .bot, .bot, .bot, .bot, .bot, .bot, .bot, .bot, .bot, .bot, .bot, .bot], []⟩) ?_ ?_
  · clear h
    refine V_block (V_loop (fun n s => ∃ (a5 : Int) (b6 : Int), s.keep [true, true, false, false, false, false, false, false, false, false, false, false, false, false, false, false] [] = (⟨[I a5, I b6, .bot, .bot, .bot, .bot, .bot, .bot, .bot, .bot, .bot, .bot, .bot, .bot, .bot, .bot], []⟩ : St) ∧ r_spec_nuGcd_L7 n a5 b6 = some o8) FU ⟨_, _,  by rfl, hLo8⟩ ?_)
    clear hLo8
    rintro n s ⟨a5, b6, hs, h⟩
    refine V_keep _ _ hs ?_
    clear hs
    cases n with
    | zero => cases h
    | succ n =>
      rw [r_spec_nuGcd_L7] at h
      refine V_seq ?_
      refine V_sreg [true, true, false, false, false, false, false, false, false, false, true, false, false, false, false, false] [] (s1 := ⟨[I a5, I b6, .bot, .bot, .bot, .bot, .bot, .bot, .bot, .bot, Bo (!eqI b6 0), .bot, .bot, .bot, .bot, .bot], []⟩) ?_ ?_
      · refine XL_cons rfl (X_of_Y0 rfl (E_move (I b6) rfl (by kernel_rfl))) ?_
        refine XL_cons rfl (X_of_Y0 rfl (Y0_new (k := .i64) (a := b6) (b := 0) rfl (by kernel_rfl) (by kernel_rfl))) ?_
        refine XL_nil ?_
        kernel_rfl
      refine V_cond rfl (fun hc9 => ?_) (fun hc9 => ?_)
      · have h := of_true h hc9
        refine V_skip ?_
        show V _ _ _ _
        refine V_block ?_
        obtain ⟨z10, hz10, h⟩ := of_bind h
        obtain ⟨b11, hb11, h⟩ := of_sI h
        refine V_dreg [0, 0, 0, 6, 3, 31] 6 [[.z, .b, .b, .b, .z, .z], [.b, .z, .b, .z, .z, .z], [.b, .b, .z, .z, .b, .z], [.b, .a, .a, .z, .b, .z], [.a, .a, .b, .b, .z, .z], [.a, .a, .a, .a, .a, .z]] [true, true, false, false, false, false, false, false, false, false, false, false, false, false, false, false] [] (s1 := ⟨[I b6, I b11, .bot, .bot, .bot, .bot, .bot, .bot, .bot, .bot, .bot, .bot, .bot, .bot, .bot, .bot], []⟩) (by kernel_rfl) (by kernel_rfl) ?_ ?_
        · refine DE_0 0 (I b6) (by kernel_rfl) rfl rfl rfl (gsat_none rfl) (by kernel_rfl) (E_move (I b6) rfl (by kernel_rfl)) 11 rfl ?_
          refine DE_0 1 (I a5) (by kernel_rfl) rfl rfl rfl (gsat_none rfl) (by kernel_rfl) (E_move (I a5) rfl (by kernel_rfl)) 12 rfl ?_
          refine DE_0 2 (I b6) (by kernel_rfl) rfl rfl rfl (gsat_none rfl) (by kernel_rfl) (E_move (I b6) rfl (by kernel_rfl)) 13 rfl ?_
          refine DE_0 3 (I (Int.tmod a5 b6)) (by kernel_rfl) rfl rfl rfl (gsat_none rfl) (by kernel_rfl) (Y0_rem (k := .i64) (a := a5) (b := b6) rfl (by kernel_rfl) (by kernel_rfl) (nz_some hz10)) 14 rfl ?_
          refine DE_0 4 (I b6) (by kernel_rfl) rfl rfl rfl (gsat_none rfl) (by kernel_rfl) (E_assign (I b6) rfl (by kernel_rfl)) 0 rfl ?_
          refine DE_0 5 (I (Int.tmod a5 b6)) (by kernel_rfl) rfl rfl rfl (gsat_none rfl) (by kernel_rfl) (E_assign (I (Int.tmod a5 b6)) rfl (by kernel_rfl)) 1 rfl ?_
          refine DL_nil (by kernel_rfl) ?_
          refine XL_nil ?_
          subst hb11
          kernel_rfl
        exact ⟨n, Nat.lt_succ_self n, _, _,  by rfl, h⟩
      · have h := of_false h hc9
        refine V_exit ?_
        obtain rfl := some_inj h
        show St.keep _ _ _ = _
        rfl
  show V _ _ _ _
  refine V_sreg [false, false, false, false, true, false, false, false, false, false, false, false, false, false, false, false] [] (s1 := ⟨[.bot, .bot, .bot, .bot, I o8, .bot, .bot, .bot, .bot, .bot, .bot, .bot, .bot, .bot, .bot, .bot], []⟩) ?_ ?_
  · refine XL_cons rfl (X_of_Y0 rfl (E_move (I o8) rfl (by kernel_rfl))) ?_
    refine XL_cons rfl (X_of_Y0 rfl (E_assign (I o8) rfl (by kernel_rfl))) ?_
    refine XL_nil ?_
    kernel_rfl
  refine V_ret ?_
  obtain rfl := some_inj h
  show Post _ _ _ _ _
  exact ⟨.inr rfl, rfl, rfl, rfl⟩
theorem cf_spec_foContent : ∀ args w, (callFunc 82 args).run Try.prog w = .ok (.enter 82 args) w := run_callFunc Try.func82 (by kernel_rfl) (by kernel_rfl)
set_option maxRecDepth 100000 in
set_option maxHeartbeats 400000 in
theorem s_spec_foContent {f1 : (Int × Int × Int)} {r : Int} (h : r_spec_foContent f1 = some r) : CallS Try.prog 82 [.ag [Ti f1.1, Ti f1.2.1, Ti f1.2.2]] (I r) [] := by
  refine CallS_of_text (rs := [.t 2]) (vs := [.tmp 2]) Try.func82 rfl rfl (.cons rfl FitsL.nil) (by decide) 11 rfl ?_
  unfold r_spec_foContent at h
  show V _ _ ⟨[.ag [Ti f1.1, Ti f1.2.1, Ti f1.2.2], .bot, .bot, .bot, .bot, .bot, .bot, .bot, .bot, .bot, .bot], []⟩ _
  refine V_sreg [false, true, false, false, false, false, false, false, false, false, false] [8] (s1 := ⟨[.bot, .pt 8 0, .bot, .bot, .bot, .bot, .bot, .bot, .bot, .bot, .bot], [(8, .box [Ti f1.1, Ti f1.2.1, Ti f1.2.2])]⟩) ?_ ?_
  · refine XL_cons rfl (X_of_Y1 rfl (Y1_box (cs := [Ti f1.1, Ti f1.2.1, Ti f1.2.2]) rfl (by kernel_rfl))) ?_
    refine XL_cons rfl (X_of_Y0 rfl (E_assign (I 0) rfl (by kernel_rfl))) ?_
    refine XL_nil ?_
    kernel_rfl
  obtain ⟨y2, hy2, h⟩ := of_bind h
  obtain ⟨y3, hy3, h⟩ := of_bind h
  refine V_sdreg [0, 1, 0, 4, 15, 0, 32, 127, 255] 9 [[.z, .z, .b, .b, .z, .b, .b, .z, .z], [.a, .z, .b, .b, .z, .b, .b, .z, .z], [.b, .b, .z, .z, .z, .b, .b, .z, .z], [.b, .b, .a, .z, .z, .b, .b, .z, .z], [.a, .a, .a, .a, .z, .b, .b, .z, .z], [.b, .b, .b, .b, .b, .z, .z, .z, .z], [.b, .b, .b, .b, .b, .a, .z, .z, .z], [.a, .a, .a, .a, .a, .a, .a, .z, .z], [.a, .a, .a, .a, .a, .a, .a, .a, .z]] [false, false, true, false, false, false, false, false, false, false, false] [] (s1 := ⟨[.bot, .bot, I y3, .bot, .bot, .bot, .bot, .bot, .bot, .bot, .bot], []⟩) (by kernel_rfl) (by kernel_rfl) ?_ ?_
  · refine DE_0 0 (.pt 8 0) (by kernel_rfl) rfl rfl rfl (gsat_none rfl) (by kernel_rfl) (E_field (.pt 8 0) Try.underlying37 rfl sz3 rfl (by kernel_rfl) (by intro hh; cases hh)) 3 rfl ?_
    refine DE_0 1 (I f1.1) (by kernel_rfl) rfl rfl rfl (gsat_none rfl) (by kernel_rfl) (Y0_load1 (c := Ti f1.1) (cs := [Ti f1.2.1, Ti f1.2.2]) sc3 rfl (by kernel_rfl)) 4 rfl ?_
    refine DE_0 2 (.pt 8 1) (by kernel_rfl) rfl rfl rfl (gsat_none rfl) (by kernel_rfl) (E_field (.pt 8 1) Try.underlying37 rfl sz3 rfl (by kernel_rfl) (by intro hh; cases hh)) 5 rfl ?_
    refine DE_0 3 (I f1.2.1) (by kernel_rfl) rfl rfl rfl (gsat_none rfl) (by kernel_rfl) (Y0_load1 (c := Ti f1.2.1) (cs := [Ti f1.2.2]) sc3 rfl (by kernel_rfl)) 6 rfl ?_
    refine DE_1 4 (by kernel_rfl) rfl rfl rfl (gsat_none rfl) (Y1_call (s_spec_nuGcd hy2) cf_spec_nuGcd rfl (by kernel_rfl)) rfl rfl rfl 7 rfl ?_
    refine DE_0 5 (.pt 8 2) (by kernel_rfl) rfl rfl rfl (gsat_none rfl) (by kernel_rfl) (E_field (.pt 8 2) Try.underlying37 rfl sz3 rfl (by kernel_rfl) (by intro hh; cases hh)) 8 rfl ?_
    refine DE_0 6 (I f1.2.2) (by kernel_rfl) rfl rfl rfl (gsat_none rfl) (by kernel_rfl) (Y0_load1 (c := Ti f1.2.2) (cs := []) sc3 rfl (by kernel_rfl)) 9 rfl ?_
    refine DE_1 7 (by kernel_rfl) rfl rfl rfl (gsat_none rfl) (Y1_call (s_spec_nuGcd hy3) cf_spec_nuGcd rfl (by kernel_rfl)) rfl rfl rfl 10 rfl ?_
    refine DE_0 8 (I y3) (by kernel_rfl) rfl rfl rfl (gsat_none rfl) (by kernel_rfl) (E_assign (I y3) rfl (by kernel_rfl)) 2 rfl ?_
    refine DL_nil (by kernel_rfl) ?_
    refine XL_nil ?_
    kernel_rfl
  refine V_ret ?_
  obtain rfl := some_inj h
  show Post _ _ _ _ _
  exact ⟨.inr rfl, rfl, rfl, rfl⟩
theorem cf_spec_PrimitiveFormsWithLeading : ∀ args w, (callFunc 23 args).run Try.prog w = .ok (.enter 23 args) w := run_callFunc Try.func23 (by kernel_rfl) (by kernel_rfl)
set_option maxRecDepth 100000 in
set_option maxHeartbeats 400000 in
theorem s_spec_PrimitiveFormsWithLeading {d1 : Int} {vn2 : Int} {r : ((List ((Int × Int × Int))) × Bool)} (h : r_spec_PrimitiveFormsWithLeading d1 vn2 = some r) : CallS Try.prog 23 [I d1, I vn2] (.tc (.ow 0) (.tc (Bo r.2) .tn)) [(0, .arr 37 3 (r.1.map c37))] := by
  refine CallS_of_text (rs := [.t 4, .t 5]) (vs := [.tmp 4, .tmp 5]) Try.func23 rfl rfl (.cons rfl (.cons rfl FitsL.nil)) (by decide) 34 rfl ?_
  unfold r_spec_PrimitiveFormsWithLeading at h
  show V _ _ ⟨[I d1, I vn2, .bot, .bot, .bot, .bot, .bot, .bot, .bot, .bot, .bot, .bot, .bot, .bot, .bot, .bot, .bot, .bot, .bot, .bot, .bot, .bot, .bot, .bot, .bot, .bot, .bot, .bot, .bot, .bot, .bot, .bot, .bot, .bot], []⟩ _
  refine V_sreg [true, true, false, false, false, false, false, false, false, false, false, false, false, false, false, false, false, false, false, false, false, false, false, false, false, false, false, false, false, false, false, false, false, false] [] (s1 := ⟨[I d1, I vn2, .bot, .bot, .bot, .bot, .bot, .bot, .bot, .bot, .bot, .bot, .bot, .bot, .bot, .bot, .bot, .bot, .bot, .bot, .bot, .bot, .bot, .bot, .bot, .bot, .bot, .bot, .bot, .bot, .bot, .bot, .bot, .bot], []⟩) ?_ ?_
  · refine XL_cons rfl (X_of_Y1 rfl (Y1_nil (e := 37) 3 (by decide) (.inl rfl))) ?_
    refine XL_cons rfl (X_of_Y0 rfl (E_assign (Bo false) rfl (by kernel_rfl))) ?_
    refine XL_nil ?_
    kernel_rfl
  refine V_seq ?_
  obtain ⟨y3, hy3, h⟩ := of_bind h
  obtain ⟨b6, hb6, h⟩ := of_bind h
  refine V_sreg [true, true, false, false, false, false, false, false, false, false, false, false, false, false, false, false, true, false, false, false, false, false, false, false, false, false, false, false, false, false, false, false, false, false] [] (s1 := ⟨[I d1, I vn2, .bot, .bot, .bot, .bot, .bot, .bot, .bot, .bot, .bot, .bot, .bot, .bot, .bot, .bot, Bo b6, .bot, .bot, .bot, .bot, .bot, .bot, .bot, .bot, .bot, .bot, .bot, .bot, .bot, .bot, .bot, .bot, .bot], []⟩) ?_ ?_
  · refine XL_cons rfl (X_of_Y0 rfl (E_move (I d1) rfl (by kernel_rfl))) ?_
    refine XL_cons rfl (X_of_Y1 rfl (Y1_call (s_spec_nuGood hy3) cf_spec_nuGood rfl (by kernel_rfl))) ?_
    refine XL_cons rfl (X_of_Y0 rfl (Y0_not (b := y3) rfl (by kernel_rfl))) ?_
    refine XL_cons rfl (X_of_Y0 rfl (E_move (Bo (!y3)) rfl (by kernel_rfl))) ?_
    refine XL_split (!y3) (fun hc4 => ?_) (fun hc4 => ?_)
    · have hb6 := some_inj (of_true hb6 hc4)
      refine XL_skipF (!y3) rfl rfl (by kernel_rfl) hc4 rfl ?_
      refine XL_skipF (!y3) rfl rfl (by kernel_rfl) hc4 rfl ?_
      refine XL_skipF (!y3) rfl rfl (by kernel_rfl) hc4 rfl ?_
      refine XL_cons rfl (X_of_Y0 rfl (Y0_pickTe (b := !y3) (p := true) rfl (by kernel_rfl) hc4 (by kernel_rfl) hb6)) ?_
      refine XL_nil ?_
      kernel_rfl
    · have hb6 := of_false hb6 hc4
      obtain ⟨y5, hy5, hb6⟩ := of_bind hb6
      have hb6 := some_inj hb6
      refine XL_takeC (!y3) rfl rfl (by kernel_rfl) hc4 (X_of_Y0 rfl (E_move (I vn2) rfl (by kernel_rfl))) ?_
      refine XL_takeC (!y3) rfl rfl (by kernel_rfl) hc4 (X_of_Y1 rfl (Y1_call (s_spec_l1In hy5) cf_spec_l1In rfl (by kernel_rfl))) ?_
      refine XL_takeC (!y3) rfl rfl (by kernel_rfl) hc4 (X_of_Y0 rfl (Y0_not (b := y5) rfl (by kernel_rfl))) ?_
      refine XL_cons rfl (X_of_Y0 rfl (Y0_pickFe (b := !y3) (p := !y5) rfl (by kernel_rfl) hc4 (by kernel_rfl) hb6)) ?_
      refine XL_nil ?_
      kernel_rfl
  refine V_cond rfl (fun hc7 => ?_) (fun hc7 => ?_)
  · have h := of_true h hc7
    refine V_sreg [false, false, false, false, true, true, false, false, false, false, false, false, false, false, false, false, false, false, false, false, false, false, false, false, false, false, false, false, false, false, false, false, false, false] [32] (s1 := ⟨[.bot, .bot, .bot, .bot, .ow 32, Bo false, .bot, .bot, .bot, .bot, .bot, .bot, .bot, .bot, .bot, .bot, .bot, .bot, .bot, .bot, .bot, .bot, .bot, .bot, .bot, .bot, .bot, .bot, .bot, .bot, .bot, .bot, .bot, .bot], [(32, .arr 37 3 ((([] : List ((Int × Int × Int)))).map c37))]⟩) ?_ ?_
    · refine XL_cons rfl (X_of_Y1 rfl (Y1_nil (e := 37) 3 (by decide) (.inl rfl))) ?_
      refine XL_cons rfl (X_of_Y0 rfl (E_assign (Bo false) rfl (by kernel_rfl))) ?_
      refine XL_nil ?_
      kernel_rfl
    refine V_ret ?_
    obtain rfl := some_inj h
    show Post _ _ _ _ _
    exact ⟨.inr rfl, rfl, rfl, rfl⟩
  · have h := of_false h hc7
    refine V_skip ?_
    show V _ _ _ _
    refine V_sreg [true, true, false, false, false, false, true, false, false, false, false, false, false, false, false, false, false, false, false, false, false, false, false, false, false, false, false, false, false, false, false, false, false, false] [48] (s1 := ⟨[I d1, I vn2, .bot, .bot, .bot, .bot, .ow 48, .bot, .bot, .bot, .bot, .bot, .bot, .bot, .bot, .bot, .bot, .bot, .bot, .bot, .bot, .bot, .bot, .bot, .bot, .bot, .bot, .bot, .bot, .bot, .bot, .bot, .bot, .bot], [(48, .arr 37 3 ((([] : List ((Int × Int × Int)))).map c37))]⟩) ?_ ?_
    · refine XL_cons rfl (X_of_Y1 rfl (Y1_nil (e := 37) 3 (by decide) (.inl rfl))) ?_
      refine XL_nil ?_
      kernel_rfl
    refine V_seq ?_
    obtain ⟨y8, hy8, h⟩ := of_bind h
    refine V_sreg [false, false, false, false, false, false, true, false, false, false, false, false, false, false, false, false, false, false, false, true, true, true, false, false, false, false, false, false, false, false, false, false, false, false] [152, 48] (s1 := ⟨[.bot, .bot, .bot, .bot, .bot, .bot, .ow 48, .bot, .bot, .bot, .bot, .bot, .bot, .bot, .bot, .bot, .bot, .bot, .bot, .ow 152, I ((y8.length : Int)), I 0, .bot, .bot, .bot, .bot, .bot, .bot, .bot, .bot, .bot, .bot, .bot, .bot], [(152, .arr 37 3 (y8.map c37)), (48, .arr 37 3 ((([] : List ((Int × Int × Int)))).map c37))]⟩) ?_ ?_
    · refine XL_cons rfl (X_of_Y0 rfl (E_move (I d1) rfl (by kernel_rfl))) ?_
      refine XL_cons rfl (X_of_Y0 rfl (E_move (I vn2) rfl (by kernel_rfl))) ?_
      refine XL_cons rfl (X_of_Y1 rfl (Y1_call (s_spec_roForms hy8) cf_spec_roForms rfl (by kernel_rfl))) ?_
      refine XL_cons rfl (X_of_Y0 rfl (Y0_lenM (c := c37) (xs := y8) Try.underlying31 rfl (by kernel_rfl))) ?_
      refine XL_cons rfl (X_of_Y0 rfl (E_move (I 0) rfl (by kernel_rfl))) ?_
      refine XL_nil ?_
      kernel_rfl
    obtain ⟨o12, hLo12, h⟩ := of_bind h
    refine V_toK [false, false, false, false, false, false, true, false, false, false, false, false, false, false, false, false, false, false, false, false, false, false, false, false, false, false, false, false, false, false, false, false, false, false] [48] (s1 := ⟨[.bot, .bot, .bot, .bot, .bot, .bot, .ow 48, .bot, .bot, .bot, .bot, .bot, .bot, .bot, .bot, .bot, .bot, .bot, .bot, .bot, .bot, .bot, .bot, .bot, .bot, .bot, .bot, .bot, .bot, .bot, .bot, .bot, .bot, .bot], [(48, .arr 37 3 (o12.map c37))]⟩) ?_ ?_
    · clear h
      refine V_block (V_loop (fun n s => ∃ (t9 : Int) (l10 : List ((Int × Int × Int))), s.keep [false, false, false, false, false, false, true, false, false, false, false, false, false, false, false, false, false, false, false, true, true, true, false, false, false, false, false, false, false, false, false, false, false, false] [152, 48] = (⟨[.bot, .bot, .bot, .bot, .bot, .bot, .ow 48, .bot, .bot, .bot, .bot, .bot, .bot, .bot, .bot, .bot, .bot, .bot, .bot, .ow 152, I ((y8.length : Int)), I t9, .bot, .bot, .bot, .bot, .bot, .bot, .bot, .bot, .bot, .bot, .bot, .bot], [(152, .arr 37 3 (y8.map c37)), (48, .arr 37 3 (l10.map c37))]⟩ : St) ∧ r_spec_PrimitiveFormsWithLeading_L11 y8 n t9 l10 = some o12) FU ⟨_, _,  by rfl, hLo12⟩ ?_)
      clear hLo12
      rintro n s ⟨t9, l10, hs, h⟩
      refine V_keep _ _ hs ?_
      clear hs
      cases n with
      | zero => cases h
      | succ n =>
        rw [r_spec_PrimitiveFormsWithLeading_L11] at h
        refine V_sreg [false, false, false, false, false, false, true, false, false, false, false, false, false, false, false, false, false, false, false, true, true, true, true, false, false, false, false, false, false, false, false, false, false, false] [152, 48] (s1 := ⟨[.bot, .bot, .bot, .bot, .bot, .bot, .ow 48, .bot, .bot, .bot, .bot, .bot, .bot, .bot, .bot, .bot, .bot, .bot, .bot, .ow 152, I ((y8.length : Int)), I t9, Bo (ltI t9 ((y8.length : Int))), .bot, .bot, .bot, .bot, .bot, .bot, .bot, .bot, .bot, .bot, .bot], [(152, .arr 37 3 (y8.map c37)), (48, .arr 37 3 (l10.map c37))]⟩) ?_ ?_
        · refine XL_cons rfl (X_of_Y0 rfl (Y0_ltw (k := .i64) (a := t9) (b := (y8.length : Int)) rfl (by kernel_rfl) (by kernel_rfl))) ?_
          refine XL_nil ?_
          kernel_rfl
        refine V_seq ?_
        refine V_cond rfl (fun hc13 => ?_) (fun hc13 => ?_)
        · have h := of_true h hc13
          refine V_skip ?_
          show V _ _ _ _
          refine V_seq ?_
          refine V_block ?_
          obtain ⟨e14, he14, h⟩ := of_bind h
          obtain ⟨e15, he15, h⟩ := of_bind h
          refine V_sreg [false, false, false, false, false, false, true, false, true, false, false, false, false, false, false, false, false, false, false, true, true, true, false, false, false, false, false, false, false, false, false, false, false, false] [64, 152, 48] (s1 := ⟨[.bot, .bot, .bot, .bot, .bot, .bot, .ow 48, .bot, .pt 64 0, .bot, .bot, .bot, .bot, .bot, .bot, .bot, .bot, .bot, .bot, .ow 152, I ((y8.length : Int)), I t9, .bot, .bot, .bot, .bot, .bot, .bot, .bot, .bot, .bot, .bot, .bot, .bot], [(64, .box [Ti e15.1, Ti e15.2.1, Ti e15.2.2]), (152, .arr 37 3 (y8.map c37)), (48, .arr 37 3 (l10.map c37))]⟩) ?_ ?_
          · refine XL_cons rfl (X_of_Y0 rfl (Y0_idxoM (c := c37) (xs := y8) (v := e14) (id := 152) (T := 37) (sz := 3) (n := t9) Try.underlying31 sz37 rfl (by kernel_rfl) (by kernel_rfl) (by kernel_rfl) he14)) ?_
            refine XL_cons rfl (X_of_Y0 rfl (E_loadon (c := c37) (xs := y8) (v := e15) (id := 152) (sz := 3) (T := 37) (off := 0) (n := t9) [Ti e15.1, Ti e15.2.1, Ti e15.2.2] wd37 rfl (by kernel_rfl) (by kernel_rfl) he15 (Nat.le_of_ble_eq_true rfl) (by kernel_rfl))) ?_
            refine XL_cons rfl (X_of_Y1 rfl (Y1_alloc (z := zv37) rfl zf37 rfl)) ?_
            refine XL_cons rfl (E_store (id := 64) (off := 0) (cs := [Ti 0, Ti 0, Ti 0]) (vc := [Ti e15.1, Ti e15.2.1, Ti e15.2.2]) [Ti e15.1, Ti e15.2.1, Ti e15.2.2] rfl rfl (by kernel_rfl) (by kernel_rfl) (by kernel_rfl) sz37 (Nat.le_of_ble_eq_true rfl) (by kernel_rfl)) ?_
            refine XL_nil ?_
            kernel_rfl
          obtain ⟨y16, hy16, h⟩ := of_bind h
          refine V_sreg [false, false, false, false, false, false, true, false, true, false, false, false, false, false, false, false, false, false, false, true, true, true, false, false, false, false, false, true, false, false, false, false, false, false] [64, 152, 48] (s1 := ⟨[.bot, .bot, .bot, .bot, .bot, .bot, .ow 48, .bot, .pt 64 0, .bot, .bot, .bot, .bot, .bot, .bot, .bot, .bot, .bot, .bot, .ow 152, I ((y8.length : Int)), I t9, .bot, .bot, .bot, .bot, .bot, Bo (eqI y16 1), .bot, .bot, .bot, .bot, .bot, .bot], [(64, .box [Ti e15.1, Ti e15.2.1, Ti e15.2.2]), (152, .arr 37 3 (y8.map c37)), (48, .arr 37 3 (l10.map c37))]⟩) ?_ ?_
          · refine XL_cons rfl (X_of_Y0 rfl (E_loadn (cs := [Ti e15.1, Ti e15.2.1, Ti e15.2.2]) [Ti e15.1, Ti e15.2.1, Ti e15.2.2] wd37 rfl (by kernel_rfl) (Nat.le_of_ble_eq_true rfl) (by kernel_rfl))) ?_
            refine XL_cons rfl (X_of_Y1 rfl (Y1_call (s_spec_foContent hy16) cf_spec_foContent rfl (by kernel_rfl))) ?_
            refine XL_cons rfl (X_of_Y0 rfl (Y0_eqw (k := .i64) (a := y16) (b := 1) rfl (by kernel_rfl) (by kernel_rfl))) ?_
            refine XL_nil ?_
            kernel_rfl
          refine V_cond rfl (fun hc17 => ?_) (fun hc17 => ?_)
          · have h := of_true h hc17
            obtain ⟨u18, hu18, h⟩ := of_bind h
            refine V_reg [false, false, false, false, false, false, true, false, false, false, false, false, false, false, false, false, false, false, false, true, true, true, false, false, false, false, false, false, false, false, false, false, false, false] [152, 48] (s1 := ⟨[.bot, .bot, .bot, .bot, .bot, .bot, .ow 48, .bot, .bot, .bot, .bot, .bot, .bot, .bot, .bot, .bot, .bot, .bot, .bot, .ow 152, I ((y8.length : Int)), I t9, .bot, .bot, .bot, .bot, .bot, .bot, .bot, .bot, .bot, .bot, .bot, .bot], [(152, .arr 37 3 (y8.map c37)), (48, .arr 37 3 ((l10 ++ ([e15])).map c37))]⟩) ?_ ?_
            · refine XL_cons rfl (X_of_Y0 rfl (E_move (.ow 48) rfl (by kernel_rfl))) ?_
              refine XL_cons rfl (X_of_Y0 rfl (E_loadn (cs := [Ti e15.1, Ti e15.2.1, Ti e15.2.2]) [Ti e15.1, Ti e15.2.1, Ti e15.2.2] wd37 rfl (by kernel_rfl) (Nat.le_of_ble_eq_true rfl) (by kernel_rfl))) ?_
              refine XL_cons rfl (X_of_Y1 rfl (Y1_bslice (z := zv37) (els := [e15].map c37) Try.underlying31 iz37 rfl (by decide) rfl (by kernel_rfl) rfl (by simp [c37]) (by decide) (by decide))) ?_
              refine XL_cons rfl (X_appendM (c := c37) (xs := l10) (ys := [e15]) (id := 48) (z := zv37) rfl rfl Try.underlying31 izb37 rfl (by kernel_rfl) (by kernel_rfl) (by kernel_rfl) (fun _ => rfl) (by simp) (room_some hu18) (by decide)) ?_
              refine XL_cons rfl (X_of_Y0 rfl (E_assign (.ow 48) rfl (by kernel_rfl))) ?_
              refine XL_nil ?_
              kernel_rfl
            show V _ _ _ _
            obtain ⟨t19, ht19, h⟩ := of_sI h
            refine V_reg [false, false, false, false, false, false, true, false, false, false, false, false, false, false, false, false, false, false, false, true, true, true, false, false, false, false, false, false, false, false, false, false, false, false] [152, 48] (s1 := ⟨[.bot, .bot, .bot, .bot, .bot, .bot, .ow 48, .bot, .bot, .bot, .bot, .bot, .bot, .bot, .bot, .bot, .bot, .bot, .bot, .ow 152, I ((y8.length : Int)), I t19, .bot, .bot, .bot, .bot, .bot, .bot, .bot, .bot, .bot, .bot, .bot, .bot], [(152, .arr 37 3 (y8.map c37)), (48, .arr 37 3 ((l10 ++ ([e15])).map c37))]⟩) ?_ ?_
            · refine XL_cons rfl (X_of_Y0 rfl (Y0_add64 (a := t9) (b := 1) rfl (by kernel_rfl) (by kernel_rfl))) ?_
              refine XL_cons rfl (X_of_Y0 rfl (E_move (I (w64 (t9 + 1))) rfl (by kernel_rfl))) ?_
              refine XL_nil ?_
              subst ht19
              kernel_rfl
            exact ⟨n, Nat.lt_succ_self n, _, _,  by rfl, h⟩
          · have h := of_false h hc17
            refine V_skip ?_
            show V _ _ _ _
            obtain ⟨t20, ht20, h⟩ := of_sI h
            refine V_reg [false, false, false, false, false, false, true, false, false, false, false, false, false, false, false, false, false, false, false, true, true, true, false, false, false, false, false, false, false, false, false, false, false, false] [152, 48] (s1 := ⟨[.bot, .bot, .bot, .bot, .bot, .bot, .ow 48, .bot, .bot, .bot, .bot, .bot, .bot, .bot, .bot, .bot, .bot, .bot, .bot, .ow 152, I ((y8.length : Int)), I t20, .bot, .bot, .bot, .bot, .bot, .bot, .bot, .bot, .bot, .bot, .bot, .bot], [(152, .arr 37 3 (y8.map c37)), (48, .arr 37 3 (l10.map c37))]⟩) ?_ ?_
            · refine XL_cons rfl (X_of_Y0 rfl (Y0_add64 (a := t9) (b := 1) rfl (by kernel_rfl) (by kernel_rfl))) ?_
              refine XL_cons rfl (X_of_Y0 rfl (E_move (I (w64 (t9 + 1))) rfl (by kernel_rfl))) ?_
              refine XL_nil ?_
              subst ht20
              kernel_rfl
            exact ⟨n, Nat.lt_succ_self n, _, _,  by rfl, h⟩
        · have h := of_false h hc13
          refine V_exit ?_
          obtain rfl := some_inj h
          show St.keep _ _ _ = _
          rfl
    show V _ _ _ _
    refine V_sreg [false, false, false, false, true, true, false, false, false, false, false, false, false, false, false, false, false, false, false, false, false, false, false, false, false, false, false, false, false, false, false, false, false, false] [48] (s1 := ⟨[.bot, .bot, .bot, .bot, .ow 48, Bo true, .bot, .bot, .bot, .bot, .bot, .bot, .bot, .bot, .bot, .bot, .bot, .bot, .bot, .bot, .bot, .bot, .bot, .bot, .bot, .bot, .bot, .bot, .bot, .bot, .bot, .bot, .bot, .bot], [(48, .arr 37 3 (o12.map c37))]⟩) ?_ ?_
    · refine XL_cons rfl (X_of_Y0 rfl (E_move (.ow 48) rfl (by kernel_rfl))) ?_
      refine XL_cons rfl (X_of_Y0 rfl (E_assign (.ow 48) rfl (by kernel_rfl))) ?_
      refine XL_cons rfl (X_of_Y0 rfl (E_assign (Bo true) rfl (by kernel_rfl))) ?_
      refine XL_nil ?_
      kernel_rfl
    refine V_ret ?_
    obtain rfl := some_inj h
    show Post _ _ _ _ _
    exact ⟨.inr rfl, rfl, rfl, rfl⟩
theorem cf_laws_qForms : ∀ args w, (callFunc 24 args).run Try.prog w = .ok (.enter 24 args) w := run_callFunc Try.func24 (by kernel_rfl) (by kernel_rfl)
set_option maxRecDepth 100000 in
set_option maxHeartbeats 400000 in
theorem s_laws_qForms {a1 : List ((Int × Int × Int))} {b2 : List ((Int × Int × Int))} {r : Bool} (h : r_laws_qForms a1 b2 = some r) : CallS Try.prog 24 [.c (.sl (a1.map c37)), .c (.sl (b2.map c37))] (Bo r) [] := by
  refine CallS_of_text (rs := [.t 4]) (vs := [.tmp 4]) Try.func24 rfl rfl (.cons rfl FitsL.nil) (by decide) 26 rfl ?_
  unfold r_laws_qForms at h
  show V _ _ ⟨[.c (.sl (a1.map c37)), .c (.sl (b2.map c37)), .bot, .bot, .bot, .bot, .bot, .bot, .bot, .bot, .bot, .bot, .bot, .bot, .bot, .bot, .bot, .bot, .bot, .bot, .bot, .bot, .bot, .bot, .bot, .bot], []⟩ _
  refine V_sreg [true, true, false, false, false, false, false, false, false, false, false, false, false, false, false, false, false, false, false, false, false, false, false, false, false, false] [] (s1 := ⟨[.c (.sl (a1.map c37)), .c (.sl (b2.map c37)), .bot, .bot, .bot, .bot, .bot, .bot, .bot, .bot, .bot, .bot, .bot, .bot, .bot, .bot, .bot, .bot, .bot, .bot, .bot, .bot, .bot, .bot, .bot, .bot], []⟩) ?_ ?_
  · refine XL_cons rfl (X_of_Y0 rfl (E_assign (Bo false) rfl (by kernel_rfl))) ?_
    refine XL_nil ?_
    kernel_rfl
  refine V_seq ?_
  refine V_sreg [true, true, false, false, false, false, false, false, false, false, true, false, false, false, false, false, false, false, false, false, false, false, false, false, false, false] [] (s1 := ⟨[.c (.sl (a1.map c37)), .c (.sl (b2.map c37)), .bot, .bot, .bot, .bot, .bot, .bot, .bot, .bot, Bo (!eqI ((a1.length : Int)) ((b2.length : Int))), .bot, .bot, .bot, .bot, .bot, .bot, .bot, .bot, .bot, .bot, .bot, .bot, .bot, .bot, .bot], []⟩) ?_ ?_
  · refine XL_cons rfl (X_of_Y0 rfl (E_move (.c (.sl (a1.map c37))) rfl (by kernel_rfl))) ?_
    refine XL_cons rfl (X_of_Y0 rfl (Y0_lenM (c := c37) (xs := a1) Try.underlying31 rfl (by kernel_rfl))) ?_
    refine XL_cons rfl (X_of_Y0 rfl (E_move (.c (.sl (b2.map c37))) rfl (by kernel_rfl))) ?_
    refine XL_cons rfl (X_of_Y0 rfl (Y0_lenM (c := c37) (xs := b2) Try.underlying31 rfl (by kernel_rfl))) ?_
    refine XL_cons rfl (X_of_Y0 rfl (Y0_new (k := .i64) (a := (a1.length : Int)) (b := (b2.length : Int)) rfl (by kernel_rfl) (by kernel_rfl))) ?_
    refine XL_nil ?_
    kernel_rfl
  refine V_cond rfl (fun hc3 => ?_) (fun hc3 => ?_)
  · have h := of_true h hc3
    refine V_sreg [false, false, false, false, true, false, false, false, false, false, false, false, false, false, false, false, false, false, false, false, false, false, false, false, false, false] [] (s1 := ⟨[.bot, .bot, .bot, .bot, Bo false, .bot, .bot, .bot, .bot, .bot, .bot, .bot, .bot, .bot, .bot, .bot, .bot, .bot, .bot, .bot, .bot, .bot, .bot, .bot, .bot, .bot], []⟩) ?_ ?_
    · refine XL_cons rfl (X_of_Y0 rfl (E_assign (Bo false) rfl (by kernel_rfl))) ?_
      refine XL_nil ?_
      kernel_rfl
    refine V_ret ?_
    obtain rfl := some_inj h
    show Post _ _ _ _ _
    exact ⟨.inr rfl, rfl, rfl, rfl⟩
  · have h := of_false h hc3
    refine V_skip ?_
    show V _ _ _ _
    refine V_seq ?_
    refine V_sreg [true, true, false, false, false, false, false, false, false, false, false, false, true, true, false, false, false, false, false, false, false, false, false, false, false, false] [] (s1 := ⟨[.c (.sl (a1.map c37)), .c (.sl (b2.map c37)), .bot, .bot, .bot, .bot, .bot, .bot, .bot, .bot, .bot, .bot, I ((a1.length : Int)), I 0, .bot, .bot, .bot, .bot, .bot, .bot, .bot, .bot, .bot, .bot, .bot, .bot], []⟩) ?_ ?_
    · refine XL_cons rfl (X_of_Y0 rfl (E_move (.c (.sl (a1.map c37))) rfl (by kernel_rfl))) ?_
      refine XL_cons rfl (X_of_Y0 rfl (Y0_lenM (c := c37) (xs := a1) Try.underlying31 rfl (by kernel_rfl))) ?_
      refine XL_cons rfl (X_of_Y0 rfl (E_move (I 0) rfl (by kernel_rfl))) ?_
      refine XL_nil ?_
      kernel_rfl
    obtain ⟨qo6, hLo6, hko6⟩ := of_bind h
    refine V_toS (q := qo6) (S := fun o6 => ⟨[.bot, .bot, .bot, .bot, .bot, .bot, .bot, .bot, .bot, .bot, .bot, .bot, .bot, .bot, .bot, .bot, .bot, .bot, .bot, .bot, .bot, .bot, .bot, .bot, .bot, .bot], []⟩) [false, false, false, false, false, false, false, false, false, false, false, false, false, false, false, false, false, false, false, false, false, false, false, false, false, false] [] ?_ ?_
    · refine V_block (V_loop (fun n s => ∃ (t4 : Int), s.keep [true, true, false, false, false, false, false, false, false, false, false, false, true, true, false, false, false, false, false, false, false, false, false, false, false, false] [] = (⟨[.c (.sl (a1.map c37)), .c (.sl (b2.map c37)), .bot, .bot, .bot, .bot, .bot, .bot, .bot, .bot, .bot, .bot, I ((a1.length : Int)), I t4, .bot, .bot, .bot, .bot, .bot, .bot, .bot, .bot, .bot, .bot, .bot, .bot], []⟩ : St) ∧ r_laws_qForms_L5 a1 b2 n t4 = some qo6) FU ⟨_,  by rfl, hLo6⟩ ?_)
      clear hLo6
      rintro n s ⟨t4, hs, h⟩
      refine V_keep _ _ hs ?_
      clear hs
      cases n with
      | zero => cases h
      | succ n =>
        rw [r_laws_qForms_L5] at h
        refine V_sreg [true, true, false, false, false, false, false, false, false, false, false, false, true, true, true, false, false, false, false, false, false, false, false, false, false, false] [] (s1 := ⟨[.c (.sl (a1.map c37)), .c (.sl (b2.map c37)), .bot, .bot, .bot, .bot, .bot, .bot, .bot, .bot, .bot, .bot, I ((a1.length : Int)), I t4, Bo (ltI t4 ((a1.length : Int))), .bot, .bot, .bot, .bot, .bot, .bot, .bot, .bot, .bot, .bot, .bot], []⟩) ?_ ?_
        · refine XL_cons rfl (X_of_Y0 rfl (Y0_ltw (k := .i64) (a := t4) (b := (a1.length : Int)) rfl (by kernel_rfl) (by kernel_rfl))) ?_
          refine XL_nil ?_
          kernel_rfl
        refine V_seq ?_
        refine V_cond rfl (fun hc7 => ?_) (fun hc7 => ?_)
        · have h := of_true h hc7
          refine V_skip ?_
          show V _ _ _ _
          refine V_seq ?_
          refine V_block ?_
          refine V_sreg [true, true, false, false, false, true, false, false, false, false, false, false, true, true, false, false, false, false, false, false, false, false, false, false, false, false] [] (s1 := ⟨[.c (.sl (a1.map c37)), .c (.sl (b2.map c37)), .bot, .bot, .bot, I t4, .bot, .bot, .bot, .bot, .bot, .bot, I ((a1.length : Int)), I t4, .bot, .bot, .bot, .bot, .bot, .bot, .bot, .bot, .bot, .bot, .bot, .bot], []⟩) ?_ ?_
          · refine XL_cons rfl (X_of_Y0 rfl (E_move (I t4) rfl (by kernel_rfl))) ?_
            refine XL_cons rfl (X_of_Y0 rfl (E_assign (I t4) rfl (by kernel_rfl))) ?_
            refine XL_nil ?_
            kernel_rfl
          obtain ⟨e8, he8, h⟩ := of_bind h
          obtain ⟨e9, he9, h⟩ := of_bind h
          obtain ⟨t10, ht10, h⟩ := of_bind h
          have ht10 := some_inj ht10
          refine V_sdreg [0, 0, 3, 7, 0, 0, 48, 112, 255] 9 [[.z, .b, .z, .z, .b, .b, .b, .b, .z], [.b, .z, .z, .z, .b, .b, .b, .b, .z], [.a, .a, .z, .z, .b, .b, .b, .b, .z], [.a, .a, .a, .z, .b, .b, .b, .b, .z], [.b, .b, .b, .b, .z, .b, .z, .z, .z], [.b, .b, .b, .b, .b, .z, .z, .z, .z], [.b, .b, .b, .b, .a, .a, .z, .z, .z], [.b, .b, .b, .b, .a, .a, .a, .z, .z], [.a, .a, .a, .a, .a, .a, .a, .a, .z]] [true, true, false, false, false, false, false, false, false, false, false, false, true, true, false, false, false, false, false, false, false, false, false, false, true, false] [] (s1 := ⟨[.c (.sl (a1.map c37)), .c (.sl (b2.map c37)), .bot, .bot, .bot, .bot, .bot, .bot, .bot, .bot, .bot, .bot, I ((a1.length : Int)), I t4, .bot, .bot, .bot, .bot, .bot, .bot, .bot, .bot, .bot, .bot, Bo t10, .bot], []⟩) (by kernel_rfl) (by kernel_rfl) ?_ ?_
          · refine DE_0 0 (.c (.sl (a1.map c37))) (by kernel_rfl) rfl rfl rfl (gsat_none rfl) (by kernel_rfl) (E_move (.c (.sl (a1.map c37))) rfl (by kernel_rfl)) 16 rfl ?_
            refine DE_0 1 (I t4) (by kernel_rfl) rfl rfl rfl (gsat_none rfl) (by kernel_rfl) (E_move (I t4) rfl (by kernel_rfl)) 17 rfl ?_
            refine DE_0 2 (.pe [Ti e8.1, Ti e8.2.1, Ti e8.2.2]) (by kernel_rfl) rfl rfl rfl (gsat_none rfl) (by kernel_rfl) (Y0_idxM (c := c37) (xs := a1) (v := e8) (n := t4) Try.underlying31 sz37 rfl (by kernel_rfl) (by kernel_rfl) he8) 18 rfl ?_
            refine DE_0 3 (.ag [Ti e8.1, Ti e8.2.1, Ti e8.2.2]) (by kernel_rfl) rfl rfl rfl (gsat_none rfl) (by kernel_rfl) (E_loadn (cs := [Ti e8.1, Ti e8.2.1, Ti e8.2.2]) [Ti e8.1, Ti e8.2.1, Ti e8.2.2] wd37 rfl (by kernel_rfl) (Nat.le_of_ble_eq_true rfl) (by kernel_rfl)) 19 rfl ?_
            refine DE_0 4 (.c (.sl (b2.map c37))) (by kernel_rfl) rfl rfl rfl (gsat_none rfl) (by kernel_rfl) (E_move (.c (.sl (b2.map c37))) rfl (by kernel_rfl)) 20 rfl ?_
            refine DE_0 5 (I t4) (by kernel_rfl) rfl rfl rfl (gsat_none rfl) (by kernel_rfl) (E_move (I t4) rfl (by kernel_rfl)) 21 rfl ?_
            refine DE_0 6 (.pe [Ti e9.1, Ti e9.2.1, Ti e9.2.2]) (by kernel_rfl) rfl rfl rfl (gsat_none rfl) (by kernel_rfl) (Y0_idxM (c := c37) (xs := b2) (v := e9) (n := t4) Try.underlying31 sz37 rfl (by kernel_rfl) (by kernel_rfl) he9) 22 rfl ?_
            refine DE_0 7 (.ag [Ti e9.1, Ti e9.2.1, Ti e9.2.2]) (by kernel_rfl) rfl rfl rfl (gsat_none rfl) (by kernel_rfl) (E_loadn (cs := [Ti e9.1, Ti e9.2.1, Ti e9.2.2]) [Ti e9.1, Ti e9.2.1, Ti e9.2.2] wd37 rfl (by kernel_rfl) (Nat.le_of_ble_eq_true rfl) (by kernel_rfl)) 23 rfl ?_
            refine DE_0 8 (Bo (!((e8.1 == e9.1) && ((e8.2.1 == e9.2.1) && (e8.2.2 == e9.2.2))))) (by kernel_rfl) rfl rfl rfl (gsat_none rfl) (by kernel_rfl) (Y0_neg3 (a0 := e8.1) (b0 := e9.1) (a1 := e8.2.1) (b1 := e9.2.1) (a2 := e8.2.2) (b2 := e9.2.2) neg37 rfl (by kernel_rfl) (by kernel_rfl)) 24 rfl ?_
            refine DL_nil (by kernel_rfl) ?_
            refine XL_nil ?_
            subst ht10
            kernel_rfl
          refine V_cond rfl (fun hc11 => ?_) (fun hc11 => ?_)
          · have h := of_true h hc11
            refine V_sreg [false, false, false, false, true, false, false, false, false, false, false, false, false, false, false, false, false, false, false, false, false, false, false, false, false, false] [] (s1 := ⟨[.bot, .bot, .bot, .bot, Bo false, .bot, .bot, .bot, .bot, .bot, .bot, .bot, .bot, .bot, .bot, .bot, .bot, .bot, .bot, .bot, .bot, .bot, .bot, .bot, .bot, .bot], []⟩) ?_ ?_
            · refine XL_cons rfl (X_of_Y0 rfl (E_assign (Bo false) rfl (by kernel_rfl))) ?_
              refine XL_nil ?_
              kernel_rfl
            refine V_ret ?_
            obtain rfl := some_inj h
            have h := hko6
            obtain rfl := some_inj h
            show Post _ _ _ _ _
            exact ⟨.inr rfl, rfl, rfl, rfl⟩
          · have h := of_false h hc11
            refine V_skip ?_
            show V _ _ _ _
            obtain ⟨t12, ht12, h⟩ := of_sI h
            refine V_reg [true, true, false, false, false, false, false, false, false, false, false, false, true, true, false, false, false, false, false, false, false, false, false, false, false, false] [] (s1 := ⟨[.c (.sl (a1.map c37)), .c (.sl (b2.map c37)), .bot, .bot, .bot, .bot, .bot, .bot, .bot, .bot, .bot, .bot, I ((a1.length : Int)), I t12, .bot, .bot, .bot, .bot, .bot, .bot, .bot, .bot, .bot, .bot, .bot, .bot], []⟩) ?_ ?_
            · refine XL_cons rfl (X_of_Y0 rfl (Y0_add64 (a := t4) (b := 1) rfl (by kernel_rfl) (by kernel_rfl))) ?_
              refine XL_cons rfl (X_of_Y0 rfl (E_move (I (w64 (t4 + 1))) rfl (by kernel_rfl))) ?_
              refine XL_nil ?_
              subst ht12
              kernel_rfl
            exact ⟨n, Nat.lt_succ_self n, _,  by rfl, h⟩
        · have h := of_false h hc7
          refine V_exit ?_
          obtain rfl := some_inj h
          exact ⟨_, rfl, by rfl⟩
    rintro o6 rfl
    have h := hko6
    clear hko6
    show V _ _ _ _
    refine V_sreg [false, false, false, false, true, false, false, false, false, false, false, false, false, false, false, false, false, false, false, false, false, false, false, false, false, false] [] (s1 := ⟨[.bot, .bot, .bot, .bot, Bo true, .bot, .bot, .bot, .bot, .bot, .bot, .bot, .bot, .bot, .bot, .bot, .bot, .bot, .bot, .bot, .bot, .bot, .bot, .bot, .bot, .bot], []⟩) ?_ ?_
    · refine XL_cons rfl (X_of_Y0 rfl (E_assign (Bo true) rfl (by kernel_rfl))) ?_
      refine XL_nil ?_
      kernel_rfl
    refine V_ret ?_
    obtain rfl := some_inj h
    show Post _ _ _ _ _
    exact ⟨.inr rfl, rfl, rfl, rfl⟩
theorem cf_impl_mod : ∀ args w, (callFunc 123 args).run Try.prog w = .ok (.enter 123 args) w := run_callFunc Try.func123 (by kernel_rfl) (by kernel_rfl)
set_option maxRecDepth 100000 in
set_option maxHeartbeats 400000 in
theorem s_impl_mod {a1 : Int} {vm2 : Int} {r : Int} (h : r_impl_mod a1 vm2 = some r) : CallS Try.prog 123 [I a1, I vm2] (I r) [] := by
  refine CallS_of_text (rs := [.t 4]) (vs := [.tmp 4]) Try.func123 rfl rfl (.cons rfl FitsL.nil) (by decide) 15 rfl ?_
  unfold r_impl_mod at h
  show V _ _ ⟨[I a1, I vm2, .bot, .bot, .bot, .bot, .bot, .bot, .bot, .bot, .bot, .bot, .bot, .bot, .bot], []⟩ _
  refine V_sreg [true, true, false, false, false, false, false, false, false, false, false, false, false, false, false] [] (s1 := ⟨[I a1, I vm2, .bot, .bot, .bot, .bot, .bot, .bot, .bot, .bot, .bot, .bot, .bot, .bot, .bot], []⟩) ?_ ?_
  · refine XL_cons rfl (X_of_Y0 rfl (E_assign (I 0) rfl (by kernel_rfl))) ?_
    refine XL_nil ?_
    kernel_rfl
  obtain ⟨z3, hz3, h⟩ := of_bind h
  obtain ⟨vr4, hvr4, h⟩ := of_sI h
  refine V_sreg [false, true, false, false, false, true, false, false, false, false, false, false, false, false, false] [] (s1 := ⟨[.bot, I vm2, .bot, .bot, .bot, I vr4, .bot, .bot, .bot, .bot, .bot, .bot, .bot, .bot, .bot], []⟩) ?_ ?_
  · refine XL_cons rfl (X_of_Y0 rfl (E_move (I a1) rfl (by kernel_rfl))) ?_
    refine XL_cons rfl (X_of_Y0 rfl (E_move (I vm2) rfl (by kernel_rfl))) ?_
    refine XL_cons rfl (X_of_Y0 rfl (Y0_rem (k := .i64) (a := a1) (b := vm2) rfl (by kernel_rfl) (by kernel_rfl) (nz_some hz3))) ?_
    refine XL_cons rfl (X_of_Y0 rfl (E_assign (I (Int.tmod a1 vm2)) rfl (by kernel_rfl))) ?_
    refine XL_nil ?_
    subst hvr4
    kernel_rfl
  refine V_seq ?_
  refine V_sreg [false, true, false, false, false, true, false, false, false, false, true, false, false, false, false] [] (s1 := ⟨[.bot, I vm2, .bot, .bot, .bot, I vr4, .bot, .bot, .bot, .bot, Bo (ltI vr4 0), .bot, .bot, .bot, .bot], []⟩) ?_ ?_
  · refine XL_cons rfl (X_of_Y0 rfl (E_move (I vr4) rfl (by kernel_rfl))) ?_
    refine XL_cons rfl (X_of_Y0 rfl (Y0_ltw (k := .i64) (a := vr4) (b := 0) rfl (by kernel_rfl) (by kernel_rfl))) ?_
    refine XL_nil ?_
    kernel_rfl
  refine V_cond rfl (fun hc5 => ?_) (fun hc5 => ?_)
  · have h := of_true h hc5
    obtain ⟨vr6, hvr6, h⟩ := of_sI h
    refine V_reg [false, false, false, false, false, true, false, false, false, false, false, false, false, false, false] [] (s1 := ⟨[.bot, .bot, .bot, .bot, .bot, I vr6, .bot, .bot, .bot, .bot, .bot, .bot, .bot, .bot, .bot], []⟩) ?_ ?_
    · refine XL_cons rfl (X_of_Y0 rfl (E_move (I vr4) rfl (by kernel_rfl))) ?_
      refine XL_cons rfl (X_of_Y0 rfl (E_move (I vm2) rfl (by kernel_rfl))) ?_
      refine XL_cons rfl (X_of_Y0 rfl (Y0_add64 (a := vr4) (b := vm2) rfl (by kernel_rfl) (by kernel_rfl))) ?_
      refine XL_cons rfl (X_of_Y0 rfl (E_assign (I (w64 (vr4 + vm2))) rfl (by kernel_rfl))) ?_
      refine XL_nil ?_
      subst hvr6
      kernel_rfl
    show V _ _ _ _
    refine V_sreg [false, false, false, false, true, false, false, false, false, false, false, false, false, false, false] [] (s1 := ⟨[.bot, .bot, .bot, .bot, I vr6, .bot, .bot, .bot, .bot, .bot, .bot, .bot, .bot, .bot, .bot], []⟩) ?_ ?_
    · refine XL_cons rfl (X_of_Y0 rfl (E_move (I vr6) rfl (by kernel_rfl))) ?_
      refine XL_cons rfl (X_of_Y0 rfl (E_assign (I vr6) rfl (by kernel_rfl))) ?_
      refine XL_nil ?_
      kernel_rfl
    refine V_ret ?_
    obtain rfl := some_inj h
    show Post _ _ _ _ _
    exact ⟨.inr rfl, rfl, rfl, rfl⟩
  · have h := of_false h hc5
    refine V_skip ?_
    show V _ _ _ _
    refine V_sreg [false, false, false, false, true, false, false, false, false, false, false, false, false, false, false] [] (s1 := ⟨[.bot, .bot, .bot, .bot, I vr4, .bot, .bot, .bot, .bot, .bot, .bot, .bot, .bot, .bot, .bot], []⟩) ?_ ?_
    · refine XL_cons rfl (X_of_Y0 rfl (E_move (I vr4) rfl (by kernel_rfl))) ?_
      refine XL_cons rfl (X_of_Y0 rfl (E_assign (I vr4) rfl (by kernel_rfl))) ?_
      refine XL_nil ?_
      kernel_rfl
    refine V_ret ?_
    obtain rfl := some_inj h
    show Post _ _ _ _ _
    exact ⟨.inr rfl, rfl, rfl, rfl⟩
theorem cf_impl_isNegativeDisc : ∀ args w, (callFunc 68 args).run Try.prog w = .ok (.enter 68 args) w := run_callFunc Try.func68 (by kernel_rfl) (by kernel_rfl)
set_option maxRecDepth 100000 in
set_option maxHeartbeats 400000 in
theorem s_impl_isNegativeDisc {d1 : Int} {r : Bool} (h : r_impl_isNegativeDisc d1 = some r) : CallS Try.prog 68 [I d1] (Bo r) [] := by
  refine CallS_of_text (rs := [.t 2]) (vs := [.tmp 2]) Try.func68 rfl rfl (.cons rfl FitsL.nil) (by decide) 14 rfl ?_
  unfold r_impl_isNegativeDisc at h
  show V _ _ ⟨[I d1, .bot, .bot, .bot, .bot, .bot, .bot, .bot, .bot, .bot, .bot, .bot, .bot, .bot], []⟩ _
  refine V_sreg [true, false, false, false, false, false, false, false, false, false, false, false, false, false] [] (s1 := ⟨[I d1, .bot, .bot, .bot, .bot, .bot, .bot, .bot, .bot, .bot, .bot, .bot, .bot, .bot], []⟩) ?_ ?_
  · refine XL_cons rfl (X_of_Y0 rfl (E_assign (Bo false) rfl (by kernel_rfl))) ?_
    refine XL_nil ?_
    kernel_rfl
  obtain ⟨b5, hb5, h⟩ := of_bind h
  refine V_sreg [false, false, true, false, false, false, false, false, false, false, false, false, false, false] [] (s1 := ⟨[.bot, .bot, Bo b5, .bot, .bot, .bot, .bot, .bot, .bot, .bot, .bot, .bot, .bot, .bot], []⟩) ?_ ?_
  · refine XL_cons rfl (X_of_Y0 rfl (E_move (I d1) rfl (by kernel_rfl))) ?_
    refine XL_cons rfl (X_of_Y0 rfl (Y0_gew (k := .i64) (a := d1) (b := -2000) rfl (by kernel_rfl) (by kernel_rfl))) ?_
    refine XL_cons rfl (X_of_Y0 rfl (E_move (Bo (leI (-2000) d1)) rfl (by kernel_rfl))) ?_
    refine XL_split (leI (-2000) d1) (fun hc2 => ?_) (fun hc2 => ?_)
    · refine XL_takeC (leI (-2000) d1) rfl rfl (by kernel_rfl) hc2 (X_of_Y0 rfl (E_move (I d1) rfl (by kernel_rfl))) ?_
      refine XL_takeC (leI (-2000) d1) rfl rfl (by kernel_rfl) hc2 (X_of_Y0 rfl (Y0_lew (k := .i64) (a := d1) (b := -3) rfl (by kernel_rfl) (by kernel_rfl))) ?_
      refine XL_cons rfl (X_of_Y0 rfl (Y0_pick1 (b := leI (-2000) d1) (p := leI d1 (-3)) (q := false) rfl (by kernel_rfl) hc2 (by kernel_rfl))) ?_
      refine XL_cons rfl (X_of_Y0 rfl (E_move (Bo (bif (leI (-2000) d1) then (leI d1 (-3)) else false)) rfl (by kernel_rfl))) ?_
      refine XL_split (bif (leI (-2000) d1) then (leI d1 (-3)) else false) (fun hc3 => ?_) (fun hc3 => ?_)
      · have hb5 := of_true hb5 hc3
        obtain ⟨y4, hy4, hb5⟩ := of_bind hb5
        have hb5 := some_inj hb5
        refine XL_takeC (bif (leI (-2000) d1) then (leI d1 (-3)) else false) rfl rfl (by kernel_rfl) hc3 (X_of_Y0 rfl (E_move (I d1) rfl (by kernel_rfl))) ?_
        refine XL_takeC (bif (leI (-2000) d1) then (leI d1 (-3)) else false) rfl rfl (by kernel_rfl) hc3 (X_of_Y1 rfl (Y1_call (s_impl_mod hy4) cf_impl_mod rfl (by kernel_rfl))) ?_
        refine XL_takeC (bif (leI (-2000) d1) then (leI d1 (-3)) else false) rfl rfl (by kernel_rfl) hc3 (X_of_Y0 rfl (Y0_lew (k := .i64) (a := y4) (b := 1) rfl (by kernel_rfl) (by kernel_rfl))) ?_
        refine XL_cons rfl (X_of_Y0 rfl (Y0_pickTe (b := bif (leI (-2000) d1) then (leI d1 (-3)) else false) (p := leI y4 1) rfl (by kernel_rfl) hc3 (by kernel_rfl) hb5)) ?_
        refine XL_cons rfl (X_of_Y0 rfl (E_assign (Bo b5) rfl (by kernel_rfl))) ?_
        refine XL_nil ?_
        kernel_rfl
      · have hb5 := some_inj (of_false hb5 hc3)
        refine XL_skipT (bif (leI (-2000) d1) then (leI d1 (-3)) else false) rfl rfl (by kernel_rfl) hc3 rfl ?_
        refine XL_skipT (bif (leI (-2000) d1) then (leI d1 (-3)) else false) rfl rfl (by kernel_rfl) hc3 rfl ?_
        refine XL_skipT (bif (leI (-2000) d1) then (leI d1 (-3)) else false) rfl rfl (by kernel_rfl) hc3 rfl ?_
        refine XL_cons rfl (X_of_Y0 rfl (Y0_pickFe (b := bif (leI (-2000) d1) then (leI d1 (-3)) else false) (p := false) rfl (by kernel_rfl) hc3 (by kernel_rfl) hb5)) ?_
        refine XL_cons rfl (X_of_Y0 rfl (E_assign (Bo b5) rfl (by kernel_rfl))) ?_
        refine XL_nil ?_
        kernel_rfl
    · refine XL_skipT (leI (-2000) d1) rfl rfl (by kernel_rfl) hc2 rfl ?_
      refine XL_skipT (leI (-2000) d1) rfl rfl (by kernel_rfl) hc2 rfl ?_
      refine XL_cons rfl (X_of_Y0 rfl (Y0_pick0 (b := leI (-2000) d1) (p := leI d1 (-3)) (q := false) rfl (by kernel_rfl) hc2 (by kernel_rfl))) ?_
      refine XL_cons rfl (X_of_Y0 rfl (E_move (Bo (bif (leI (-2000) d1) then (leI d1 (-3)) else false)) rfl (by kernel_rfl))) ?_
      refine XL_split (bif (leI (-2000) d1) then (leI d1 (-3)) else false) (fun hc3 => ?_) (fun hc3 => ?_)
      · have hb5 := of_true hb5 hc3
        obtain ⟨y4, hy4, hb5⟩ := of_bind hb5
        have hb5 := some_inj hb5
        refine XL_takeC (bif (leI (-2000) d1) then (leI d1 (-3)) else false) rfl rfl (by kernel_rfl) hc3 (X_of_Y0 rfl (E_move (I d1) rfl (by kernel_rfl))) ?_
        refine XL_takeC (bif (leI (-2000) d1) then (leI d1 (-3)) else false) rfl rfl (by kernel_rfl) hc3 (X_of_Y1 rfl (Y1_call (s_impl_mod hy4) cf_impl_mod rfl (by kernel_rfl))) ?_
        refine XL_takeC (bif (leI (-2000) d1) then (leI d1 (-3)) else false) rfl rfl (by kernel_rfl) hc3 (X_of_Y0 rfl (Y0_lew (k := .i64) (a := y4) (b := 1) rfl (by kernel_rfl) (by kernel_rfl))) ?_
        refine XL_cons rfl (X_of_Y0 rfl (Y0_pickTe (b := bif (leI (-2000) d1) then (leI d1 (-3)) else false) (p := leI y4 1) rfl (by kernel_rfl) hc3 (by kernel_rfl) hb5)) ?_
        refine XL_cons rfl (X_of_Y0 rfl (E_assign (Bo b5) rfl (by kernel_rfl))) ?_
        refine XL_nil ?_
        kernel_rfl
      · have hb5 := some_inj (of_false hb5 hc3)
        refine XL_skipT (bif (leI (-2000) d1) then (leI d1 (-3)) else false) rfl rfl (by kernel_rfl) hc3 rfl ?_
        refine XL_skipT (bif (leI (-2000) d1) then (leI d1 (-3)) else false) rfl rfl (by kernel_rfl) hc3 rfl ?_
        refine XL_skipT (bif (leI (-2000) d1) then (leI d1 (-3)) else false) rfl rfl (by kernel_rfl) hc3 rfl ?_
        refine XL_cons rfl (X_of_Y0 rfl (Y0_pickFe (b := bif (leI (-2000) d1) then (leI d1 (-3)) else false) (p := false) rfl (by kernel_rfl) hc3 (by kernel_rfl) hb5)) ?_
        refine XL_cons rfl (X_of_Y0 rfl (E_assign (Bo b5) rfl (by kernel_rfl))) ?_
        refine XL_nil ?_
        kernel_rfl
  refine V_ret ?_
  obtain rfl := some_inj h
  show Post _ _ _ _ _
  exact ⟨.inr rfl, rfl, rfl, rfl⟩
theorem cf_impl_AutomorphCount : ∀ args w, (callFunc 25 args).run Try.prog w = .ok (.enter 25 args) w := run_callFunc Try.func25 (by kernel_rfl) (by kernel_rfl)
set_option maxRecDepth 100000 in
set_option maxHeartbeats 400000 in
theorem s_impl_AutomorphCount {d1 : Int} {r : (Int × Bool)} (h : r_impl_AutomorphCount d1 = some r) : CallS Try.prog 25 [I d1] (.tc (I r.1) (.tc (Bo r.2) .tn)) [] := by
  refine CallS_of_text (rs := [.t 2, .t 3]) (vs := [.tmp 2, .tmp 3]) Try.func25 rfl rfl (.cons rfl (.cons rfl FitsL.nil)) (by decide) 14 rfl ?_
  unfold r_impl_AutomorphCount at h
  show V _ _ ⟨[I d1, .bot, .bot, .bot, .bot, .bot, .bot, .bot, .bot, .bot, .bot, .bot, .bot, .bot], []⟩ _
  refine V_sreg [true, false, false, false, false, false, false, false, false, false, false, false, false, false] [] (s1 := ⟨[I d1, .bot, .bot, .bot, .bot, .bot, .bot, .bot, .bot, .bot, .bot, .bot, .bot, .bot], []⟩) ?_ ?_
  · refine XL_cons rfl (X_of_Y0 rfl (E_assign (I 0) rfl (by kernel_rfl))) ?_
    refine XL_cons rfl (X_of_Y0 rfl (E_assign (Bo false) rfl (by kernel_rfl))) ?_
    refine XL_nil ?_
    kernel_rfl
  refine V_seq ?_
  refine V_block ?_
  obtain ⟨y2, hy2, h⟩ := of_bind h
  refine V_sreg [true, false, false, false, true, false, false, false, false, false, false, false, false, false] [] (s1 := ⟨[I d1, .bot, .bot, .bot, Bo (!y2), .bot, .bot, .bot, .bot, .bot, .bot, .bot, .bot, .bot], []⟩) ?_ ?_
  · refine XL_cons rfl (X_of_Y0 rfl (E_move (I d1) rfl (by kernel_rfl))) ?_
    refine XL_cons rfl (X_of_Y1 rfl (Y1_call (s_impl_isNegativeDisc hy2) cf_impl_isNegativeDisc rfl (by kernel_rfl))) ?_
    refine XL_cons rfl (X_of_Y0 rfl (Y0_not (b := y2) rfl (by kernel_rfl))) ?_
    refine XL_cons rfl (X_of_Y0 rfl (E_assign (Bo (!y2)) rfl (by kernel_rfl))) ?_
    refine XL_nil ?_
    kernel_rfl
  refine V_cond rfl (fun hc3 => ?_) (fun hc3 => ?_)
  · have h := of_true h hc3
    refine V_sreg [false, false, true, true, false, false, false, false, false, false, false, false, false, false] [] (s1 := ⟨[.bot, .bot, I 0, Bo false, .bot, .bot, .bot, .bot, .bot, .bot, .bot, .bot, .bot, .bot], []⟩) ?_ ?_
    · refine XL_cons rfl (X_of_Y0 rfl (E_assign (I 0) rfl (by kernel_rfl))) ?_
      refine XL_cons rfl (X_of_Y0 rfl (E_assign (Bo false) rfl (by kernel_rfl))) ?_
      refine XL_nil ?_
      kernel_rfl
    refine V_ret ?_
    obtain rfl := some_inj h
    show Post _ _ _ _ _
    exact ⟨.inr rfl, rfl, rfl, rfl⟩
  · have h := of_false h hc3
    refine V_sreg [true, false, false, false, false, false, false, false, true, false, false, false, false, false] [] (s1 := ⟨[I d1, .bot, .bot, .bot, .bot, .bot, .bot, .bot, Bo (eqI d1 (-3)), .bot, .bot, .bot, .bot, .bot], []⟩) ?_ ?_
    · refine XL_cons rfl (X_of_Y0 rfl (E_move (I d1) rfl (by kernel_rfl))) ?_
      refine XL_cons rfl (X_of_Y0 rfl (Y0_eqw (k := .i64) (a := d1) (b := -3) rfl (by kernel_rfl) (by kernel_rfl))) ?_
      refine XL_cons rfl (X_of_Y0 rfl (E_assign (Bo (eqI d1 (-3))) rfl (by kernel_rfl))) ?_
      refine XL_nil ?_
      kernel_rfl
    refine V_cond rfl (fun hc4 => ?_) (fun hc4 => ?_)
    · have h := of_true h hc4
      refine V_sreg [false, false, true, true, false, false, false, false, false, false, false, false, false, false] [] (s1 := ⟨[.bot, .bot, I 6, Bo true, .bot, .bot, .bot, .bot, .bot, .bot, .bot, .bot, .bot, .bot], []⟩) ?_ ?_
      · refine XL_cons rfl (X_of_Y0 rfl (E_assign (I 6) rfl (by kernel_rfl))) ?_
        refine XL_cons rfl (X_of_Y0 rfl (E_assign (Bo true) rfl (by kernel_rfl))) ?_
        refine XL_nil ?_
        kernel_rfl
      refine V_ret ?_
      obtain rfl := some_inj h
      show Post _ _ _ _ _
      exact ⟨.inr rfl, rfl, rfl, rfl⟩
    · have h := of_false h hc4
      refine V_sreg [false, false, false, false, false, false, false, false, false, false, false, true, false, false] [] (s1 := ⟨[.bot, .bot, .bot, .bot, .bot, .bot, .bot, .bot, .bot, .bot, .bot, Bo (eqI d1 (-4)), .bot, .bot], []⟩) ?_ ?_
      · refine XL_cons rfl (X_of_Y0 rfl (E_move (I d1) rfl (by kernel_rfl))) ?_
        refine XL_cons rfl (X_of_Y0 rfl (Y0_eqw (k := .i64) (a := d1) (b := -4) rfl (by kernel_rfl) (by kernel_rfl))) ?_
        refine XL_cons rfl (X_of_Y0 rfl (E_assign (Bo (eqI d1 (-4))) rfl (by kernel_rfl))) ?_
        refine XL_nil ?_
        kernel_rfl
      refine V_cond rfl (fun hc5 => ?_) (fun hc5 => ?_)
      · have h := of_true h hc5
        refine V_sreg [false, false, true, true, false, false, false, false, false, false, false, false, false, false] [] (s1 := ⟨[.bot, .bot, I 4, Bo true, .bot, .bot, .bot, .bot, .bot, .bot, .bot, .bot, .bot, .bot], []⟩) ?_ ?_
        · refine XL_cons rfl (X_of_Y0 rfl (E_assign (I 4) rfl (by kernel_rfl))) ?_
          refine XL_cons rfl (X_of_Y0 rfl (E_assign (Bo true) rfl (by kernel_rfl))) ?_
          refine XL_nil ?_
          kernel_rfl
        refine V_ret ?_
        obtain rfl := some_inj h
        show Post _ _ _ _ _
        exact ⟨.inr rfl, rfl, rfl, rfl⟩
      · have h := of_false h hc5
        refine V_skip ?_
        show V _ _ _ _
        refine V_sreg [false, false, true, true, false, false, false, false, false, false, false, false, false, false] [] (s1 := ⟨[.bot, .bot, I 2, Bo true, .bot, .bot, .bot, .bot, .bot, .bot, .bot, .bot, .bot, .bot], []⟩) ?_ ?_
        · refine XL_cons rfl (X_of_Y0 rfl (E_assign (I 2) rfl (by kernel_rfl))) ?_
          refine XL_cons rfl (X_of_Y0 rfl (E_assign (Bo true) rfl (by kernel_rfl))) ?_
          refine XL_nil ?_
          kernel_rfl
        refine V_ret ?_
        obtain rfl := some_inj h
        show Post _ _ _ _ _
        exact ⟨.inr rfl, rfl, rfl, rfl⟩
theorem cf_spec_reDisc : ∀ args w, (callFunc 72 args).run Try.prog w = .ok (.enter 72 args) w := run_callFunc Try.func72 (by kernel_rfl) (by kernel_rfl)
set_option maxRecDepth 100000 in
set_option maxHeartbeats 400000 in
theorem s_spec_reDisc {d1 : Int} {r : Bool} (h : r_spec_reDisc d1 = some r) : CallS Try.prog 72 [I d1] (Bo r) [] := by
  refine CallS_of_text (rs := [.t 2]) (vs := [.tmp 2]) Try.func72 rfl rfl (.cons rfl FitsL.nil) (by decide) 10 rfl ?_
  unfold r_spec_reDisc at h
  show V _ _ ⟨[I d1, .bot, .bot, .bot, .bot, .bot, .bot, .bot, .bot, .bot], []⟩ _
  refine V_sreg [true, false, false, false, false, false, false, false, false, false] [] (s1 := ⟨[I d1, .bot, .bot, .bot, .bot, .bot, .bot, .bot, .bot, .bot], []⟩) ?_ ?_
  · refine XL_cons rfl (X_of_Y0 rfl (E_assign (Bo false) rfl (by kernel_rfl))) ?_
    refine XL_nil ?_
    kernel_rfl
  obtain ⟨y2, hy2, h⟩ := of_bind h
  obtain ⟨b5, hb5, h⟩ := of_bind h
  refine V_sreg [false, false, true, false, false, false, false, false, false, false] [] (s1 := ⟨[.bot, .bot, Bo b5, .bot, .bot, .bot, .bot, .bot, .bot, .bot], []⟩) ?_ ?_
  · refine XL_cons rfl (X_of_Y0 rfl (E_move (I d1) rfl (by kernel_rfl))) ?_
    refine XL_cons rfl (X_of_Y1 rfl (Y1_call (s_spec_l1In hy2) cf_spec_l1In rfl (by kernel_rfl))) ?_
    refine XL_cons rfl (X_of_Y0 rfl (E_move (Bo y2) rfl (by kernel_rfl))) ?_
    refine XL_split y2 (fun hc3 => ?_) (fun hc3 => ?_)
    · have hb5 := of_true hb5 hc3
      obtain ⟨y4, hy4, hb5⟩ := of_bind hb5
      have hb5 := some_inj hb5
      refine XL_takeC (y2) rfl rfl (by kernel_rfl) hc3 (X_of_Y0 rfl (E_move (I d1) rfl (by kernel_rfl))) ?_
      refine XL_takeC (y2) rfl rfl (by kernel_rfl) hc3 (X_of_Y1 rfl (Y1_call (s_spec_nuMod hy4) cf_spec_nuMod rfl (by kernel_rfl))) ?_
      refine XL_takeC (y2) rfl rfl (by kernel_rfl) hc3 (X_of_Y0 rfl (Y0_ltw (k := .i64) (a := y4) (b := 2) rfl (by kernel_rfl) (by kernel_rfl))) ?_
      refine XL_cons rfl (X_of_Y0 rfl (Y0_pickTe (b := y2) (p := ltI y4 2) rfl (by kernel_rfl) hc3 (by kernel_rfl) hb5)) ?_
      refine XL_cons rfl (X_of_Y0 rfl (E_assign (Bo b5) rfl (by kernel_rfl))) ?_
      refine XL_nil ?_
      kernel_rfl
    · have hb5 := some_inj (of_false hb5 hc3)
      refine XL_skipT (y2) rfl rfl (by kernel_rfl) hc3 rfl ?_
      refine XL_skipT (y2) rfl rfl (by kernel_rfl) hc3 rfl ?_
      refine XL_skipT (y2) rfl rfl (by kernel_rfl) hc3 rfl ?_
      refine XL_cons rfl (X_of_Y0 rfl (Y0_pickFe (b := y2) (p := false) rfl (by kernel_rfl) hc3 (by kernel_rfl) hb5)) ?_
      refine XL_cons rfl (X_of_Y0 rfl (E_assign (Bo b5) rfl (by kernel_rfl))) ?_
      refine XL_nil ?_
      kernel_rfl
  refine V_ret ?_
  obtain rfl := some_inj h
  show Post _ _ _ _ _
  exact ⟨.inr rfl, rfl, rfl, rfl⟩
theorem cf_spec_reUnits : ∀ args w, (callFunc 64 args).run Try.prog w = .ok (.enter 64 args) w := run_callFunc Try.func64 (by kernel_rfl) (by kernel_rfl)
set_option maxRecDepth 100000 in
set_option maxHeartbeats 400000 in
theorem s_spec_reUnits {d1 : Int} {r : Int} (h : r_spec_reUnits d1 = some r) : CallS Try.prog 64 [I d1] (I r) [] := by
  refine CallS_of_text (rs := [.t 2]) (vs := [.tmp 2]) Try.func64 rfl rfl (.cons rfl FitsL.nil) (by decide) 8 rfl ?_
  unfold r_spec_reUnits at h
  show V _ _ ⟨[I d1, .bot, .bot, .bot, .bot, .bot, .bot, .bot], []⟩ _
  refine V_sreg [true, false, false, false, false, false, false, false] [] (s1 := ⟨[I d1, .bot, .bot, .bot, .bot, .bot, .bot, .bot], []⟩) ?_ ?_
  · refine XL_cons rfl (X_of_Y0 rfl (E_assign (I 0) rfl (by kernel_rfl))) ?_
    refine XL_nil ?_
    kernel_rfl
  refine V_seq ?_
  refine V_sreg [false, false, false, true, false, false, false, false] [] (s1 := ⟨[.bot, .bot, .bot, I d1, .bot, .bot, .bot, .bot], []⟩) ?_ ?_
  · refine XL_cons rfl (X_of_Y0 rfl (E_move (I d1) rfl (by kernel_rfl))) ?_
    refine XL_nil ?_
    kernel_rfl
  refine V_block ?_
  refine V_sreg [false, false, false, true, true, false, false, false] [] (s1 := ⟨[.bot, .bot, .bot, I d1, Bo (eqI d1 (-3)), .bot, .bot, .bot], []⟩) ?_ ?_
  · refine XL_cons rfl (X_of_Y0 rfl (Y0_eqw (k := .i64) (a := d1) (b := -3) rfl (by kernel_rfl) (by kernel_rfl))) ?_
    refine XL_cons rfl (X_of_Y0 rfl (E_assign (Bo (eqI d1 (-3))) rfl (by kernel_rfl))) ?_
    refine XL_nil ?_
    kernel_rfl
  refine V_cond rfl (fun hc2 => ?_) (fun hc2 => ?_)
  · have h := of_true h hc2
    refine V_sreg [false, false, true, false, false, false, false, false] [] (s1 := ⟨[.bot, .bot, I 6, .bot, .bot, .bot, .bot, .bot], []⟩) ?_ ?_
    · refine XL_cons rfl (X_of_Y0 rfl (E_assign (I 6) rfl (by kernel_rfl))) ?_
      refine XL_nil ?_
      kernel_rfl
    refine V_ret ?_
    obtain rfl := some_inj h
    show Post _ _ _ _ _
    exact ⟨.inr rfl, rfl, rfl, rfl⟩
  · have h := of_false h hc2
    refine V_sreg [false, false, false, false, false, false, true, false] [] (s1 := ⟨[.bot, .bot, .bot, .bot, .bot, .bot, Bo (eqI d1 (-4)), .bot], []⟩) ?_ ?_
    · refine XL_cons rfl (X_of_Y0 rfl (Y0_eqw (k := .i64) (a := d1) (b := -4) rfl (by kernel_rfl) (by kernel_rfl))) ?_
      refine XL_cons rfl (X_of_Y0 rfl (E_assign (Bo (eqI d1 (-4))) rfl (by kernel_rfl))) ?_
      refine XL_nil ?_
      kernel_rfl
    refine V_cond rfl (fun hc3 => ?_) (fun hc3 => ?_)
    · have h := of_true h hc3
      refine V_sreg [false, false, true, false, false, false, false, false] [] (s1 := ⟨[.bot, .bot, I 4, .bot, .bot, .bot, .bot, .bot], []⟩) ?_ ?_
      · refine XL_cons rfl (X_of_Y0 rfl (E_assign (I 4) rfl (by kernel_rfl))) ?_
        refine XL_nil ?_
        kernel_rfl
      refine V_ret ?_
      obtain rfl := some_inj h
      show Post _ _ _ _ _
      exact ⟨.inr rfl, rfl, rfl, rfl⟩
    · have h := of_false h hc3
      refine V_skip ?_
      show V _ _ _ _
      refine V_sreg [false, false, true, false, false, false, false, false] [] (s1 := ⟨[.bot, .bot, I 2, .bot, .bot, .bot, .bot, .bot], []⟩) ?_ ?_
      · refine XL_cons rfl (X_of_Y0 rfl (E_assign (I 2) rfl (by kernel_rfl))) ?_
        refine XL_nil ?_
        kernel_rfl
      refine V_ret ?_
      obtain rfl := some_inj h
      show Post _ _ _ _ _
      exact ⟨.inr rfl, rfl, rfl, rfl⟩
theorem cf_spec_AutomorphCount : ∀ args w, (callFunc 26 args).run Try.prog w = .ok (.enter 26 args) w := run_callFunc Try.func26 (by kernel_rfl) (by kernel_rfl)
set_option maxRecDepth 100000 in
set_option maxHeartbeats 400000 in
theorem s_spec_AutomorphCount {d1 : Int} {r : (Int × Bool)} (h : r_spec_AutomorphCount d1 = some r) : CallS Try.prog 26 [I d1] (.tc (I r.1) (.tc (Bo r.2) .tn)) [] := by
  refine CallS_of_text (rs := [.t 2, .t 3]) (vs := [.tmp 2, .tmp 3]) Try.func26 rfl rfl (.cons rfl (.cons rfl FitsL.nil)) (by decide) 9 rfl ?_
  unfold r_spec_AutomorphCount at h
  show V _ _ ⟨[I d1, .bot, .bot, .bot, .bot, .bot, .bot, .bot, .bot], []⟩ _
  refine V_sreg [true, false, false, false, false, false, false, false, false] [] (s1 := ⟨[I d1, .bot, .bot, .bot, .bot, .bot, .bot, .bot, .bot], []⟩) ?_ ?_
  · refine XL_cons rfl (X_of_Y0 rfl (E_assign (I 0) rfl (by kernel_rfl))) ?_
    refine XL_cons rfl (X_of_Y0 rfl (E_assign (Bo false) rfl (by kernel_rfl))) ?_
    refine XL_nil ?_
    kernel_rfl
  refine V_seq ?_
  obtain ⟨y2, hy2, h⟩ := of_bind h
  refine V_sreg [true, false, false, false, false, false, true, false, false] [] (s1 := ⟨[I d1, .bot, .bot, .bot, .bot, .bot, Bo (!y2), .bot, .bot], []⟩) ?_ ?_
  · refine XL_cons rfl (X_of_Y0 rfl (E_move (I d1) rfl (by kernel_rfl))) ?_
    refine XL_cons rfl (X_of_Y1 rfl (Y1_call (s_spec_reDisc hy2) cf_spec_reDisc rfl (by kernel_rfl))) ?_
    refine XL_cons rfl (X_of_Y0 rfl (Y0_not (b := y2) rfl (by kernel_rfl))) ?_
    refine XL_nil ?_
    kernel_rfl
  refine V_cond rfl (fun hc3 => ?_) (fun hc3 => ?_)
  · have h := of_true h hc3
    refine V_sreg [false, false, true, true, false, false, false, false, false] [] (s1 := ⟨[.bot, .bot, I 0, Bo false, .bot, .bot, .bot, .bot, .bot], []⟩) ?_ ?_
    · refine XL_cons rfl (X_of_Y0 rfl (E_assign (I 0) rfl (by kernel_rfl))) ?_
      refine XL_cons rfl (X_of_Y0 rfl (E_assign (Bo false) rfl (by kernel_rfl))) ?_
      refine XL_nil ?_
      kernel_rfl
    refine V_ret ?_
    obtain rfl := some_inj h
    show Post _ _ _ _ _
    exact ⟨.inr rfl, rfl, rfl, rfl⟩
  · have h := of_false h hc3
    refine V_skip ?_
    show V _ _ _ _
    obtain ⟨y4, hy4, h⟩ := of_bind h
    refine V_sreg [false, false, true, true, false, false, false, false, false] [] (s1 := ⟨[.bot, .bot, I y4, Bo true, .bot, .bot, .bot, .bot, .bot], []⟩) ?_ ?_
    · refine XL_cons rfl (X_of_Y0 rfl (E_move (I d1) rfl (by kernel_rfl))) ?_
      refine XL_cons rfl (X_of_Y1 rfl (Y1_call (s_spec_reUnits hy4) cf_spec_reUnits rfl (by kernel_rfl))) ?_
      refine XL_cons rfl (X_of_Y0 rfl (E_assign (I y4) rfl (by kernel_rfl))) ?_
      refine XL_cons rfl (X_of_Y0 rfl (E_assign (Bo true) rfl (by kernel_rfl))) ?_
      refine XL_nil ?_
      kernel_rfl
    refine V_ret ?_
    obtain rfl := some_inj h
    show Post _ _ _ _ _
    exact ⟨.inr rfl, rfl, rfl, rfl⟩
theorem cf_impl_Form_isNormal : ∀ args w, (callFunc 172 args).run Try.prog w = .ok (.enter 172 args) w := run_callFunc Try.func172 (by kernel_rfl) (by kernel_rfl)
set_option maxRecDepth 100000 in
set_option maxHeartbeats 400000 in
theorem s_impl_Form_isNormal {f1 : (Int × Int × Int)} {r : Bool} (h : r_impl_Form_isNormal f1 = some r) : CallS Try.prog 172 [.ag [Ti f1.1, Ti f1.2.1, Ti f1.2.2]] (Bo r) [] := by
  refine CallS_of_text (rs := [.t 2]) (vs := [.tmp 2]) Try.func172 rfl rfl (.cons rfl FitsL.nil) (by decide) 16 rfl ?_
  unfold r_impl_Form_isNormal at h
  show V _ _ ⟨[.ag [Ti f1.1, Ti f1.2.1, Ti f1.2.2], .bot, .bot, .bot, .bot, .bot, .bot, .bot, .bot, .bot, .bot, .bot, .bot, .bot, .bot, .bot], []⟩ _
  refine V_sreg [false, true, false, false, false, false, false, false, false, false, false, false, false, false, false, false] [8] (s1 := ⟨[.bot, .pt 8 0, .bot, .bot, .bot, .bot, .bot, .bot, .bot, .bot, .bot, .bot, .bot, .bot, .bot, .bot], [(8, .box [Ti f1.1, Ti f1.2.1, Ti f1.2.2])]⟩) ?_ ?_
  · refine XL_cons rfl (X_of_Y1 rfl (Y1_box (cs := [Ti f1.1, Ti f1.2.1, Ti f1.2.2]) rfl (by kernel_rfl))) ?_
    refine XL_cons rfl (X_of_Y0 rfl (E_assign (Bo false) rfl (by kernel_rfl))) ?_
    refine XL_nil ?_
    kernel_rfl
  obtain ⟨t3, ht3, h⟩ := of_bind h
  have ht3 := some_inj ht3
  refine V_sreg [false, false, true, false, false, false, false, false, false, false, false, false, false, false, false, false] [] (s1 := ⟨[.bot, .bot, Bo t3, .bot, .bot, .bot, .bot, .bot, .bot, .bot, .bot, .bot, .bot, .bot, .bot, .bot], []⟩) ?_ ?_
  · refine XL_cons rfl (X_of_Y0 rfl (E_field (.pt 8 0) Try.underlying37 rfl sz3 rfl (by kernel_rfl) (by intro hh; cases hh))) ?_
    refine XL_cons rfl (X_of_Y0 rfl (Y0_load1 (c := Ti f1.1) (cs := [Ti f1.2.1, Ti f1.2.2]) sc3 rfl (by kernel_rfl))) ?_
    refine XL_cons rfl (X_of_Y0 rfl (Y0_neg64 (a := f1.1) rfl (by kernel_rfl))) ?_
    refine XL_cons rfl (X_of_Y0 rfl (E_field (.pt 8 1) Try.underlying37 rfl sz3 rfl (by kernel_rfl) (by intro hh; cases hh))) ?_
    refine XL_cons rfl (X_of_Y0 rfl (Y0_load1 (c := Ti f1.2.1) (cs := [Ti f1.2.2]) sc3 rfl (by kernel_rfl))) ?_
    refine XL_cons rfl (X_of_Y0 rfl (Y0_ltw (k := .i64) (a := w64 (0 - f1.1)) (b := f1.2.1) rfl (by kernel_rfl) (by kernel_rfl))) ?_
    refine XL_cons rfl (X_of_Y0 rfl (E_move (Bo (ltI (w64 (0 - f1.1)) f1.2.1)) rfl (by kernel_rfl))) ?_
    refine XL_split (ltI (w64 (0 - f1.1)) f1.2.1) (fun hc2 => ?_) (fun hc2 => ?_)
    · refine XL_takeC (ltI (w64 (0 - f1.1)) f1.2.1) rfl rfl (by kernel_rfl) hc2 (X_of_Y0 rfl (E_field (.pt 8 1) Try.underlying37 rfl sz3 rfl (by kernel_rfl) (by intro hh; cases hh))) ?_
      refine XL_takeC (ltI (w64 (0 - f1.1)) f1.2.1) rfl rfl (by kernel_rfl) hc2 (X_of_Y0 rfl (Y0_load1 (c := Ti f1.2.1) (cs := [Ti f1.2.2]) sc3 rfl (by kernel_rfl))) ?_
      refine XL_takeC (ltI (w64 (0 - f1.1)) f1.2.1) rfl rfl (by kernel_rfl) hc2 (X_of_Y0 rfl (E_field (.pt 8 0) Try.underlying37 rfl sz3 rfl (by kernel_rfl) (by intro hh; cases hh))) ?_
      refine XL_takeC (ltI (w64 (0 - f1.1)) f1.2.1) rfl rfl (by kernel_rfl) hc2 (X_of_Y0 rfl (Y0_load1 (c := Ti f1.1) (cs := [Ti f1.2.1, Ti f1.2.2]) sc3 rfl (by kernel_rfl))) ?_
      refine XL_takeC (ltI (w64 (0 - f1.1)) f1.2.1) rfl rfl (by kernel_rfl) hc2 (X_of_Y0 rfl (Y0_lew (k := .i64) (a := f1.2.1) (b := f1.1) rfl (by kernel_rfl) (by kernel_rfl))) ?_
      refine XL_cons rfl (X_of_Y0 rfl (Y0_pick1 (b := ltI (w64 (0 - f1.1)) f1.2.1) (p := leI f1.2.1 f1.1) (q := false) rfl (by kernel_rfl) hc2 (by kernel_rfl))) ?_
      refine XL_cons rfl (X_of_Y0 rfl (E_assign (Bo (bif (ltI (w64 (0 - f1.1)) f1.2.1) then (leI f1.2.1 f1.1) else false)) rfl (by kernel_rfl))) ?_
      refine XL_nil ?_
      subst ht3
      kernel_rfl
    · refine XL_skipT (ltI (w64 (0 - f1.1)) f1.2.1) rfl rfl (by kernel_rfl) hc2 rfl ?_
      refine XL_skipT (ltI (w64 (0 - f1.1)) f1.2.1) rfl rfl (by kernel_rfl) hc2 rfl ?_
      refine XL_skipT (ltI (w64 (0 - f1.1)) f1.2.1) rfl rfl (by kernel_rfl) hc2 rfl ?_
      refine XL_skipT (ltI (w64 (0 - f1.1)) f1.2.1) rfl rfl (by kernel_rfl) hc2 rfl ?_
      refine XL_skipT (ltI (w64 (0 - f1.1)) f1.2.1) rfl rfl (by kernel_rfl) hc2 rfl ?_
      refine XL_cons rfl (X_of_Y0 rfl (Y0_pick0 (b := ltI (w64 (0 - f1.1)) f1.2.1) (p := leI f1.2.1 f1.1) (q := false) rfl (by kernel_rfl) hc2 (by kernel_rfl))) ?_
      refine XL_cons rfl (X_of_Y0 rfl (E_assign (Bo (bif (ltI (w64 (0 - f1.1)) f1.2.1) then (leI f1.2.1 f1.1) else false)) rfl (by kernel_rfl))) ?_
      refine XL_nil ?_
      subst ht3
      kernel_rfl
  refine V_ret ?_
  obtain rfl := some_inj h
  show Post _ _ _ _ _
  exact ⟨.inr rfl, rfl, rfl, rfl⟩
theorem cf_impl_Form_isReduced : ∀ args w, (callFunc 155 args).run Try.prog w = .ok (.enter 155 args) w := run_callFunc Try.func155 (by kernel_rfl) (by kernel_rfl)
set_option maxRecDepth 100000 in
set_option maxHeartbeats 400000 in
theorem s_impl_Form_isReduced {f1 : (Int × Int × Int)} {r : Bool} (h : r_impl_Form_isReduced f1 = some r) : CallS Try.prog 155 [.ag [Ti f1.1, Ti f1.2.1, Ti f1.2.2]] (Bo r) [] := by
  refine CallS_of_text (rs := [.t 2]) (vs := [.tmp 2]) Try.func155 rfl rfl (.cons rfl FitsL.nil) (by decide) 24 rfl ?_
  unfold r_impl_Form_isReduced at h
  show V _ _ ⟨[.ag [Ti f1.1, Ti f1.2.1, Ti f1.2.2], .bot, .bot, .bot, .bot, .bot, .bot, .bot, .bot, .bot, .bot, .bot, .bot, .bot, .bot, .bot, .bot, .bot, .bot, .bot, .bot, .bot, .bot, .bot], []⟩ _
  refine V_sreg [false, true, false, false, false, false, false, false, false, false, false, false, false, false, false, false, false, false, false, false, false, false, false, false] [8] (s1 := ⟨[.bot, .pt 8 0, .bot, .bot, .bot, .bot, .bot, .bot, .bot, .bot, .bot, .bot, .bot, .bot, .bot, .bot, .bot, .bot, .bot, .bot, .bot, .bot, .bot, .bot], [(8, .box [Ti f1.1, Ti f1.2.1, Ti f1.2.2])]⟩) ?_ ?_
  · refine XL_cons rfl (X_of_Y1 rfl (Y1_box (cs := [Ti f1.1, Ti f1.2.1, Ti f1.2.2]) rfl (by kernel_rfl))) ?_
    refine XL_cons rfl (X_of_Y0 rfl (E_assign (Bo false) rfl (by kernel_rfl))) ?_
    refine XL_nil ?_
    kernel_rfl
  obtain ⟨y2, hy2, h⟩ := of_bind h
  obtain ⟨t6, ht6, h⟩ := of_bind h
  have ht6 := some_inj ht6
  refine V_sreg [false, false, true, false, false, false, false, false, false, false, false, false, false, false, false, false, false, false, false, false, false, false, false, false] [] (s1 := ⟨[.bot, .bot, Bo t6, .bot, .bot, .bot, .bot, .bot, .bot, .bot, .bot, .bot, .bot, .bot, .bot, .bot, .bot, .bot, .bot, .bot, .bot, .bot, .bot, .bot], []⟩) ?_ ?_
  · refine XL_cons rfl (X_of_Y0 rfl (E_loadn (cs := [Ti f1.1, Ti f1.2.1, Ti f1.2.2]) [Ti f1.1, Ti f1.2.1, Ti f1.2.2] wd37 rfl (by kernel_rfl) (Nat.le_of_ble_eq_true rfl) (by kernel_rfl))) ?_
    refine XL_cons rfl (X_of_Y1 rfl (Y1_call (s_impl_Form_isNormal hy2) cf_impl_Form_isNormal rfl (by kernel_rfl))) ?_
    refine XL_cons rfl (X_of_Y0 rfl (E_move (Bo y2) rfl (by kernel_rfl))) ?_
    refine XL_split y2 (fun hc3 => ?_) (fun hc3 => ?_)
    · refine XL_takeC (y2) rfl rfl (by kernel_rfl) hc3 (X_of_Y0 rfl (E_field (.pt 8 0) Try.underlying37 rfl sz3 rfl (by kernel_rfl) (by intro hh; cases hh))) ?_
      refine XL_takeC (y2) rfl rfl (by kernel_rfl) hc3 (X_of_Y0 rfl (Y0_load1 (c := Ti f1.1) (cs := [Ti f1.2.1, Ti f1.2.2]) sc3 rfl (by kernel_rfl))) ?_
      refine XL_takeC (y2) rfl rfl (by kernel_rfl) hc3 (X_of_Y0 rfl (E_field (.pt 8 2) Try.underlying37 rfl sz3 rfl (by kernel_rfl) (by intro hh; cases hh))) ?_
      refine XL_takeC (y2) rfl rfl (by kernel_rfl) hc3 (X_of_Y0 rfl (Y0_load1 (c := Ti f1.2.2) (cs := []) sc3 rfl (by kernel_rfl))) ?_
      refine XL_takeC (y2) rfl rfl (by kernel_rfl) hc3 (X_of_Y0 rfl (Y0_ltw (k := .i64) (a := f1.1) (b := f1.2.2) rfl (by kernel_rfl) (by kernel_rfl))) ?_
      refine XL_takeC (y2) rfl rfl (by kernel_rfl) hc3 (X_of_Y0 rfl (E_move (Bo (ltI f1.1 f1.2.2)) rfl (by kernel_rfl))) ?_
      refine XL_split (ltI f1.1 f1.2.2) (fun hc4 => ?_) (fun hc4 => ?_)
      · refine XL_skipF (ltI f1.1 f1.2.2) rfl rfl (by kernel_rfl) hc4 rfl ?_
        refine XL_skipF (ltI f1.1 f1.2.2) rfl rfl (by kernel_rfl) hc4 rfl ?_
        refine XL_skipF (ltI f1.1 f1.2.2) rfl rfl (by kernel_rfl) hc4 rfl ?_
        refine XL_skipF (ltI f1.1 f1.2.2) rfl rfl (by kernel_rfl) hc4 rfl ?_
        refine XL_skipF (ltI f1.1 f1.2.2) rfl rfl (by kernel_rfl) hc4 rfl ?_
        refine XL_skipF (ltI f1.1 f1.2.2) rfl rfl (by kernel_rfl) hc4 rfl ?_
        refine XL_skip2 rfl rfl (by kernel_rfl) rfl ?_
        refine XL_skip2 rfl rfl (by kernel_rfl) rfl ?_
        refine XL_skip2 rfl rfl (by kernel_rfl) rfl ?_
        refine XL_skipF (ltI f1.1 f1.2.2) rfl rfl (by kernel_rfl) hc4 rfl ?_
        refine XL_takeC (y2) rfl rfl (by kernel_rfl) hc3 (X_of_Y0 rfl (Y0_pick1 (b := ltI f1.1 f1.2.2) (p := true) (q := bif (eqI f1.1 f1.2.2) then (leI 0 f1.2.1) else false) rfl (by kernel_rfl) hc4 (by kernel_rfl))) ?_
        refine XL_cons rfl (X_of_Y0 rfl (Y0_pick1 (b := y2) (p := bif (ltI f1.1 f1.2.2) then true else (bif (eqI f1.1 f1.2.2) then (leI 0 f1.2.1) else false)) (q := false) rfl (by kernel_rfl) hc3 (by kernel_rfl))) ?_
        refine XL_cons rfl (X_of_Y0 rfl (E_assign (Bo (bif y2 then (bif (ltI f1.1 f1.2.2) then true else (bif (eqI f1.1 f1.2.2) then (leI 0 f1.2.1) else false)) else false)) rfl (by kernel_rfl))) ?_
        refine XL_nil ?_
        subst ht6
        kernel_rfl
      · refine XL_takeC (ltI f1.1 f1.2.2) rfl rfl (by kernel_rfl) hc4 (X_of_Y0 rfl (E_field (.pt 8 0) Try.underlying37 rfl sz3 rfl (by kernel_rfl) (by intro hh; cases hh))) ?_
        refine XL_takeC (ltI f1.1 f1.2.2) rfl rfl (by kernel_rfl) hc4 (X_of_Y0 rfl (Y0_load1 (c := Ti f1.1) (cs := [Ti f1.2.1, Ti f1.2.2]) sc3 rfl (by kernel_rfl))) ?_
        refine XL_takeC (ltI f1.1 f1.2.2) rfl rfl (by kernel_rfl) hc4 (X_of_Y0 rfl (E_field (.pt 8 2) Try.underlying37 rfl sz3 rfl (by kernel_rfl) (by intro hh; cases hh))) ?_
        refine XL_takeC (ltI f1.1 f1.2.2) rfl rfl (by kernel_rfl) hc4 (X_of_Y0 rfl (Y0_load1 (c := Ti f1.2.2) (cs := []) sc3 rfl (by kernel_rfl))) ?_
        refine XL_takeC (ltI f1.1 f1.2.2) rfl rfl (by kernel_rfl) hc4 (X_of_Y0 rfl (Y0_eqw (k := .i64) (a := f1.1) (b := f1.2.2) rfl (by kernel_rfl) (by kernel_rfl))) ?_
        refine XL_takeC (ltI f1.1 f1.2.2) rfl rfl (by kernel_rfl) hc4 (X_of_Y0 rfl (E_move (Bo (eqI f1.1 f1.2.2)) rfl (by kernel_rfl))) ?_
        refine XL_split (eqI f1.1 f1.2.2) (fun hc5 => ?_) (fun hc5 => ?_)
        · refine XL_takeC (eqI f1.1 f1.2.2) rfl rfl (by kernel_rfl) hc5 (X_of_Y0 rfl (E_field (.pt 8 1) Try.underlying37 rfl sz3 rfl (by kernel_rfl) (by intro hh; cases hh))) ?_
          refine XL_takeC (eqI f1.1 f1.2.2) rfl rfl (by kernel_rfl) hc5 (X_of_Y0 rfl (Y0_load1 (c := Ti f1.2.1) (cs := [Ti f1.2.2]) sc3 rfl (by kernel_rfl))) ?_
          refine XL_takeC (eqI f1.1 f1.2.2) rfl rfl (by kernel_rfl) hc5 (X_of_Y0 rfl (Y0_gew (k := .i64) (a := f1.2.1) (b := 0) rfl (by kernel_rfl) (by kernel_rfl))) ?_
          refine XL_takeC (ltI f1.1 f1.2.2) rfl rfl (by kernel_rfl) hc4 (X_of_Y0 rfl (Y0_pick1 (b := eqI f1.1 f1.2.2) (p := leI 0 f1.2.1) (q := false) rfl (by kernel_rfl) hc5 (by kernel_rfl))) ?_
          refine XL_takeC (y2) rfl rfl (by kernel_rfl) hc3 (X_of_Y0 rfl (Y0_pick0 (b := ltI f1.1 f1.2.2) (p := true) (q := bif (eqI f1.1 f1.2.2) then (leI 0 f1.2.1) else false) rfl (by kernel_rfl) hc4 (by kernel_rfl))) ?_
          refine XL_cons rfl (X_of_Y0 rfl (Y0_pick1 (b := y2) (p := bif (ltI f1.1 f1.2.2) then true else (bif (eqI f1.1 f1.2.2) then (leI 0 f1.2.1) else false)) (q := false) rfl (by kernel_rfl) hc3 (by kernel_rfl))) ?_
          refine XL_cons rfl (X_of_Y0 rfl (E_assign (Bo (bif y2 then (bif (ltI f1.1 f1.2.2) then true else (bif (eqI f1.1 f1.2.2) then (leI 0 f1.2.1) else false)) else false)) rfl (by kernel_rfl))) ?_
          refine XL_nil ?_
          subst ht6
          kernel_rfl
        · refine XL_skipT (eqI f1.1 f1.2.2) rfl rfl (by kernel_rfl) hc5 rfl ?_
          refine XL_skipT (eqI f1.1 f1.2.2) rfl rfl (by kernel_rfl) hc5 rfl ?_
          refine XL_skipT (eqI f1.1 f1.2.2) rfl rfl (by kernel_rfl) hc5 rfl ?_
          refine XL_takeC (ltI f1.1 f1.2.2) rfl rfl (by kernel_rfl) hc4 (X_of_Y0 rfl (Y0_pick0 (b := eqI f1.1 f1.2.2) (p := leI 0 f1.2.1) (q := false) rfl (by kernel_rfl) hc5 (by kernel_rfl))) ?_
          refine XL_takeC (y2) rfl rfl (by kernel_rfl) hc3 (X_of_Y0 rfl (Y0_pick0 (b := ltI f1.1 f1.2.2) (p := true) (q := bif (eqI f1.1 f1.2.2) then (leI 0 f1.2.1) else false) rfl (by kernel_rfl) hc4 (by kernel_rfl))) ?_
          refine XL_cons rfl (X_of_Y0 rfl (Y0_pick1 (b := y2) (p := bif (ltI f1.1 f1.2.2) then true else (bif (eqI f1.1 f1.2.2) then (leI 0 f1.2.1) else false)) (q := false) rfl (by kernel_rfl) hc3 (by kernel_rfl))) ?_
          refine XL_cons rfl (X_of_Y0 rfl (E_assign (Bo (bif y2 then (bif (ltI f1.1 f1.2.2) then true else (bif (eqI f1.1 f1.2.2) then (leI 0 f1.2.1) else false)) else false)) rfl (by kernel_rfl))) ?_
          refine XL_nil ?_
          subst ht6
          kernel_rfl
    · refine XL_skipT (y2) rfl rfl (by kernel_rfl) hc3 rfl ?_
      refine XL_skipT (y2) rfl rfl (by kernel_rfl) hc3 rfl ?_
      refine XL_skipT (y2) rfl rfl (by kernel_rfl) hc3 rfl ?_
      refine XL_skipT (y2) rfl rfl (by kernel_rfl) hc3 rfl ?_
      refine XL_skipT (y2) rfl rfl (by kernel_rfl) hc3 rfl ?_
      refine XL_skipT (y2) rfl rfl (by kernel_rfl) hc3 rfl ?_
      refine XL_skip2 rfl rfl (by kernel_rfl) rfl ?_
      refine XL_skip2 rfl rfl (by kernel_rfl) rfl ?_
      refine XL_skip2 rfl rfl (by kernel_rfl) rfl ?_
      refine XL_skip2 rfl rfl (by kernel_rfl) rfl ?_
      refine XL_skip2 rfl rfl (by kernel_rfl) rfl ?_
      refine XL_skip2 rfl rfl (by kernel_rfl) rfl ?_
      refine XL_skip2 rfl rfl (by kernel_rfl) rfl ?_
      refine XL_skip2 rfl rfl (by kernel_rfl) rfl ?_
      refine XL_skip2 rfl rfl (by kernel_rfl) rfl ?_
      refine XL_skip2 rfl rfl (by kernel_rfl) rfl ?_
      refine XL_skipT (y2) rfl rfl (by kernel_rfl) hc3 rfl ?_
      refine XL_cons rfl (X_of_Y0 rfl (Y0_pick0 (b := y2) (p := bif (ltI f1.1 f1.2.2) then true else (bif (eqI f1.1 f1.2.2) then (leI 0 f1.2.1) else false)) (q := false) rfl (by kernel_rfl) hc3 (by kernel_rfl))) ?_
      refine XL_cons rfl (X_of_Y0 rfl (E_assign (Bo (bif y2 then (bif (ltI f1.1 f1.2.2) then true else (bif (eqI f1.1 f1.2.2) then (leI 0 f1.2.1) else false)) else false)) rfl (by kernel_rfl))) ?_
      refine XL_nil ?_
      subst ht6
      kernel_rfl
  refine V_ret ?_
  obtain rfl := some_inj h
  show Post _ _ _ _ _
  exact ⟨.inr rfl, rfl, rfl, rfl⟩
end Go.Proofs.Ytaegamgeljpboaa
