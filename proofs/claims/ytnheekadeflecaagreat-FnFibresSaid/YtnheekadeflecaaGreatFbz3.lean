/-
  Rules of walks, plain functions and their laws, part 3.
  Conditions: none.
-/
import Derived.Test.YtnheekadeflecaaGreatRows
import Derived.Test.YtnheekadeflecaaGreatFbz2
set_option linter.unusedSimpArgs false
set_option linter.unusedVariables false
namespace Go.Proofs.YtnheekadeflecaaGreat
open Go.RowKit
set_option maxRecDepth 100000
set_option maxHeartbeats 400000
def c5 (x : Int) : List Tr := [.v (.int .u8 x)]
def c3 (x : Int) : List Tr := [Ti x]
def c27 (x : (Int × Int × Int)) : List Tr := [Ti x.1, Ti x.2.1, Ti x.2.2]
def c69 (x : (Int × Int × Int)) : List Tr := [Ti x.1, Ti x.2.1, Ti x.2.2]
def zv3 : Value := .int .i64 0
def zv27 : Value := .agg #[.int .i64 0, .int .i64 0, .int .i64 0]
theorem zf27 : (Tryz.prog.info? 27).bind (·.zero) = some zv27 := by kernel_rfl
def zv69 : Value := .agg #[.int .i64 0, .int .i64 0, .int .i64 0]
theorem iz3 : (Tryz.prog.info? 3).map (fun i => (i.zero, i.size)) = some (some zv3, 1) := by kernel_rfl
theorem iz27 : (Tryz.prog.info? 27).map (fun i => (i.zero, i.size)) = some (some zv27, 3) := by kernel_rfl
theorem iz69 : (Tryz.prog.info? 69).map (fun i => (i.zero, i.size)) = some (some zv69, 3) := by kernel_rfl
theorem izb3 : (Tryz.prog.info? 3).map (fun i => (i.zero, i.size, i.bytes)) = some (some zv3, 1, 8) := by kernel_rfl
theorem zKA : (Tryz.prog.info? 27).map (fun i => (i.zero, i.size, i.bytes)) = some (some zv27, 3, 24) := by kernel_rfl
theorem izb69 : (Tryz.prog.info? 69).map (fun i => (i.zero, i.size, i.bytes)) = some (some zv69, 3, 24) := by kernel_rfl
theorem sc3 : zJh Tryz.prog 3 := ⟨_, Tryz.underlying3, rfl⟩
theorem sc63 : zJh Tryz.prog 63 := ⟨_, Tryz.underlying63, rfl⟩
theorem sz3 : (Tryz.prog.info? 3).map (·.size) = some 1 := by kernel_rfl
theorem sz5 : (Tryz.prog.info? 5).map (·.size) = some 1 := by kernel_rfl
theorem sz27 : (Tryz.prog.info? 27).map (·.size) = some 3 := by kernel_rfl
theorem sz63 : (Tryz.prog.info? 63).map (·.size) = some 1 := by kernel_rfl
theorem sz69 : (Tryz.prog.info? 69).map (·.size) = some 3 := by kernel_rfl
theorem wd27 : wide Tryz.prog 27 3 := ⟨⟨_, Tryz.underlying27, rfl⟩, by kernel_rfl⟩
theorem wd57 : wide Tryz.prog 57 4 := ⟨⟨_, Tryz.underlying57, rfl⟩, by kernel_rfl⟩
theorem wd69 : wide Tryz.prog 69 3 := ⟨⟨_, Tryz.underlying69, rfl⟩, by kernel_rfl⟩
def pl27 : Nat → Option (Nat × Nat) := fun i => (#[(0, 1), (1, 1), (2, 1)] : Array (Nat × Nat))[i]?
theorem bt27 : ∀ ps, Tryz.prog.built 27 ps = Instr.fill pl27 #[.int .i64 0, .int .i64 0, .int .i64 0] ps := fun ps => by kernel_rfl
def pl57 : Nat → Option (Nat × Nat) := fun i => (#[(0, 1), (1, 1), (2, 1), (3, 1)] : Array (Nat × Nat))[i]?
theorem bt57 : ∀ ps, Tryz.prog.built 57 ps = Instr.fill pl57 #[.int .i64 0, .int .i64 0, .int .i64 0, .int .i64 0] ps := fun ps => by kernel_rfl
def pl69 : Nat → Option (Nat × Nat) := fun i => (#[(0, 1), (1, 1), (2, 1)] : Array (Nat × Nat))[i]?
theorem bt69 : ∀ ps, Tryz.prog.built 69 ps = Instr.fill pl69 #[.int .i64 0, .int .i64 0, .int .i64 0] ps := fun ps => by kernel_rfl
def pl85 : Nat → Option (Nat × Nat) := fun i => (#[(0, 1), (1, 1), (2, 1)] : Array (Nat × Nat))[i]?
theorem bt85 : ∀ ps, Tryz.prog.built 85 ps = Instr.fill pl85 #[.slice none 0 0, .int .i64 0, .int .u64 0] ps := fun ps => by kernel_rfl
theorem eqg27 : EqAg3 Tryz.prog .eql 27 := by
 intro a0 a1 a2 b0 b1 b2 x y w
 have hg : (eqGuard .eql 27 x y (.agg #[.int .i64 a0, .int .i64 a1, .int .i64 a2]) (.agg #[.int .i64 b0, .int .i64 b1, .int .i64 b2])).run Tryz.prog w = .ok () w := by simp [eqGuard, (by kernel_rfl : Tryz.prog.eqGuardType Tryz.prog.depth 27 = false)]
 have hf : (Tryz.prog.fieldsOf 27).toList = (match Tryz.prog.underlying 27 with | some (.struct fs) => fs.toList | _ => []) := by kernel_rfl
 refine ⟨hg, ?_⟩
 rw [run_eql_struct, run_equalIn_agg (d := 9999) (ht := by kernel_rfl) (hp := by kernel_rfl), hf, Tryz.underlying27]
 by_cases h0 : a0 = b0 <;> by_cases h1 : a1 = b1 <;> by_cases h2 : a2 = b2 <;> simp [Op.eqFields, part, go_sem, h0, h1, h2]
theorem neg27 : EqAg3 Tryz.prog .neq 27 := by
 intro a0 a1 a2 b0 b1 b2 x y w
 have hg : (eqGuard .neq 27 x y (.agg #[.int .i64 a0, .int .i64 a1, .int .i64 a2]) (.agg #[.int .i64 b0, .int .i64 b1, .int .i64 b2])).run Tryz.prog w = .ok () w := by simp [eqGuard, (by kernel_rfl : Tryz.prog.eqGuardType Tryz.prog.depth 27 = false)]
 have hf : (Tryz.prog.fieldsOf 27).toList = (match Tryz.prog.underlying 27 with | some (.struct fs) => fs.toList | _ => []) := by kernel_rfl
 refine ⟨hg, ?_⟩
 rw [run_neq_struct, run_equalIn_agg (d := 9999) (ht := by kernel_rfl) (hp := by kernel_rfl), hf, Tryz.underlying27]
 by_cases h0 : a0 = b0 <;> by_cases h1 : a1 = b1 <;> by_cases h2 : a2 = b2 <;> simp [Op.eqFields, part, go_sem, h0, h1, h2]
noncomputable def lsV (b : Nat) : Value := .func (.func 116) #[] #[.pointer (some ⟨b, 0, none⟩)]
noncomputable def swV (l : Loc) : Value := .func (.func 197) #[] #[zC l, typeHandle Tryz.prog 27]
theorem swX : ∀ args w, (callFunc 197 args).run Tryz.prog w = ((Extern.ReflectliteSwapper.swap false args).run Tryz.prog w).andThen fun v w' => .ok (.value v) w' := fun args w => run_callFunc_extern Tryz.func197 kk kk kk kk args w
theorem agX : ∀ w, (isAgg 27).run Tryz.prog w = .ok true w := fun w => by kernel_rfl
theorem cf_laws_big : CfW Tryz.prog 12 := cfW Tryz.func12
theorem s_laws_big {code1 : List Int} {more2 : List Int} {r : Bool} (h : zCs code1 more2 = some r) : qE Tryz.prog 12 [.c (.sl (code1.map c5)), .c (.sl (more2.map c5))] (Bo r) [] := by
 refine CtW [4] Tryz.func12 rfl rfl 16 ?_
 unfold zCs at h
 refine VE ?_
 obtain ⟨t4, ht4, h⟩ := zA h
 have ht4 := zB ht4
 refine zG (mb 16 16) [] (s1 := ⟨bt 4 (Bo t4 :: bt 11 []), []⟩) ?_ ?_
 ·refine YR 1 ?_
  refine L0 rfl rfl (zBN (c := c5) (xs := code1) Tryz.underlying32 rfl kk) ?_
  refine YR 2 ?_
  refine zU (ltI 1048576 ((code1.length : Int))) (fun hc3 => ?_) (fun hc3 => ?_)
  ·refine YQ hc3 ?_
   exact YE (by rw [← ht4]; (try rw [hc3]); kernel_rfl)
  ·refine YQ hc3 ?_
   refine YR 1 ?_
   refine YT (zD rfl (zBN (c := c5) (xs := more2) Tryz.underlying32 rfl kk)) ?_
   refine YR 1 ?_
   refine YT (zD rfl (zBN (c := c5) (xs := code1) Tryz.underlying32 rfl kk)) ?_
   exact YE (by rw [← ht4]; (try rw [hc3]); kernel_rfl)
 cases h
 exact zM VT
theorem zFU : CfW Tryz.prog 117 := cfW Tryz.func117
theorem zF2 {c1 : ((List Int) × Int × Int)} {r : (Int × (((List Int) × Int × Int)))} (h : zBk c1 = some r) : zEb Tryz.prog 117 [.pt 80000 0] [(80000, .box [.sl (c1.1.map c5), Ti c1.2.1, .v (.int .u64 c1.2.2)])] (I r.1) [] [(80000, .box [.sl (r.2.1.map c5), Ti r.2.2.1, .v (.int .u64 r.2.2.2)])] := by
 refine jP (rs := [.t 2]) (vs := [.tmp 2]) Tryz.func117 rfl rfl (.cons rfl FitsL.nil) (by decide) 62 rfl rfl fun σ => ?_
 unfold zBk at h
 show V _ _ ⟨.pt 80000 0 :: bt 61 [], [(80000, .pbox (σ 80000) [.sl (c1.1.map c5), Ti c1.2.1, .v (.int .u64 c1.2.2)])]⟩ _
 refine VE ?_
 refine VE ?_
 obtain ⟨j2, hj2, h⟩ := zA h
 refine zEj (mb 62 9) [80000] (s1 := ⟨.pt 80000 0 :: .bot :: .bot :: I j2 :: bt 58 [], [(80000, .pbox (σ 80000) [.sl (c1.1.map c5), Ti c1.2.1, .v (.int .u64 c1.2.2)])]⟩) ?_ ?_
 ·clear h
  have h := hj2
  clear hj2
  refine VDS [0, 1, 3, 7, 0, 16, 48, 112, 240, 511] 10 (cdm 10 [174592, 174593, 174597, 174613, 170, 426, 1450, 5546, 21930, 87381]) ?_
  refine ER 1 ?_
  refine E0 1 rfl rfl (zFx (.pt 80000 0) rfl kk (by intro hh; cases hh)) ?_
  refine ER 3 ?_
  refine E0 5 rfl rfl (zFx (.pt 80000 0) rfl kk (by intro hh; cases hh)) ?_
  refine ER 2 ?_
  refine E0 8 rfl rfl (zBN (c := c5) (xs := c1.1) Tryz.underlying32 rfl kk) ?_
  refine EF 1 ?_
  refine VC h (fun h => ?_) (fun h => ?_)
  ·obtain ⟨e4, he4, h⟩ := zA h
   obtain ⟨b5, hb5, h⟩ := zR h
   refine V_dreg [0, 1, 3, 7, 0, 16, 48, 112, 255, 511, 1023, 2047] 12 (cdm 12 [43520, 43521, 43525, 43541, 170, 426, 1450, 5546, 21845, 87381, 349525, 1398101]) (mb 62 9) [80000] (s1 := ⟨.pt 80000 0 :: .bot :: .bot :: I b5 :: bt 58 [], [(80000, .pbox (σ 80000) [.sl (c1.1.map c5), Ti c1.2.1, .v (.int .u64 c1.2.2)])]⟩) kk kk ?_ ?_
   ·refine DR 1 ?_
    refine DE_0 1 (.pt 80000 0) kk rfl rfl rfl (zAi rfl) kk (zFx (.pt 80000 0) rfl kk (by intro hh; cases hh)) 15 rfl ?_
    refine DR 3 ?_
    refine DE_0 5 (.pt 80000 0) kk rfl rfl rfl (zAi rfl) kk (zFx (.pt 80000 0) rfl kk (by intro hh; cases hh)) 19 rfl ?_
    refine DR 2 ?_
    refine DE_0 8 (.pe [.v (.int .u8 e4)]) kk rfl rfl rfl (zAi rfl) kk (zFG (c := c5) (xs := c1.1) (v := e4) (n := c1.2.1) Tryz.underlying32 sz5 rfl kk kk he4) 22 rfl ?_
    refine DR 1 ?_
    refine DE_0 10 (I (IntKind.i64.wrap e4)) kk rfl rfl rfl (zAi rfl) kk (Y0_conv (k2 := .u8) (a := e4) Tryz.underlying5 Tryz.underlying3 rfl kk) 24 rfl ?_
    refine DA 1 ?_
    refine zH ?_
    subst hb5
    kernel_rfl
   obtain rfl := zB h
   show St.keep _ _ _ = _
   kernel_rfl
  ·refine zK ?_
   obtain rfl := zB h
   show St.keep _ _ _ = _
   kernel_rfl
 obtain ⟨f6, hf6, h⟩ := zR h
 refine zG (mb 62 9) [80000] (s1 := ⟨.pt 80000 0 :: .bot :: .bot :: I j2 :: bt 58 [], [(80000, .pbox (σ 80000) [.sl (c1.1.map c5), Ti f6, .v (.int .u64 c1.2.2)])]⟩) ?_ ?_
 ·refine XR 1 ?_
  refine L0 rfl rfl (zFx (.pt 80000 0) rfl kk (by intro hh; cases hh)) ?_
  refine XR 3 ?_
  refine L0 rfl rfl (zFx (.pt 80000 0) rfl kk (by intro hh; cases hh)) ?_
  refine XR 2 ?_
  refine zH ?_
  subst hf6
  kernel_rfl
 obtain ⟨f7, hf7, h⟩ := zR h
 refine zG (mb 62 9) [80000] (s1 := ⟨.pt 80000 0 :: .bot :: .bot :: I j2 :: bt 58 [], [(80000, .pbox (σ 80000) [.sl (c1.1.map c5), Ti f6, .v (.int .u64 f7)])]⟩) ?_ ?_
 ·refine XR 2 ?_
  refine L0 rfl rfl (zFx (.pt 80000 0) rfl kk (by intro hh; cases hh)) ?_
  refine XR 2 ?_
  refine L0 rfl rfl (Y0_mul (k := .u64) (a := c1.2.2) (b := 6364136223846793005) rfl kk kk) ?_
  refine XR 1 ?_
  refine L0 rfl rfl (Y0_conv (k2 := .i64) (a := j2) Tryz.underlying3 Tryz.underlying83 rfl kk) ?_
  refine L0 rfl rfl (Y0_add (k := .u64) (a := IntKind.u64.wrap (c1.2.2 * 6364136223846793005)) (b := IntKind.u64.wrap j2) rfl kk kk) ?_
  refine L0 rfl rfl (Y0_add (k := .u64) (a := IntKind.u64.wrap ((IntKind.u64.wrap (c1.2.2 * 6364136223846793005)) + (IntKind.u64.wrap j2))) (b := 1442695040888963407) rfl kk kk) ?_
  refine L0 rfl rfl (zFx (.pt 80000 0) rfl kk (by intro hh; cases hh)) ?_
  refine XR 2 ?_
  refine zH ?_
  subst hf7
  kernel_rfl
 refine zO ?_
 refine VDS [0, 1, 3, 7, 0, 16, 48, 112, 240, 511] 10 (cdm 10 [174592, 174593, 174597, 174613, 170, 426, 1450, 5546, 21930, 87381]) ?_
 refine ER 1 ?_
 refine E0 1 rfl rfl (zFx (.pt 80000 0) rfl kk (by intro hh; cases hh)) ?_
 refine ER 3 ?_
 refine E0 5 rfl rfl (zFx (.pt 80000 0) rfl kk (by intro hh; cases hh)) ?_
 refine ER 2 ?_
 refine E0 8 rfl rfl (zBN (c := c5) (xs := c1.1) Tryz.underlying32 rfl kk) ?_
 refine EF 1 ?_
 refine VC h (fun h => ?_) (fun h => ?_)
 ·refine VE ?_
  cases h
  exact zM VTR
 ·refine zK ?_
  show V _ _ _ _
  obtain ⟨t9, ht9, h⟩ := zR h
  refine zG (mb 62 4) [80000] (s1 := ⟨.bot :: .bot :: I t9 :: bt 59 [], [(80000, .pbox (σ 80000) [.sl (c1.1.map c5), Ti f6, .v (.int .u64 f7)])]⟩) ?_ ?_
  ·refine XR 1 ?_
   refine L0 rfl rfl (zFx (.pt 80000 0) rfl kk (by intro hh; cases hh)) ?_
   refine XR 2 ?_
   refine L0 rfl rfl (Y0_shr (k := .u64) (k2 := .u64) (a := f7) (b := 40) rfl kk kk (by decide)) ?_
   refine L0 rfl rfl (Y0_and (k := .u64) (a := shrI .u64 f7 40) (b := 255) rfl kk kk) ?_
   refine L0 rfl rfl (Y0_conv (k2 := .u64) (a := andI .u64 (shrI .u64 f7 40) 255) Tryz.underlying83 Tryz.underlying3 rfl kk) ?_
   refine XR 1 ?_
   refine zH ?_
   subst ht9
   kernel_rfl
  cases h
  exact zM VTR
theorem zP : CfW Tryz.prog 60 := cfW Tryz.func60
theorem zS {c1 : ((List Int) × Int × Int)} {vn2 : Int} {r : (Int × (((List Int) × Int × Int)))} (h : zN c1 vn2 = some r) : zEb Tryz.prog 60 [.pt 80000 0, I vn2] [(80000, .box [.sl (c1.1.map c5), Ti c1.2.1, .v (.int .u64 c1.2.2)])] (I r.1) [] [(80000, .box [.sl (r.2.1.map c5), Ti r.2.2.1, .v (.int .u64 r.2.2.2)])] := by
 refine jP (rs := [.t 4]) (vs := [.tmp 4]) Tryz.func60 rfl rfl (.cons rfl FitsL.nil) (by decide) 20 rfl rfl fun σ => ?_
 unfold zN at h
 show V _ _ ⟨.pt 80000 0 :: I vn2 :: bt 18 [], [(80000, .pbox (σ 80000) [.sl (c1.1.map c5), Ti c1.2.1, .v (.int .u64 c1.2.2)])]⟩ _
 refine VE ?_
 refine zO ?_
 refine VE ?_
 refine VC h (fun h => ?_) (fun h => ?_)
 ·refine VE ?_
  cases h
  exact zM VTR
 ·refine zK ?_
  show V _ _ _ _
  obtain ⟨y4, hy4, h⟩ := zA h
  refine VS ?_
  refine YR 1 ?_
  refine zE rfl (qA [(80000, 80000)] 9 (zF2 hy4) zFU rfl rfl kk rfl (zI kk zZ) rfl kk rfl rfl rfl) ?_
  refine YF ?_
  refine zO ?_
  refine VE ?_
  refine VC h (fun h => ?_) (fun h => ?_)
  ·obtain ⟨y6, hy6, h⟩ := zA h
   obtain ⟨x7, hx7, h⟩ := zR h
   refine qS (mb 20 34) [80000] (s1 := ⟨.bot :: I vn2 :: bt 3 (I x7 :: bt 14 []), [(80000, .pbox (σ 80000) [.sl (y6.2.1.map c5), Ti y6.2.2.1, .v (.int .u64 y6.2.2.2)])]⟩) ?_ ?_
   ·refine XR 3 ?_
    refine zE rfl (qA [(80000, 80000)] 15 (zF2 hy6) zFU rfl rfl kk rfl (zI kk zZ) rfl kk rfl rfl rfl) ?_
    refine XR 2 ?_
    refine zH ?_
    subst hx7
    kernel_rfl
   show V _ _ _ _
   obtain ⟨z8, hz8, h⟩ := zA h
   obtain ⟨t9, ht9, h⟩ := zR h
   refine zG (mb 20 16) [80000] (s1 := ⟨bt 4 (I t9 :: bt 15 []), [(80000, .pbox (σ 80000) [.sl (y6.2.1.map c5), Ti y6.2.2.1, .v (.int .u64 y6.2.2.2)])]⟩) ?_ ?_
   ·refine XR 2 ?_
    refine L0 rfl rfl (zCP (k := .i64) (a := x7) (b := vn2) rfl kk kk (jC hz8)) ?_
    refine XR 1 ?_
    refine zH ?_
    subst ht9
    kernel_rfl
   cases h
   exact zM VTR
  ·refine zK ?_
   show V _ _ _ _
   obtain ⟨z10, hz10, h⟩ := zA h
   obtain ⟨t11, ht11, h⟩ := zR h
   refine zG (mb 20 16) [80000] (s1 := ⟨bt 4 (I t11 :: bt 15 []), [(80000, .pbox (σ 80000) [.sl (y4.2.1.map c5), Ti y4.2.2.1, .v (.int .u64 y4.2.2.2)])]⟩) ?_ ?_
   ·refine XR 2 ?_
    refine L0 rfl rfl (zCP (k := .i64) (a := y4.1) (b := vn2) rfl kk kk (jC hz10)) ?_
    refine XR 1 ?_
    refine zH ?_
    subst ht11
    kernel_rfl
   cases h
   exact zM VTR
theorem zDV : CfW Tryz.prog 76 := cfW Tryz.func76
theorem zDe {c1 : ((List Int) × Int × Int)} {vn2 : Int} {r : (Bool × (((List Int) × Int × Int)))} (h : zAs c1 vn2 = some r) : zEb Tryz.prog 76 [.pt 80000 0, I vn2] [(80000, .box [.sl (c1.1.map c5), Ti c1.2.1, .v (.int .u64 c1.2.2)])] (Bo r.1) [] [(80000, .box [.sl (r.2.1.map c5), Ti r.2.2.1, .v (.int .u64 r.2.2.2)])] := by
 refine jP (rs := [.t 4]) (vs := [.tmp 4]) Tryz.func76 rfl rfl (.cons rfl FitsL.nil) (by decide) 9 rfl rfl fun σ => ?_
 unfold zAs at h
 show V _ _ ⟨.pt 80000 0 :: I vn2 :: bt 7 [], [(80000, .pbox (σ 80000) [.sl (c1.1.map c5), Ti c1.2.1, .v (.int .u64 c1.2.2)])]⟩ _
 refine VE ?_
 obtain ⟨y3, hy3, h⟩ := zA h
 refine VS ?_
 refine YR 2 ?_
 refine zE rfl (qA [(80000, 80000)] 7 (zS hy3) zP rfl rfl kk rfl (zI kk zZ) rfl kk rfl rfl rfl) ?_
 refine YF ?_
 cases h
 exact zM VTR
theorem zAc : CfW Tryz.prog 130 := cfW Tryz.func130
theorem zAo {c1 : ((List Int) × Int × Int)} {list2 : List Int} {r : (Int × (((List Int) × Int × Int)))} (h : jF c1 list2 = some r) : zEb Tryz.prog 130 [.pt 80000 0, .c (.sl (list2.map c3))] [(80000, .box [.sl (c1.1.map c5), Ti c1.2.1, .v (.int .u64 c1.2.2)])] (I r.1) [] [(80000, .box [.sl (r.2.1.map c5), Ti r.2.2.1, .v (.int .u64 r.2.2.2)])] := by
 refine jP (rs := [.t 4]) (vs := [.tmp 4]) Tryz.func130 rfl rfl (.cons rfl FitsL.nil) (by decide) 12 rfl rfl fun σ => ?_
 unfold jF at h
 show V _ _ ⟨.pt 80000 0 :: .c (.sl (list2.map c3)) :: bt 10 [], [(80000, .pbox (σ 80000) [.sl (c1.1.map c5), Ti c1.2.1, .v (.int .u64 c1.2.2)])]⟩ _
 refine VE ?_
 obtain ⟨y3, hy3, h⟩ := zA h
 obtain ⟨e4, he4, h⟩ := zA h
 refine VS ?_
 refine YR 3 ?_
 refine L0 rfl rfl (zBN (c := c3) (xs := list2) Tryz.underlying34 rfl kk) ?_
 refine zE rfl (qA [(80000, 80000)] 9 (zS hy3) zP rfl rfl kk rfl (zI kk zZ) rfl kk rfl rfl rfl) ?_
 refine L0 rfl rfl (zFG (c := c3) (xs := list2) (v := e4) (n := y3.1) Tryz.underlying34 sz3 rfl kk kk he4) ?_
 refine YF ?_
 cases h
 exact zM VTR
theorem zDJ : CfW Tryz.prog 137 := cfW Tryz.func137
theorem zDd {a1 : Int} {vm2 : Int} {r : Int} (h : zBE a1 vm2 = some r) : qE Tryz.prog 137 [I a1, I vm2] (I r) [] := by
 refine CtW [4] Tryz.func137 rfl rfl 15 ?_
 unfold zBE at h
 refine VE ?_
 obtain ⟨z3, hz3, h⟩ := zA h
 obtain ⟨vr4, hvr4, h⟩ := zR h
 refine zG (mb 15 34) [] (s1 := ⟨.bot :: I vm2 :: bt 3 (I vr4 :: bt 9 []), []⟩) ?_ ?_
 ·refine XR 2 ?_
  refine L0 rfl rfl (zCP (k := .i64) (a := a1) (b := vm2) rfl kk kk (jC hz3)) ?_
  refine XR 1 ?_
  refine zH ?_
  subst hvr4
  kernel_rfl
 refine zO ?_
 refine VE ?_
 refine VC h (fun h => ?_) (fun h => ?_)
 ·obtain ⟨vr6, hvr6, h⟩ := zR h
  refine qS (mb 15 32) [] (s1 := ⟨bt 5 (I vr6 :: bt 9 []), []⟩) ?_ ?_
  ·refine XR 4 ?_
   refine zH ?_
   subst hvr6
   kernel_rfl
  show V _ _ _ _
  refine VE ?_
  cases h
  exact zM VT
 ·refine zK ?_
  show V _ _ _ _
  refine VE ?_
  cases h
  exact zM VT
theorem zEZ : CfW Tryz.prog 136 := cfW Tryz.func136
theorem zEk {a1 : Int} {b2 : Int} {r : Int} (h : zAk a1 b2 = some r) : qE Tryz.prog 136 [I a1, I b2] (I r) [] := by
 refine CtW [4] Tryz.func136 rfl rfl 10 ?_
 unfold zAk at h
 refine VE ?_
 refine zO ?_
 refine VE ?_
 refine VC h (fun h => ?_) (fun h => ?_)
 ·refine VE ?_
  cases h
  exact zM VT
 ·refine zK ?_
  show V _ _ _ _
  refine VE ?_
  cases h
  exact zM VT
theorem zFV : CfW Tryz.prog 121 := cfW Tryz.func121
theorem zF3 {c1 : ((List Int) × Int × Int)} {r : (Int × (((List Int) × Int × Int)))} (h : zBl c1 = some r) : zEb Tryz.prog 121 [.pt 80000 0] [(80000, .box [.sl (c1.1.map c5), Ti c1.2.1, .v (.int .u64 c1.2.2)])] (I r.1) [] [(80000, .box [.sl (r.2.1.map c5), Ti r.2.2.1, .v (.int .u64 r.2.2.2)])] := by
 refine jP (rs := [.t 2]) (vs := [.tmp 2]) Tryz.func121 rfl rfl (.cons rfl FitsL.nil) (by decide) 42 rfl rfl fun σ => ?_
 unfold zBl at h
 show V _ _ ⟨.pt 80000 0 :: bt 41 [], [(80000, .pbox (σ 80000) [.sl (c1.1.map c5), Ti c1.2.1, .v (.int .u64 c1.2.2)])]⟩ _
 refine VE ?_
 refine zO ?_
 obtain ⟨y2, hy2, h⟩ := zA h
 refine VS ?_
 refine YR 1 ?_
 refine zE rfl (qA [(80000, 80000)] 5 (zS hy2) zP rfl rfl kk rfl (zI kk zZ) rfl kk rfl rfl rfl) ?_
 refine YF ?_
 refine zL ?_
 refine VE ?_
 refine VC h (fun h => ?_) (fun h => ?_)
 ·obtain ⟨y4, hy4, h⟩ := zA h
  refine VS ?_
  refine YR 1 ?_
  refine L1 rfl rfl (zAI (z := zv3) (els := [-3, -4, -2000, -1999, -1996, -1995, -163, -2001, -2003, -2004, 0, 1, 5, -1, -2, -5, -9223372036854775808].map c3) Tryz.underlying34 iz3 rfl (by decide) rfl kk rfl (by simp [c3]) (by decide) (by decide)) ?_
  refine zEi 72 (T := 3) (sz := 1) (els := ([-3, -4, -2000, -1999, -1996, -1995, -163, -2001, -2003, -2004, 0, 1, 5, -1, -2, -5, -9223372036854775808]).map c3) kk rfl ?_
  refine zE rfl (qA [(80000, 80000)] 10 (zAo hy4) zAc rfl rfl kk rfl (zI kk zZ) rfl kk rfl rfl rfl) ?_
  refine YF ?_
  cases h
  exact zM VTR
 ·obtain ⟨j5, hj5, h⟩ := zA h
  refine zEj (mb 42 2081) [80000] (s1 := ⟨.pt 80000 0 :: bt 4 (I y2.1 :: bt 5 (Bo j5 :: bt 30 [])), [(80000, .pbox (σ 80000) [.sl (y2.2.1.map c5), Ti y2.2.2.1, .v (.int .u64 y2.2.2.2)])]⟩) ?_ ?_
  ·clear h
   have h := hj5
   clear hj5
   refine VE ?_
   refine VC h (fun h => ?_) (fun h => ?_)
   ·refine zK ?_
    obtain rfl := zB h
    show St.keep _ _ _ = _
    kernel_rfl
   ·refine jS ?_
    refine YF ?_
    obtain rfl := zB h
    show St.keep _ _ _ = _
    kernel_rfl
  refine VC h (fun h => ?_) (fun h => ?_)
  ·obtain ⟨y8, hy8, h⟩ := zA h
   obtain ⟨d9, hd9, h⟩ := zR h
   refine zG (mb 42 8) [80000] (s1 := ⟨bt 3 (I d9 :: bt 38 []), [(80000, .pbox (σ 80000) [.sl (y8.2.1.map c5), Ti y8.2.2.1, .v (.int .u64 y8.2.2.2)])]⟩) ?_ ?_
   ·refine XR 1 ?_
    refine zE rfl (qA [(80000, 80000)] 15 (zS hy8) zP rfl rfl kk rfl (zI kk zZ) rfl kk rfl rfl rfl) ?_
    refine XR 2 ?_
    refine zH ?_
    subst hd9
    kernel_rfl
   refine zO ?_
   obtain ⟨y10, hy10, h⟩ := zA h
   refine VS ?_
   refine YK 1 (zDd hy10) zDJ ?_
   refine YF ?_
   refine VC h (fun h => ?_) (fun h => ?_)
   ·obtain ⟨y12, hy12, h⟩ := zA h
    refine jS ?_
    refine YK 2 (zEk hy12) zEZ ?_
    refine YF ?_
    show V _ _ _ _
    refine VE ?_
    cases h
    exact zM VTR
   ·refine zK ?_
    show V _ _ _ _
    refine VE ?_
    cases h
    exact zM VTR
  ·obtain ⟨j13, hj13, h⟩ := zA h
   refine zEj (mb 42 16777249) [80000] (s1 := ⟨.pt 80000 0 :: bt 4 (I y2.1 :: bt 18 (Bo j13 :: bt 17 [])), [(80000, .pbox (σ 80000) [.sl (y2.2.1.map c5), Ti y2.2.2.1, .v (.int .u64 y2.2.2.2)])]⟩) ?_ ?_
   ·clear h
    have h := hj13
    clear hj13
    refine VE ?_
    refine VC h (fun h => ?_) (fun h => ?_)
    ·refine zK ?_
     obtain rfl := zB h
     show St.keep _ _ _ = _
     kernel_rfl
    ·refine VE ?_
     refine VC h (fun h => ?_) (fun h => ?_)
     ·refine zK ?_
      obtain rfl := zB h
      show St.keep _ _ _ = _
      kernel_rfl
     ·refine jS ?_
      refine YF ?_
      obtain rfl := zB h
      show St.keep _ _ _ = _
      kernel_rfl
   refine VC h (fun h => ?_) (fun h => ?_)
   ·obtain ⟨y17, hy17, h⟩ := zA h
    refine VS ?_
    refine YR 1 ?_
    refine L1 rfl rfl (zAI (z := zv3) (els := [-84, -420, -231, -260, -455, -520, -660, -1155, -1320, -1380, -1428, -1540, -399, -1092, -1560, -1785].map c3) Tryz.underlying34 iz3 rfl (by decide) rfl kk rfl (by simp [c3]) (by decide) (by decide)) ?_
    refine zEi 232 (T := 3) (sz := 1) (els := ([-84, -420, -231, -260, -455, -520, -660, -1155, -1320, -1380, -1428, -1540, -399, -1092, -1560, -1785]).map c3) kk rfl ?_
    refine zE rfl (qA [(80000, 80000)] 30 (zAo hy17) zAc rfl rfl kk rfl (zI kk zZ) rfl kk rfl rfl rfl) ?_
    refine YF ?_
    cases h
    exact zM VTR
   ·obtain ⟨j18, hj18, h⟩ := zA h
    refine zEj (mb 42 2147483649) [80000] (s1 := ⟨.pt 80000 0 :: bt 30 (Bo j18 :: bt 10 []), [(80000, .pbox (σ 80000) [.sl (y2.2.1.map c5), Ti y2.2.2.1, .v (.int .u64 y2.2.2.2)])]⟩) ?_ ?_
    ·clear h
     have h := hj18
     clear hj18
     refine VE ?_
     refine VC h (fun h => ?_) (fun h => ?_)
     ·refine zK ?_
      obtain rfl := zB h
      show St.keep _ _ _ = _
      kernel_rfl
     ·refine jS ?_
      refine YF ?_
      obtain rfl := zB h
      show St.keep _ _ _ = _
      kernel_rfl
    refine VC h (fun h => ?_) (fun h => ?_)
    ·obtain ⟨y21, hy21, h⟩ := zA h
     obtain ⟨t22, ht22, h⟩ := zR h
     refine zG (mb 42 4) [80000] (s1 := ⟨.bot :: .bot :: I t22 :: bt 39 [], [(80000, .pbox (σ 80000) [.sl (y21.2.1.map c5), Ti y21.2.2.1, .v (.int .u64 y21.2.2.2)])]⟩) ?_ ?_
     ·refine XR 1 ?_
      refine zE rfl (qA [(80000, 80000)] 35 (zS hy21) zP rfl rfl kk rfl (zI kk zZ) rfl kk rfl rfl rfl) ?_
      refine XR 3 ?_
      refine zH ?_
      subst ht22
      kernel_rfl
     cases h
     exact zM VTR
    ·refine zK ?_
     show V _ _ _ _
     obtain ⟨y23, hy23, h⟩ := zA h
     obtain ⟨t24, ht24, h⟩ := zR h
     refine zG (mb 42 4) [80000] (s1 := ⟨.bot :: .bot :: I t24 :: bt 39 [], [(80000, .pbox (σ 80000) [.sl (y23.2.1.map c5), Ti y23.2.2.1, .v (.int .u64 y23.2.2.2)])]⟩) ?_ ?_
     ·refine XR 1 ?_
      refine zE rfl (qA [(80000, 80000)] 39 (zS hy23) zP rfl rfl kk rfl (zI kk zZ) rfl kk rfl rfl rfl) ?_
      refine XR 3 ?_
      refine zH ?_
      subst ht24
      kernel_rfl
     cases h
     exact zM VTR
theorem zGN : CfW Tryz.prog 128 := cfW Tryz.func128
theorem zGc {vn1 : Int} {lo2 : Int} {hi3 : Int} {r : Bool} (h : zCW vn1 lo2 hi3 = some r) : qE Tryz.prog 128 [I vn1, I lo2, I hi3] (Bo r) [] := by
 refine CtW [6] Tryz.func128 rfl rfl 15 ?_
 unfold zCW at h
 refine VE ?_
 refine zG (mb 15 64) [] (s1 := ⟨bt 6 (Bo (bif (leI lo2 vn1) then (leI vn1 hi3) else false) :: bt 8 []), []⟩) ?_ ?_
 ·refine YR 4 ?_
  refine zU (leI lo2 vn1) (fun hc4 => ?_) (fun hc4 => ?_)
  ·refine YQ hc4 ?_
   exact YE (by rw [hc4]; kernel_rfl)
  ·refine YQ hc4 ?_
   exact YE (by rw [hc4]; kernel_rfl)
 cases h
 exact zM VT
theorem zD8 : CfW Tryz.prog 87 := cfW Tryz.func87
theorem zDv {d1 : Int} {r : Bool} (h : zAj d1 = some r) : qE Tryz.prog 87 [I d1] (Bo r) [] := by
 refine CtW [2] Tryz.func87 rfl rfl 10 ?_
 unfold zAj at h
 refine VE ?_
 obtain ⟨y2, hy2, h⟩ := zA h
 obtain ⟨b5, hb5, h⟩ := zA h
 refine zG (mb 10 4) [] (s1 := ⟨.bot :: .bot :: Bo b5 :: bt 7 [], []⟩) ?_ ?_
 ·refine YK 1 (zGc hy2) zGN ?_
  refine YR 1 ?_
  refine zU y2 (fun hc3 => ?_) (fun hc3 => ?_)
  ·have hb5 := zT hb5 hc3
   obtain ⟨y4, hy4, hb5⟩ := zA hb5
   have hb5 := zB hb5
   refine YQ hc3 ?_
   refine YK 1 (zDd hy4) zDJ ?_
   exact YE (by rw [← hb5]; (try rw [hc3]); kernel_rfl)
  ·have hb5 := zB (zJ hb5 hc3)
   refine YQ hc3 ?_
   exact YE (by rw [← hb5]; (try rw [hc3]); kernel_rfl)
 cases h
 exact zM VT
theorem zHC : CfW Tryz.prog 86 := cfW Tryz.func86
theorem zHT {c1 : ((List Int) × Int × Int)} {r : (Int × Int × (((List Int) × Int × Int)))} (h : zBu c1 = some r) : zEb Tryz.prog 86 [.pt 80000 0] [(80000, .box [.sl (c1.1.map c5), Ti c1.2.1, .v (.int .u64 c1.2.2)])] (.tc (I r.1) (.tc (I r.2.1) .tn)) [] [(80000, .box [.sl (r.2.2.1.map c5), Ti r.2.2.2.1, .v (.int .u64 r.2.2.2.2)])] := by
 refine jP (rs := [.t 2, .t 3]) (vs := [.tmp 2, .tmp 3]) Tryz.func86 rfl rfl (.cons rfl (.cons rfl FitsL.nil)) (by decide) 39 rfl rfl fun σ => ?_
 unfold zBu at h
 show V _ _ ⟨.pt 80000 0 :: bt 38 [], [(80000, .pbox (σ 80000) [.sl (c1.1.map c5), Ti c1.2.1, .v (.int .u64 c1.2.2)])]⟩ _
 refine VE ?_
 refine zO ?_
 obtain ⟨y2, hy2, h⟩ := zA h
 refine VS ?_
 refine YR 1 ?_
 refine zE rfl (qA [(80000, 80000)] 8 (zDe hy2) zDV rfl rfl kk rfl (zI kk zZ) rfl kk rfl rfl rfl) ?_
 refine YF ?_
 refine VC h (fun h => ?_) (fun h => ?_)
 ·obtain ⟨y4, hy4, h⟩ := zA h
  obtain ⟨y5, hy5, h⟩ := zA h
  refine VS ?_
  refine YR 1 ?_
  refine zE rfl (qA [(80000, 80000)] 10 (zF3 hy4) zFV rfl rfl kk rfl (zI kk zZ) rfl kk rfl rfl rfl) ?_
  refine YR 1 ?_
  refine L1 rfl rfl (zAI (z := zv3) (els := [2, 3, 5, 1, 0, 4, 1009, 23].map c3) Tryz.underlying34 iz3 rfl (by decide) rfl kk rfl (by simp [c3]) (by decide) (by decide)) ?_
  refine zEi 96 (T := 3) (sz := 1) (els := ([2, 3, 5, 1, 0, 4, 1009, 23]).map c3) kk rfl ?_
  refine zE rfl (qA [(80000, 80000)] 13 (zAo hy5) zAc rfl rfl kk rfl (zI kk zZ) rfl kk rfl rfl rfl) ?_
  refine YF ?_
  cases h
  exact zM VTR
 ·refine zK ?_
  show V _ _ _ _
  obtain ⟨y6, hy6, h⟩ := zA h
  refine VS ?_
  refine YR 1 ?_
  refine L1 rfl rfl (zAI (z := zv3) (els := [2, 2, 3, 3, 5, 7, 11, 13, 19].map c3) Tryz.underlying34 iz3 rfl (by decide) rfl kk rfl (by simp [c3]) (by decide) (by decide)) ?_
  refine zEi 120 (T := 3) (sz := 1) (els := ([2, 2, 3, 3, 5, 7, 11, 13, 19]).map c3) kk rfl ?_
  refine zE rfl (qA [(80000, 80000)] 16 (zAo hy6) zAc rfl rfl kk rfl (zI kk zZ) rfl kk rfl rfl rfl) ?_
  refine YF ?_
  obtain ⟨z7, hz7, h⟩ := zA h
  obtain ⟨most8, hmost8, h⟩ := zR h
  refine zG (mb 39 49) [80000] (s1 := ⟨.pt 80000 0 :: bt 3 (I y6.1 :: I most8 :: bt 33 []), [(80000, .pbox (σ 80000) [.sl (y6.2.1.map c5), Ti y6.2.2.1, .v (.int .u64 y6.2.2.2)])]⟩) ?_ ?_
  ·refine XR 3 ?_
   refine L0 rfl rfl (jJ (a := 2000) (b := w64 (y6.1 * y6.1)) rfl kk kk (jC hz7)) ?_
   refine XR 1 ?_
   refine zH ?_
   subst hmost8
   kernel_rfl
  obtain ⟨y9, hy9, h⟩ := zA h
  obtain ⟨y10, hy10, h⟩ := zA h
  obtain ⟨d11, hd11, h⟩ := zR h
  refine zG (mb 39 81) [80000] (s1 := ⟨.pt 80000 0 :: bt 3 (I y6.1 :: .bot :: I d11 :: bt 32 []), [(80000, .pbox (σ 80000) [.sl (y10.2.1.map c5), Ti y10.2.2.1, .v (.int .u64 y10.2.2.2)])]⟩) ?_ ?_
  ·refine XR 3 ?_
   refine XC (zEk hy9) zEZ rfl rfl rfl ?_
   refine zE rfl (qA [(80000, 80000)] 25 (zS hy10) zP rfl rfl kk rfl (zI kk zZ) rfl kk rfl rfl rfl) ?_
   refine XR 2 ?_
   refine zH ?_
   subst hd11
   kernel_rfl
  refine zO ?_
  obtain ⟨o14, hLo14, h⟩ := zA h
  refine zAz (mb 39 81) [80000] (s1 := ⟨.pt 80000 0 :: bt 3 (I y6.1 :: .bot :: I o14 :: bt 32 []), [(80000, .pbox (σ 80000) [.sl (y10.2.1.map c5), Ti y10.2.2.1, .v (.int .u64 y10.2.2.2)])]⟩) ?_ ?_
  ·clear h
   refine zL (qT (fun n s => ∃ (d12 : Int), s.keep (mb 39 81) [80000] = (⟨.pt 80000 0 :: bt 3 (I y6.1 :: .bot :: I d12 :: bt 32 []), [(80000, .pbox (σ 80000) [.sl (y10.2.1.map c5), Ti y10.2.2.1, .v (.int .u64 y10.2.2.2)])]⟩ : St) ∧ zAS y10 y6 n d12 = some o14) FU ⟨_,  kk, hLo14⟩ ?_)
   clear hLo14
   rintro n s ⟨d12, hs, h⟩
   refine qQ _ _ hs ?_
   clear hs
   cases n with
   | zero => cases h
   | succ n =>
    rw [zAS] at h
    refine zO ?_
    obtain ⟨y15, hy15, h⟩ := zA h
    refine VS ?_
    refine YK 1 (zDv hy15) zD8 ?_
    refine YF ?_
    refine VC h (fun h => ?_) (fun h => ?_)
    ·refine zK ?_
     show V _ _ _ _
     refine zL ?_
     obtain ⟨d17, hd17, h⟩ := zR h
     refine qS (mb 39 81) [80000] (s1 := ⟨.pt 80000 0 :: bt 3 (I y6.1 :: .bot :: I d17 :: bt 32 []), [(80000, .pbox (σ 80000) [.sl (y10.2.1.map c5), Ti y10.2.2.1, .v (.int .u64 y10.2.2.2)])]⟩) ?_ ?_
     ·refine XR 3 ?_
      refine zH ?_
      subst hd17
      kernel_rfl
     exact ⟨n, Nat.lt_succ_self n, _,  kk, h⟩
    ·refine qO ?_
     obtain rfl := zB h
     show St.keep _ _ _ = _
     kernel_rfl
  show V _ _ _ _
  refine zO ?_
  obtain ⟨y18, hy18, h⟩ := zA h
  refine VS ?_
  refine YR 1 ?_
  refine zE rfl (qA [(80000, 80000)] 33 (zDe hy18) zDV rfl rfl kk rfl (zI kk zZ) rfl kk rfl rfl rfl) ?_
  refine YF ?_
  refine VC h (fun h => ?_) (fun h => ?_)
  ·obtain ⟨y20, hy20, h⟩ := zA h
   refine jS ?_
   refine YR 1 ?_
   refine L1 rfl rfl (zAI (z := zv3) (els := [-3, -4].map c3) Tryz.underlying34 iz3 rfl (by decide) rfl kk rfl (by simp [c3]) (by decide) (by decide)) ?_
   refine zEi 280 (T := 3) (sz := 1) (els := ([-3, -4]).map c3) kk rfl ?_
   refine zE rfl (qA [(80000, 80000)] 36 (zAo hy20) zAc rfl rfl kk rfl (zI kk zZ) rfl kk rfl rfl rfl) ?_
   refine YF ?_
   show V _ _ _ _
   refine VE ?_
   cases h
   exact zM VTR
  ·refine zK ?_
   show V _ _ _ _
   refine VE ?_
   cases h
   exact zM VTR
theorem zD9 : CfW Tryz.prog 216 := cfW Tryz.func216
theorem zDo {c1 : ((List Int) × Int × Int)} {r : (Int × (((List Int) × Int × Int)))} (h : zAa c1 = some r) : zEb Tryz.prog 216 [.pt 80000 0] [(80000, .box [.sl (c1.1.map c5), Ti c1.2.1, .v (.int .u64 c1.2.2)])] (I r.1) [] [(80000, .box [.sl (r.2.1.map c5), Ti r.2.2.1, .v (.int .u64 r.2.2.2)])] := by
 refine jP (rs := [.t 2]) (vs := [.tmp 2]) Tryz.func216 rfl rfl (.cons rfl FitsL.nil) (by decide) 32 rfl rfl fun σ => ?_
 unfold zAa at h
 show V _ _ ⟨.pt 80000 0 :: bt 31 [], [(80000, .pbox (σ 80000) [.sl (c1.1.map c5), Ti c1.2.1, .v (.int .u64 c1.2.2)])]⟩ _
 refine VE ?_
 refine zO ?_
 obtain ⟨y2, hy2, h⟩ := zA h
 refine VS ?_
 refine YR 1 ?_
 refine zE rfl (qA [(80000, 80000)] 4 (zS hy2) zP rfl rfl kk rfl (zI kk zZ) rfl kk rfl rfl rfl) ?_
 refine YF ?_
 refine zL ?_
 refine VE ?_
 refine VC h (fun h => ?_) (fun h => ?_)
 ·obtain ⟨y4, hy4, h⟩ := zA h
  refine VS ?_
  refine YR 1 ?_
  refine L1 rfl rfl (zAI (z := zv3) (els := [0, 1, -1, 1000000, -1000000, 1000001, -1000001, -9223372036854775808, 9223372036854775807, 999983, 999999, 1000].map c3) Tryz.underlying34 iz3 rfl (by decide) rfl kk rfl (by simp [c3]) (by decide) (by decide)) ?_
  refine zEi 64 (T := 3) (sz := 1) (els := ([0, 1, -1, 1000000, -1000000, 1000001, -1000001, -9223372036854775808, 9223372036854775807, 999983, 999999, 1000]).map c3) kk rfl ?_
  refine zE rfl (qA [(80000, 80000)] 9 (zAo hy4) zAc rfl rfl kk rfl (zI kk zZ) rfl kk rfl rfl rfl) ?_
  refine YF ?_
  cases h
  exact zM VTR
 ·obtain ⟨j5, hj5, h⟩ := zA h
  refine zEj (mb 32 1041) [80000] (s1 := ⟨.pt 80000 0 :: bt 3 (I y2.1 :: bt 5 (Bo j5 :: bt 21 [])), [(80000, .pbox (σ 80000) [.sl (y2.2.1.map c5), Ti y2.2.2.1, .v (.int .u64 y2.2.2.2)])]⟩) ?_ ?_
  ·clear h
   have h := hj5
   clear hj5
   refine VE ?_
   refine VC h (fun h => ?_) (fun h => ?_)
   ·refine zK ?_
    obtain rfl := zB h
    show St.keep _ _ _ = _
    kernel_rfl
   ·refine jS ?_
    refine YF ?_
    obtain rfl := zB h
    show St.keep _ _ _ = _
    kernel_rfl
  refine VC h (fun h => ?_) (fun h => ?_)
  ·obtain ⟨y8, hy8, h⟩ := zA h
   obtain ⟨y9, hy9, h⟩ := zA h
   obtain ⟨y10, hy10, h⟩ := zA h
   obtain ⟨t11, ht11, h⟩ := zR h
   refine zG (mb 32 4) [80000] (s1 := ⟨.bot :: .bot :: I t11 :: bt 29 [], [(80000, .pbox (σ 80000) [.sl (y10.2.1.map c5), Ti y10.2.2.1, .v (.int .u64 y10.2.2.2)])]⟩) ?_ ?_
   ·refine XR 1 ?_
    refine zE rfl (qA [(80000, 80000)] 14 (zS hy8) zP rfl rfl kk rfl (zI kk zZ) rfl kk rfl rfl rfl) ?_
    refine XR 1 ?_
    refine zE rfl (qA [(80000, 80000)] 16 (zS hy9) zP rfl rfl kk rfl (zI kk zZ) rfl kk rfl rfl rfl) ?_
    refine XR 3 ?_
    refine zE rfl (qA [(80000, 80000)] 20 (zS hy10) zP rfl rfl kk rfl (zI kk zZ) rfl kk rfl rfl rfl) ?_
    refine XR 4 ?_
    refine zH ?_
    subst ht11
    kernel_rfl
   cases h
   exact zM VTR
  ·obtain ⟨j12, hj12, h⟩ := zA h
   refine zEj (mb 32 16777217) [80000] (s1 := ⟨.pt 80000 0 :: bt 23 (Bo j12 :: bt 7 []), [(80000, .pbox (σ 80000) [.sl (y2.2.1.map c5), Ti y2.2.2.1, .v (.int .u64 y2.2.2.2)])]⟩) ?_ ?_
   ·clear h
    have h := hj12
    clear hj12
    refine VE ?_
    refine VC h (fun h => ?_) (fun h => ?_)
    ·refine zK ?_
     obtain rfl := zB h
     show St.keep _ _ _ = _
     kernel_rfl
    ·refine jS ?_
     refine YF ?_
     obtain rfl := zB h
     show St.keep _ _ _ = _
     kernel_rfl
   refine VC h (fun h => ?_) (fun h => ?_)
   ·obtain ⟨y15, hy15, h⟩ := zA h
    refine VS ?_
    refine YR 1 ?_
    refine zE rfl (qA [(80000, 80000)] 28 (zS hy15) zP rfl rfl kk rfl (zI kk zZ) rfl kk rfl rfl rfl) ?_
    refine YF ?_
    cases h
    exact zM VTR
   ·refine zK ?_
    show V _ _ _ _
    obtain ⟨y16, hy16, h⟩ := zA h
    obtain ⟨t17, ht17, h⟩ := zR h
    refine zG (mb 32 4) [80000] (s1 := ⟨.bot :: .bot :: I t17 :: bt 29 [], [(80000, .pbox (σ 80000) [.sl (y16.2.1.map c5), Ti y16.2.2.1, .v (.int .u64 y16.2.2.2)])]⟩) ?_ ?_
    ·refine XR 1 ?_
     refine zE rfl (qA [(80000, 80000)] 30 (zS hy16) zP rfl rfl kk rfl (zI kk zZ) rfl kk rfl rfl rfl) ?_
     refine XR 2 ?_
     refine zH ?_
     subst ht17
     kernel_rfl
    cases h
    exact zM VTR
theorem zHn : CfW Tryz.prog 178 := cfW Tryz.func178
theorem zIF {c1 : ((List Int) × Int × Int)} {r : (((Int × Int × Int)) × (((List Int) × Int × Int)))} (h : zCX c1 = some r) : zEb Tryz.prog 178 [.pt 80000 0] [(80000, .box [.sl (c1.1.map c5), Ti c1.2.1, .v (.int .u64 c1.2.2)])] (.ag [Ti r.1.1, Ti r.1.2.1, Ti r.1.2.2]) [] [(80000, .box [.sl (r.2.1.map c5), Ti r.2.2.1, .v (.int .u64 r.2.2.2)])] := by
 refine jP (rs := [.w 2 3]) (vs := [.cell 2 27]) Tryz.func178 rfl rfl (.cons ⟨rfl, wd27⟩ FitsL.nil) (by decide) 85 rfl rfl fun σ => ?_
 unfold zCX at h
 show V _ _ ⟨.pt 80000 0 :: bt 84 [], [(80000, .pbox (σ 80000) [.sl (c1.1.map c5), Ti c1.2.1, .v (.int .u64 c1.2.2)])]⟩ _
 refine VE ?_
 refine zO ?_
 obtain ⟨y2, hy2, h⟩ := zA h
 refine VS ?_
 refine YR 1 ?_
 refine zE rfl (qA [(80000, 80000)] 8 (zS hy2) zP rfl rfl kk rfl (zI kk zZ) rfl kk rfl rfl rfl) ?_
 refine YF ?_
 refine zL ?_
 refine VE ?_
 refine VC h (fun h => ?_) (fun h => ?_)
 ·obtain ⟨y4, hy4, h⟩ := zA h
  obtain ⟨y5, hy5, h⟩ := zA h
  obtain ⟨y6, hy6, h⟩ := zA h
  refine VS ?_
  refine YR 1 ?_
  refine zE rfl (qA [(80000, 80000)] 12 (zDo hy4) zD9 rfl rfl kk rfl (zI kk zZ) rfl kk rfl rfl rfl) ?_
  refine YR 1 ?_
  refine zE rfl (qA [(80000, 80000)] 14 (zDo hy5) zD9 rfl rfl kk rfl (zI kk zZ) rfl kk rfl rfl rfl) ?_
  refine YR 1 ?_
  refine zE rfl (qA [(80000, 80000)] 16 (zDo hy6) zD9 rfl rfl kk rfl (zI kk zZ) rfl kk rfl rfl rfl) ?_
  refine L0 rfl rfl (qJ (cs := [Ti y4.1, Ti y5.1, Ti y6.1]) pl27 bt27 rfl rfl kk) ?_
  refine YF ?_
  cases h
  exact zM VTR
 ·refine VE ?_
  refine VC h (fun h => ?_) (fun h => ?_)
  ·obtain ⟨y8, hy8, h⟩ := zA h
   refine VS ?_
   refine YR 1 ?_
   refine L1 rfl rfl (zAI (z := zv3) (els := [2, 3, -1, 0, 1000].map c3) Tryz.underlying34 iz3 rfl (by decide) rfl kk rfl (by simp [c3]) (by decide) (by decide)) ?_
   refine zEi 168 (T := 3) (sz := 1) (els := ([2, 3, -1, 0, 1000]).map c3) kk rfl ?_
   refine zE rfl (qA [(80000, 80000)] 22 (zAo hy8) zAc rfl rfl kk rfl (zI kk zZ) rfl kk rfl rfl rfl) ?_
   refine YF ?_
   obtain ⟨y9, hy9, h⟩ := zA h
   obtain ⟨y10, hy10, h⟩ := zA h
   obtain ⟨y11, hy11, h⟩ := zA h
   obtain ⟨f12, hf12, h⟩ := zR h
   obtain ⟨f13, hf13, h⟩ := zR h
   obtain ⟨f14, hf14, h⟩ := zR h
   refine zG (mb 85 4) [16, 80000] (s1 := ⟨.bot :: .bot :: .pt 16 0 :: bt 82 [], [(16, .box [Ti f12, Ti f13, Ti f14]), (80000, .pbox (σ 80000) [.sl (y11.2.1.map c5), Ti y11.2.2.1, .v (.int .u64 y11.2.2.2)])]⟩) ?_ ?_
   ·refine XR 2 ?_
    refine zE rfl (qA [(80000, 80000)] 25 (zS hy9) zP rfl rfl kk rfl (zI kk zZ) rfl kk rfl rfl rfl) ?_
    refine XR 3 ?_
    refine zE rfl (qA [(80000, 80000)] 29 (zS hy10) zP rfl rfl kk rfl (zI kk zZ) rfl kk rfl rfl rfl) ?_
    refine XR 4 ?_
    refine zE rfl (qA [(80000, 80000)] 34 (zS hy11) zP rfl rfl kk rfl (zI kk zZ) rfl kk rfl rfl rfl) ?_
    refine XR 1 ?_
    refine L0 rfl rfl (qJ (cs := [Ti (w64 (y8.1 * y9.1)), Ti (w64 (y8.1 * (w64 (y10.1 - 10)))), Ti (w64 (y8.1 * y11.1))]) pl27 bt27 rfl rfl kk) ?_
    refine XR 1 ?_
    refine zH ?_
    subst hf12 hf13 hf14
    kernel_rfl
   cases h
   exact zM VTR
  ·refine VE ?_
   refine VC h (fun h => ?_) (fun h => ?_)
   ·obtain ⟨y16, hy16, h⟩ := zA h
    obtain ⟨y17, hy17, h⟩ := zA h
    obtain ⟨y18, hy18, h⟩ := zA h
    obtain ⟨f19, hf19, h⟩ := zR h
    refine zG (mb 85 4) [16, 80000] (s1 := ⟨.bot :: .bot :: .pt 16 0 :: bt 82 [], [(16, .box [Ti y16.1, Ti f19, Ti y18.1]), (80000, .pbox (σ 80000) [.sl (y18.2.1.map c5), Ti y18.2.2.1, .v (.int .u64 y18.2.2.2)])]⟩) ?_ ?_
    ·refine XR 1 ?_
     refine zE rfl (qA [(80000, 80000)] 40 (zS hy16) zP rfl rfl kk rfl (zI kk zZ) rfl kk rfl rfl rfl) ?_
     refine XR 1 ?_
     refine zE rfl (qA [(80000, 80000)] 42 (zS hy17) zP rfl rfl kk rfl (zI kk zZ) rfl kk rfl rfl rfl) ?_
     refine XR 2 ?_
     refine zE rfl (qA [(80000, 80000)] 45 (zS hy18) zP rfl rfl kk rfl (zI kk zZ) rfl kk rfl rfl rfl) ?_
     refine L0 rfl rfl (qJ (cs := [Ti y16.1, Ti (w64 (y17.1 - 1500)), Ti y18.1]) pl27 bt27 rfl rfl kk) ?_
     refine XR 1 ?_
     refine zH ?_
     subst hf19
     kernel_rfl
    cases h
    exact zM VTR
   ·refine VE ?_
    refine VC h (fun h => ?_) (fun h => ?_)
    ·obtain ⟨y21, hy21, h⟩ := zA h
     obtain ⟨y22, hy22, h⟩ := zA h
     obtain ⟨y23, hy23, h⟩ := zA h
     obtain ⟨f24, hf24, h⟩ := zR h
     obtain ⟨f25, hf25, h⟩ := zR h
     obtain ⟨f26, hf26, h⟩ := zR h
     refine zG (mb 85 4) [16, 80000] (s1 := ⟨.bot :: .bot :: .pt 16 0 :: bt 82 [], [(16, .box [Ti f24, Ti f25, Ti f26]), (80000, .pbox (σ 80000) [.sl (y23.2.1.map c5), Ti y23.2.2.1, .v (.int .u64 y23.2.2.2)])]⟩) ?_ ?_
     ·refine XR 1 ?_
      refine zE rfl (qA [(80000, 80000)] 50 (zS hy21) zP rfl rfl kk rfl (zI kk zZ) rfl kk rfl rfl rfl) ?_
      refine XR 2 ?_
      refine zE rfl (qA [(80000, 80000)] 53 (zS hy22) zP rfl rfl kk rfl (zI kk zZ) rfl kk rfl rfl rfl) ?_
      refine XR 2 ?_
      refine zE rfl (qA [(80000, 80000)] 56 (zS hy23) zP rfl rfl kk rfl (zI kk zZ) rfl kk rfl rfl rfl) ?_
      refine XR 1 ?_
      refine L0 rfl rfl (qJ (cs := [Ti (w64 (y21.1 - 10)), Ti (w64 (y22.1 - 10)), Ti (w64 (y23.1 - 10))]) pl27 bt27 rfl rfl kk) ?_
      refine XR 1 ?_
      refine zH ?_
      subst hf24 hf25 hf26
      kernel_rfl
     cases h
     exact zM VTR
    ·refine zK ?_
     show V _ _ _ _
     obtain ⟨y27, hy27, h⟩ := zA h
     obtain ⟨y28, hy28, h⟩ := zA h
     obtain ⟨a29, ha29, h⟩ := zR h
     refine zG (mb 85 53) [16, 80000] (s1 := ⟨.pt 80000 0 :: .bot :: .pt 16 0 :: .bot :: I a29 :: I y28.1 :: bt 79 [], [(16, .box [Ti 0, Ti 0, Ti 0]), (80000, .pbox (σ 80000) [.sl (y28.2.1.map c5), Ti y28.2.2.1, .v (.int .u64 y28.2.2.2)])]⟩) ?_ ?_
     ·refine XR 1 ?_
      refine zE rfl (qA [(80000, 80000)] 60 (zS hy27) zP rfl rfl kk rfl (zI kk zZ) rfl kk rfl rfl rfl) ?_
      refine XR 2 ?_
      refine zE rfl (qA [(80000, 80000)] 63 (zS hy28) zP rfl rfl kk rfl (zI kk zZ) rfl kk rfl rfl rfl) ?_
      refine XR 2 ?_
      refine zH ?_
      subst ha29
      kernel_rfl
     obtain ⟨y30, hy30, h⟩ := zA h
     obtain ⟨b31, hb31, h⟩ := zR h
     refine zG (mb 85 116) [16, 80000] (s1 := ⟨.bot :: .bot :: .pt 16 0 :: .bot :: I a29 :: I y28.1 :: I b31 :: bt 78 [], [(16, .box [Ti 0, Ti 0, Ti 0]), (80000, .pbox (σ 80000) [.sl (y30.2.1.map c5), Ti y30.2.2.1, .v (.int .u64 y30.2.2.2)])]⟩) ?_ ?_
     ·refine XR 3 ?_
      refine zE rfl (qA [(80000, 80000)] 67 (zS hy30) zP rfl rfl kk rfl (zI kk zZ) rfl kk rfl rfl rfl) ?_
      refine XR 4 ?_
      refine zH ?_
      subst hb31
      kernel_rfl
     obtain ⟨z32, hz32, h⟩ := zA h
     obtain ⟨f33, hf33, h⟩ := zR h
     refine zG (mb 85 4) [16, 80000] (s1 := ⟨.bot :: .bot :: .pt 16 0 :: bt 82 [], [(16, .box [Ti a29, Ti b31, Ti f33]), (80000, .pbox (σ 80000) [.sl (y30.2.1.map c5), Ti y30.2.2.1, .v (.int .u64 y30.2.2.2)])]⟩) ?_ ?_
     ·refine XR 10 ?_
      refine L0 rfl rfl (jJ (a := w64 ((w64 (b31 * b31)) + (w64 (4 * a29)))) (b := w64 (4 * a29)) rfl kk kk (jC hz32)) ?_
      refine XR 2 ?_
      refine L0 rfl rfl (qJ (cs := [Ti a29, Ti b31, Ti (w64 ((w64 (Int.tdiv (w64 ((w64 (b31 * b31)) + (w64 (4 * a29)))) (w64 (4 * a29)))) + y28.1))]) pl27 bt27 rfl rfl kk) ?_
      refine XR 1 ?_
      refine zH ?_
      subst hf33
      kernel_rfl
     cases h
     exact zM VTR
theorem zCy : CfW Tryz.prog 62 := cfW Tryz.func62
theorem zDK {c1 : ((List Int) × Int × Int)} {r : (Int × (((List Int) × Int × Int)))} (h : zAL c1 = some r) : zEb Tryz.prog 62 [.pt 80000 0] [(80000, .box [.sl (c1.1.map c5), Ti c1.2.1, .v (.int .u64 c1.2.2)])] (I r.1) [] [(80000, .box [.sl (r.2.1.map c5), Ti r.2.2.1, .v (.int .u64 r.2.2.2)])] := by
 refine jP (rs := [.t 2]) (vs := [.tmp 2]) Tryz.func62 rfl rfl (.cons rfl FitsL.nil) (by decide) 10 rfl rfl fun σ => ?_
 unfold zAL at h
 show V _ _ ⟨.pt 80000 0 :: bt 9 [], [(80000, .pbox (σ 80000) [.sl (c1.1.map c5), Ti c1.2.1, .v (.int .u64 c1.2.2)])]⟩ _
 refine VE ?_
 obtain ⟨y2, hy2, h⟩ := zA h
 refine VS ?_
 refine YR 1 ?_
 refine zE rfl (qA [(80000, 80000)] 5 (zF3 hy2) zFV rfl rfl kk rfl (zI kk zZ) rfl kk rfl rfl rfl) ?_
 refine YF ?_
 refine zO ?_
 obtain ⟨y3, hy3, h⟩ := zA h
 refine VS ?_
 refine YK 1 (zDv hy3) zD8 ?_
 refine YF ?_
 refine VC h (fun h => ?_) (fun h => ?_)
 ·refine VE ?_
  cases h
  exact zM VTR
 ·refine zK ?_
  show V _ _ _ _
  refine VE ?_
  cases h
  exact zM VTR
theorem zCl : CfW Tryz.prog 41 := cfW Tryz.func41
theorem zDG {f1 : (Int × Int × Int)} {r : Int} (h : jD f1 = some r) : qE Tryz.prog 41 [.ag [Ti f1.1, Ti f1.2.1, Ti f1.2.2]] (I r) [] := by
 refine CtW [2] Tryz.func41 rfl rfl 15 ?_
 unfold jD at h
 refine VE ?_
 obtain ⟨t2, ht2, h⟩ := zR h
 refine zG (mb 15 4) [] (s1 := ⟨.bot :: .bot :: I t2 :: bt 12 [], []⟩) ?_ ?_
 ·refine XR 13 ?_
  refine zH ?_
  subst ht2
  kernel_rfl
 cases h
 exact zM VT
theorem zGM : CfW Tryz.prog 157 := cfW Tryz.func157
theorem zGb {f1 : (Int × Int × Int)} {r : Bool} (h : zCn f1 = some r) : qE Tryz.prog 157 [.ag [Ti f1.1, Ti f1.2.1, Ti f1.2.2]] (Bo r) [] := by
  refine qI (rs := [.t 2]) (vs := [.tmp 2]) Tryz.func157 rfl rfl (.cons rfl FitsL.nil) (by decide) 35 rfl ?_
  unfold zCn at h
  show V _ _ ⟨.ag [Ti f1.1, Ti f1.2.1, Ti f1.2.2] :: bt 34 [], []⟩ _
  refine V_e (mb 35 2) [8] (s1 := ⟨.bot :: .pt 8 0 :: bt 33 [], [(8, .box [Ti f1.1, Ti f1.2.1, Ti f1.2.2])]⟩) ?_
  obtain ⟨t6, ht6, h⟩ := zA h
  have ht6 := zB ht6
  refine zG (mb 35 4) [] (s1 := ⟨.bot :: .bot :: Bo t6 :: bt 32 [], []⟩) ?_ ?_
  ·refine XR 7 ?_
   refine zGS 6 (s1 := ⟨.bot :: .pt 8 0 :: .bot :: .pt 8 0 :: I f1.1 :: I (w64 (0 - f1.1)) :: .pt 8 1 :: I f1.2.1 :: Bo (ltI (w64 (0 - f1.1)) f1.2.1) :: Bo (ltI (w64 (0 - f1.1)) f1.2.1) :: bt 5 (Bo (bif (ltI (w64 (0 - f1.1)) f1.2.1) then (leI f1.2.1 f1.1) else false) :: bt 19 []), [(8, .box [Ti f1.1, Ti f1.2.1, Ti f1.2.2])]⟩) (fun hT => ?_) ?_
   ·refine zU (ltI (w64 (0 - f1.1)) f1.2.1) (fun hc2 => ?_) (fun hc2 => ?_)
    ·refine zF _ rfl rfl kk hc2 (zD rfl (zCM (.pt 8 1) Tryz.underlying27 rfl sz3 rfl kk (by intro hh; cases hh))) ?_
     refine zF _ rfl rfl kk hc2 (zD rfl (zBM (c := Ti f1.2.1) (cs := [Ti f1.2.2]) sc3 rfl kk)) ?_
     refine zF _ rfl rfl kk hc2 (zD rfl (zCM (.pt 8 0) Tryz.underlying27 rfl sz3 rfl kk (by intro hh; cases hh))) ?_
     refine zF _ rfl rfl kk hc2 (zD rfl (zBM (c := Ti f1.1) (cs := [Ti f1.2.1, Ti f1.2.2]) sc3 rfl kk)) ?_
     refine zF _ rfl rfl kk hc2 (zD rfl (Y0_lew (k := .i64) (a := f1.2.1) (b := f1.1) rfl kk kk)) ?_
     refine zE rfl (zD rfl (zBL (b := ltI (w64 (0 - f1.1)) f1.2.1) (p := leI f1.2.1 f1.1) (q := false) rfl kk hc2 kk)) ?_
     exact zFd (mb 35 33786) [8] kk hT
    ·refine zV _ rfl rfl kk hc2 rfl ?_
     refine zV _ rfl rfl kk hc2 rfl ?_
     refine zV _ rfl rfl kk hc2 rfl ?_
     refine zV _ rfl rfl kk hc2 rfl ?_
     refine zV _ rfl rfl kk hc2 rfl ?_
     refine zE rfl (zD rfl (zBZ (b := ltI (w64 (0 - f1.1)) f1.2.1) (p := leI f1.2.1 f1.1) (q := false) rfl kk hc2 kk)) ?_
     exact zFd (mb 35 33786) [8] kk hT
   refine XR 1 ?_
   refine zU (bif (ltI (w64 (0 - f1.1)) f1.2.1) then (leI f1.2.1 f1.1) else false) (fun hc3 => ?_) (fun hc3 => ?_)
   ·refine zF _ rfl rfl kk hc3 (zD rfl (zCM (.pt 8 0) Tryz.underlying27 rfl sz3 rfl kk (by intro hh; cases hh))) ?_
    refine zF _ rfl rfl kk hc3 (zD rfl (zBM (c := Ti f1.1) (cs := [Ti f1.2.1, Ti f1.2.2]) sc3 rfl kk)) ?_
    refine zF _ rfl rfl kk hc3 (zD rfl (zCM (.pt 8 2) Tryz.underlying27 rfl sz3 rfl kk (by intro hh; cases hh))) ?_
    refine zF _ rfl rfl kk hc3 (zD rfl (zBM (c := Ti f1.2.2) (cs := []) sc3 rfl kk)) ?_
    refine zF _ rfl rfl kk hc3 (zD rfl (Y0_ltw (k := .i64) (a := f1.1) (b := f1.2.2) rfl kk kk)) ?_
    refine zF _ rfl rfl kk hc3 (zD rfl (qU (Bo (ltI f1.1 f1.2.2)) rfl kk)) ?_
    refine zU (ltI f1.1 f1.2.2) (fun hc4 => ?_) (fun hc4 => ?_)
    ·refine qD _ rfl rfl kk hc4 rfl ?_
     refine qD _ rfl rfl kk hc4 rfl ?_
     refine qD _ rfl rfl kk hc4 rfl ?_
     refine qD _ rfl rfl kk hc4 rfl ?_
     refine qD _ rfl rfl kk hc4 rfl ?_
     refine qD _ rfl rfl kk hc4 rfl ?_
     refine zC8 rfl rfl kk rfl ?_
     refine zC8 rfl rfl kk rfl ?_
     refine zC8 rfl rfl kk rfl ?_
     refine qD _ rfl rfl kk hc4 rfl ?_
     refine zF _ rfl rfl kk hc3 (zD rfl (zBL (b := ltI f1.1 f1.2.2) (p := true) (q := bif (eqI f1.1 f1.2.2) then (leI 0 f1.2.1) else false) rfl kk hc4 kk)) ?_
     refine zE rfl (zD rfl (zBL (b := bif (ltI (w64 (0 - f1.1)) f1.2.1) then (leI f1.2.1 f1.1) else false) (p := bif (ltI f1.1 f1.2.2) then true else (bif (eqI f1.1 f1.2.2) then (leI 0 f1.2.1) else false)) (q := false) rfl kk hc3 kk)) ?_
     refine XR 1 ?_
     refine zH ?_
     subst ht6
     kernel_rfl
    ·refine zF _ rfl rfl kk hc4 (zD rfl (zCM (.pt 8 0) Tryz.underlying27 rfl sz3 rfl kk (by intro hh; cases hh))) ?_
     refine zF _ rfl rfl kk hc4 (zD rfl (zBM (c := Ti f1.1) (cs := [Ti f1.2.1, Ti f1.2.2]) sc3 rfl kk)) ?_
     refine zF _ rfl rfl kk hc4 (zD rfl (zCM (.pt 8 2) Tryz.underlying27 rfl sz3 rfl kk (by intro hh; cases hh))) ?_
     refine zF _ rfl rfl kk hc4 (zD rfl (zBM (c := Ti f1.2.2) (cs := []) sc3 rfl kk)) ?_
     refine zF _ rfl rfl kk hc4 (zD rfl (zJG (k := .i64) (a := f1.1) (b := f1.2.2) rfl kk kk)) ?_
     refine zF _ rfl rfl kk hc4 (zD rfl (qU (Bo (eqI f1.1 f1.2.2)) rfl kk)) ?_
     refine zU (eqI f1.1 f1.2.2) (fun hc5 => ?_) (fun hc5 => ?_)
     ·refine zF _ rfl rfl kk hc5 (zD rfl (zCM (.pt 8 1) Tryz.underlying27 rfl sz3 rfl kk (by intro hh; cases hh))) ?_
      refine zF _ rfl rfl kk hc5 (zD rfl (zBM (c := Ti f1.2.1) (cs := [Ti f1.2.2]) sc3 rfl kk)) ?_
      refine zF _ rfl rfl kk hc5 (zD rfl (Y0_gew (k := .i64) (a := f1.2.1) (b := 0) rfl kk kk)) ?_
      refine zF _ rfl rfl kk hc4 (zD rfl (zBL (b := eqI f1.1 f1.2.2) (p := leI 0 f1.2.1) (q := false) rfl kk hc5 kk)) ?_
      refine zF _ rfl rfl kk hc3 (zD rfl (zBZ (b := ltI f1.1 f1.2.2) (p := true) (q := bif (eqI f1.1 f1.2.2) then (leI 0 f1.2.1) else false) rfl kk hc4 kk)) ?_
      refine zE rfl (zD rfl (zBL (b := bif (ltI (w64 (0 - f1.1)) f1.2.1) then (leI f1.2.1 f1.1) else false) (p := bif (ltI f1.1 f1.2.2) then true else (bif (eqI f1.1 f1.2.2) then (leI 0 f1.2.1) else false)) (q := false) rfl kk hc3 kk)) ?_
      refine XR 1 ?_
      refine zH ?_
      subst ht6
      kernel_rfl
     ·refine zV _ rfl rfl kk hc5 rfl ?_
      refine zV _ rfl rfl kk hc5 rfl ?_
      refine zV _ rfl rfl kk hc5 rfl ?_
      refine zF _ rfl rfl kk hc4 (zD rfl (zBZ (b := eqI f1.1 f1.2.2) (p := leI 0 f1.2.1) (q := false) rfl kk hc5 kk)) ?_
      refine zF _ rfl rfl kk hc3 (zD rfl (zBZ (b := ltI f1.1 f1.2.2) (p := true) (q := bif (eqI f1.1 f1.2.2) then (leI 0 f1.2.1) else false) rfl kk hc4 kk)) ?_
      refine zE rfl (zD rfl (zBL (b := bif (ltI (w64 (0 - f1.1)) f1.2.1) then (leI f1.2.1 f1.1) else false) (p := bif (ltI f1.1 f1.2.2) then true else (bif (eqI f1.1 f1.2.2) then (leI 0 f1.2.1) else false)) (q := false) rfl kk hc3 kk)) ?_
      refine XR 1 ?_
      refine zH ?_
      subst ht6
      kernel_rfl
   ·refine zV _ rfl rfl kk hc3 rfl ?_
    refine zV _ rfl rfl kk hc3 rfl ?_
    refine zV _ rfl rfl kk hc3 rfl ?_
    refine zV _ rfl rfl kk hc3 rfl ?_
    refine zV _ rfl rfl kk hc3 rfl ?_
    refine zV _ rfl rfl kk hc3 rfl ?_
    refine zC8 rfl rfl kk rfl ?_
    refine zC8 rfl rfl kk rfl ?_
    refine zC8 rfl rfl kk rfl ?_
    refine zC8 rfl rfl kk rfl ?_
    refine zC8 rfl rfl kk rfl ?_
    refine zC8 rfl rfl kk rfl ?_
    refine zC8 rfl rfl kk rfl ?_
    refine zC8 rfl rfl kk rfl ?_
    refine zC8 rfl rfl kk rfl ?_
    refine zC8 rfl rfl kk rfl ?_
    refine zV _ rfl rfl kk hc3 rfl ?_
    refine zE rfl (zD rfl (zBZ (b := bif (ltI (w64 (0 - f1.1)) f1.2.1) then (leI f1.2.1 f1.1) else false) (p := bif (ltI f1.1 f1.2.2) then true else (bif (eqI f1.1 f1.2.2) then (leI 0 f1.2.1) else false)) (q := false) rfl kk hc3 kk)) ?_
    refine XR 1 ?_
    refine zH ?_
    subst ht6
    kernel_rfl
  refine zM ?_
  obtain rfl := zB h
  show Post _ _ _ _ _
  exact ⟨.inr rfl, rfl, rfl, rfl⟩
theorem cf_spec_reAll : CfW Tryz.prog 104 := cfW Tryz.func104
theorem s_spec_reAll {d1 : Int} {r : List ((Int × Int × Int))} (h : zDf d1 = some r) : qE Tryz.prog 104 [I d1] (.ow 0) [(0, .arr 27 3 (r.map c27))] := by
 refine CtW [2] Tryz.func104 rfl rfl 47 ?_
 unfold zDf at h
 refine VS ?_
 refine L1 rfl rfl (zDB (e := 27) 3 (by decide) (.inl rfl)) ?_
 refine YF ?_
 refine VS ?_
 refine L1 rfl rfl (zDB (e := 27) 3 (by decide) (.inl rfl)) ?_
 refine YF ?_
 refine zO ?_
 refine VE ?_
 obtain ⟨o5, hLo5, h⟩ := zA h
 refine zAz (mb 47 8) [24] (s1 := ⟨bt 3 (.ow 24 :: bt 43 []), [(24, .arr 27 3 (o5.map c27))]⟩) ?_ ?_
 ·clear h
  refine zL (qT (fun n s => ∃ (a2 : Int) (l3 : List ((Int × Int × Int))), s.keep (mb 47 25) [24] = (⟨I d1 :: .bot :: .bot :: .ow 24 :: I a2 :: bt 42 [], [(24, .arr 27 3 (l3.map c27))]⟩ : St) ∧ zBQ d1 n a2 l3 = some o5) FU ⟨_, _,  kk, hLo5⟩ ?_)
  clear hLo5
  rintro n s ⟨a2, l3, hs, h⟩
  refine qQ _ _ hs ?_
  clear hs
  cases n with
  | zero => cases h
  | succ n =>
   rw [zBQ] at h
   refine zO ?_
   refine VE ?_
   refine VC h (fun h => ?_) (fun h => ?_)
   ·refine zK ?_
    show V _ _ _ _
    refine zO ?_
    refine zL ?_
    obtain ⟨b7, hb7, h⟩ := zR h
    refine zG (mb 47 57) [24] (s1 := ⟨I d1 :: .bot :: .bot :: .ow 24 :: I a2 :: I b7 :: bt 41 [], [(24, .arr 27 3 (l3.map c27))]⟩) ?_ ?_
    ·refine XR 3 ?_
     refine zH ?_
     subst hb7
     kernel_rfl
    obtain ⟨o11, hLo11, h⟩ := zA h
    refine zAz (mb 47 25) [24] (s1 := ⟨I d1 :: .bot :: .bot :: .ow 24 :: I a2 :: bt 42 [], [(24, .arr 27 3 (o11.map c27))]⟩) ?_ ?_
    ·clear h
     refine zL (qT (fun n s => ∃ (b8 : Int) (l9 : List ((Int × Int × Int))), s.keep (mb 47 57) [24] = (⟨I d1 :: .bot :: .bot :: .ow 24 :: I a2 :: I b8 :: bt 41 [], [(24, .arr 27 3 (l9.map c27))]⟩ : St) ∧ zAr a2 d1 n b8 l9 = some o11) FU ⟨_, _,  kk, hLo11⟩ ?_)
     clear hLo11
     rintro n s ⟨b8, l9, hs, h⟩
     refine qQ _ _ hs ?_
     clear hs
     cases n with
     | zero => cases h
     | succ n =>
      rw [zAr] at h
      refine zO ?_
      refine VE ?_
      refine VC h (fun h => ?_) (fun h => ?_)
      ·refine zK ?_
       show V _ _ _ _
       refine zO ?_
       refine zL ?_
       obtain ⟨z13, hz13, h⟩ := zA h
       obtain ⟨f14, hf14, h⟩ := zR h
       refine zG (mb 47 121) [48, 24] (s1 := ⟨I d1 :: .bot :: .bot :: .ow 24 :: I a2 :: I b8 :: .pt 48 0 :: bt 40 [], [(48, .box [Ti a2, Ti b8, Ti f14]), (24, .arr 27 3 (l9.map c27))]⟩) ?_ ?_
       ·refine XR 9 ?_
        refine L0 rfl rfl (jJ (a := w64 ((w64 (b8 * b8)) - d1)) (b := w64 (4 * a2)) rfl kk kk (jC hz13)) ?_
        refine L0 rfl rfl (qJ (cs := [Ti a2, Ti b8, Ti (w64 (Int.tdiv (w64 ((w64 (b8 * b8)) - d1)) (w64 (4 * a2))))]) pl27 bt27 rfl rfl kk) ?_
        refine XR 2 ?_
        refine zH ?_
        subst hf14
        kernel_rfl
       obtain ⟨y15, hy15, h⟩ := zA h
       obtain ⟨b18, hb18, h⟩ := zA h
       refine zG (mb 47 2199023255673) [48, 24] (s1 := ⟨I d1 :: .bot :: .bot :: .ow 24 :: I a2 :: I b8 :: .pt 48 0 :: bt 34 (Bo b18 :: bt 5 []), [(48, .box [Ti a2, Ti b8, Ti f14]), (24, .arr 27 3 (l9.map c27))]⟩) ?_ ?_
       ·refine YK 1 (zDG hy15) zCl ?_
        refine YR 3 ?_
        refine zU (eqI y15 d1) (fun hc16 => ?_) (fun hc16 => ?_)
        ·have hb18 := zT hb18 hc16
         obtain ⟨y17, hy17, hb18⟩ := zA hb18
         have hb18 := zB hb18
         refine YQ hc16 ?_
         refine YK 1 (zGb hy17) zGM ?_
         exact YE (by rw [← hb18]; (try rw [hc16]); kernel_rfl)
        ·have hb18 := zB (zJ hb18 hc16)
         refine YQ hc16 ?_
         exact YE (by rw [← hb18]; (try rw [hc16]); kernel_rfl)
       refine VC h (fun h => ?_) (fun h => ?_)
       ·obtain ⟨u20, hu20, h⟩ := zA h
        refine jS ?_
        refine YR 2 ?_
        refine L1 rfl rfl (zAI (z := zv27) (els := [(a2, b8, f14)].map c27) Tryz.underlying24 iz27 rfl (by decide) rfl kk rfl (by simp [c27]) (by decide) (by decide)) ?_
        refine zE rfl (zCm (c := c27) (xs := l9) (ys := [(a2, b8, f14)]) (id := 24) (z := zv27) rfl rfl Tryz.underlying24 zKA rfl kk kk kk (fun _ => rfl) (by simp) (zCg hu20) (by decide)) ?_
        refine YF ?_
        show V _ _ _ _
        obtain ⟨b21, hb21, h⟩ := zR h
        refine qS (mb 47 57) [24] (s1 := ⟨I d1 :: .bot :: .bot :: .ow 24 :: I a2 :: I b21 :: bt 41 [], [(24, .arr 27 3 ((l9 ++ ([(a2, b8, f14)])).map c27))]⟩) ?_ ?_
        ·refine XR 3 ?_
         refine zH ?_
         subst hb21
         kernel_rfl
        exact ⟨n, Nat.lt_succ_self n, _, _,  kk, h⟩
       ·refine zK ?_
        show V _ _ _ _
        obtain ⟨b22, hb22, h⟩ := zR h
        refine qS (mb 47 57) [24] (s1 := ⟨I d1 :: .bot :: .bot :: .ow 24 :: I a2 :: I b22 :: bt 41 [], [(24, .arr 27 3 (l9.map c27))]⟩) ?_ ?_
        ·refine XR 3 ?_
         refine zH ?_
         subst hb22
         kernel_rfl
        exact ⟨n, Nat.lt_succ_self n, _, _,  kk, h⟩
      ·refine qO ?_
       obtain rfl := zB h
       show St.keep _ _ _ = _
       kernel_rfl
    show V _ _ _ _
    obtain ⟨a23, ha23, h⟩ := zR h
    refine qS (mb 47 25) [24] (s1 := ⟨I d1 :: .bot :: .bot :: .ow 24 :: I a23 :: bt 42 [], [(24, .arr 27 3 (o11.map c27))]⟩) ?_ ?_
    ·refine XR 3 ?_
     refine zH ?_
     subst ha23
     kernel_rfl
    exact ⟨n, Nat.lt_succ_self n, _, _,  kk, h⟩
   ·refine qO ?_
    obtain rfl := zB h
    show St.keep _ _ _ = _
    kernel_rfl
 show V _ _ _ _
 refine VE ?_
 cases h
 exact zM VT
theorem zFl : CfW Tryz.prog 162 := cfW Tryz.func162
theorem zGC {vn1 : Int} {r : Int} (h : zCq vn1 = some r) : qE Tryz.prog 162 [I vn1] (I r) [] := by
 refine CtW [2] Tryz.func162 rfl rfl 7 ?_
 unfold zCq at h
 refine VE ?_
 obtain ⟨y2, hy2, h⟩ := zA h
 refine VS ?_
 refine YK 3 (zEk hy2) zEZ ?_
 refine YF ?_
 cases h
 exact zM VT
theorem zDz : CfW Tryz.prog 108 := cfW Tryz.func108
theorem zEQ {a1 : Int} {b2 : Int} {r : Int} (h : zBF a1 b2 = some r) : qE Tryz.prog 108 [I a1, I b2] (I r) [] := by
 refine CtW [4] Tryz.func108 rfl rfl 16 ?_
 unfold zBF at h
 refine VE ?_
 obtain ⟨y3, hy3, h⟩ := zA h
 obtain ⟨y4, hy4, h⟩ := zA h
 refine VS ?_
 refine YK 1 (zGC hy3) zFl ?_
 refine YK 1 (zGC hy4) zFl ?_
 refine YF ?_
 refine zO ?_
 obtain ⟨o8, hLo8, h⟩ := zA h
 refine zAz (mb 16 1) [] (s1 := ⟨I o8 :: bt 15 [], []⟩) ?_ ?_
 ·clear h
  refine zL (qT (fun n s => ∃ (a5 : Int) (b6 : Int), s.keep (mb 16 3) [] = (⟨I a5 :: I b6 :: bt 14 [], []⟩ : St) ∧ zA0 n a5 b6 = some o8) FU ⟨_, _,  kk, hLo8⟩ ?_)
  clear hLo8
  rintro n s ⟨a5, b6, hs, h⟩
  refine qQ _ _ hs ?_
  clear hs
  cases n with
  | zero => cases h
  | succ n =>
   rw [zA0] at h
   refine zO ?_
   refine VE ?_
   refine VC h (fun h => ?_) (fun h => ?_)
   ·refine zK ?_
    show V _ _ _ _
    refine zL ?_
    obtain ⟨z10, hz10, h⟩ := zA h
    obtain ⟨b11, hb11, h⟩ := zR h
    refine V_dreg [0, 0, 0, 6, 3, 31] 6 (cdm 6 [168, 34, 522, 534, 165, 341]) (mb 16 3) [] (s1 := ⟨I b6 :: I b11 :: bt 14 [], []⟩) kk kk ?_ ?_
    ·refine DR 3 ?_
     refine DE_0 3 (I (Int.tmod a5 b6)) kk rfl rfl rfl (zAi rfl) kk (zCP (k := .i64) (a := a5) (b := b6) rfl kk kk (jC hz10)) 14 rfl ?_
     refine DA 2 ?_
     refine zH ?_
     subst hb11
     kernel_rfl
    exact ⟨n, Nat.lt_succ_self n, _, _,  kk, h⟩
   ·refine qO ?_
    obtain rfl := zB h
    show St.keep _ _ _ = _
    kernel_rfl
 show V _ _ _ _
 refine VE ?_
 cases h
 exact zM VT
theorem zF9 : CfW Tryz.prog 46 := cfW Tryz.func46
theorem zFq {f1 : (Int × Int × Int)} {r : Int} (h : zAH f1 = some r) : qE Tryz.prog 46 [.ag [Ti f1.1, Ti f1.2.1, Ti f1.2.2]] (I r) [] := by
 refine CtW [2] Tryz.func46 rfl rfl 11 ?_
 unfold zAH at h
 refine VE ?_
 obtain ⟨y2, hy2, h⟩ := zA h
 obtain ⟨y3, hy3, h⟩ := zA h
 refine VDS [0, 1, 0, 4, 15, 0, 32, 127, 255] 9 (cdm 9 [10400, 10401, 10250, 10266, 10325, 682, 1706, 5461, 21845]) ?_
 refine EK 4 (zEQ hy2) zDz ?_
 refine EK 2 (zEQ hy3) zDz ?_
 refine EF 1 ?_
 cases h
 exact zM VT
theorem zHB : CfW Tryz.prog 42 := cfW Tryz.func42
theorem zH1 {d1 : Int} {r : List ((Int × Int × Int))} (h : zAA d1 = some r) : qE Tryz.prog 42 [I d1] (.ow 0) [(0, .arr 27 3 (r.map c27))] := by
 refine CtW [2] Tryz.func42 rfl rfl 22 ?_
 unfold zAA at h
 refine VS ?_
 refine L1 rfl rfl (zDB (e := 27) 3 (by decide) (.inl rfl)) ?_
 refine YF ?_
 refine VS ?_
 refine L1 rfl rfl (zDB (e := 27) 3 (by decide) (.inl rfl)) ?_
 refine YF ?_
 refine zO ?_
 obtain ⟨y2, hy2, h⟩ := zA h
 refine VS ?_
 refine YK 1 (s_spec_reAll hy2) cf_spec_reAll ?_
 refine L0 rfl rfl (zBN (c := c27) (xs := y2) Tryz.underlying24 rfl kk) ?_
 refine YF ?_
 obtain ⟨o6, hLo6, h⟩ := zA h
 refine zAz (mb 22 8) [24] (s1 := ⟨bt 3 (.ow 24 :: bt 18 []), [(24, .arr 27 3 (o6.map c27))]⟩) ?_ ?_
 ·clear h
  refine zL (qT (fun n s => ∃ (t3 : Int) (l4 : List ((Int × Int × Int))), s.keep (mb 22 904) [56, 24] = (⟨bt 3 (.ow 24 :: bt 3 (.ow 56 :: I ((y2.length : Int)) :: I t3 :: bt 12 [])), [(56, .arr 27 3 (y2.map c27)), (24, .arr 27 3 (l4.map c27))]⟩ : St) ∧ zAG y2 n t3 l4 = some o6) FU ⟨_, _,  kk, hLo6⟩ ?_)
  clear hLo6
  rintro n s ⟨t3, l4, hs, h⟩
  refine qQ _ _ hs ?_
  clear hs
  cases n with
  | zero => cases h
  | succ n =>
   rw [zAG] at h
   refine VE ?_
   refine zO ?_
   refine VC h (fun h => ?_) (fun h => ?_)
   ·refine zK ?_
    show V _ _ _ _
    refine zO ?_
    refine zL ?_
    obtain ⟨e8, he8, h⟩ := zA h
    obtain ⟨e9, he9, h⟩ := zA h
    refine VS ?_
    refine L0 rfl rfl (zEs (c := c27) (xs := y2) (v := e8) (id := 56) (T := 27) (sz := 3) (n := t3) Tryz.underlying24 sz27 rfl kk kk kk he8) ?_
    refine L0 rfl rfl (zFy (c := c27) (xs := y2) (v := e9) (id := 56) (sz := 3) (T := 27) (off := 0) (n := t3) [Ti e9.1, Ti e9.2.1, Ti e9.2.2] wd27 rfl kk kk he9 (Nat.le_of_ble_eq_true rfl) kk) ?_
    refine YF ?_
    obtain ⟨y10, hy10, h⟩ := zA h
    refine VS ?_
    refine YK 1 (zFq hy10) zF9 ?_
    refine YF ?_
    refine VC h (fun h => ?_) (fun h => ?_)
    ·obtain ⟨u12, hu12, h⟩ := zA h
     refine jS ?_
     refine YR 2 ?_
     refine L1 rfl rfl (zAI (z := zv27) (els := [e9].map c27) Tryz.underlying24 iz27 rfl (by decide) rfl kk rfl (by simp [c27]) (by decide) (by decide)) ?_
     refine zE rfl (zCm (c := c27) (xs := l4) (ys := [e9]) (id := 24) (z := zv27) rfl rfl Tryz.underlying24 zKA rfl kk kk kk (fun _ => rfl) (by simp) (zCg hu12) (by decide)) ?_
     refine YF ?_
     show V _ _ _ _
     obtain ⟨t13, ht13, h⟩ := zR h
     refine qS (mb 22 904) [56, 24] (s1 := ⟨bt 3 (.ow 24 :: bt 3 (.ow 56 :: I ((y2.length : Int)) :: I t13 :: bt 12 [])), [(56, .arr 27 3 (y2.map c27)), (24, .arr 27 3 ((l4 ++ ([e9])).map c27))]⟩) ?_ ?_
     ·refine XR 2 ?_
      refine zH ?_
      subst ht13
      kernel_rfl
     exact ⟨n, Nat.lt_succ_self n, _, _,  kk, h⟩
    ·refine zK ?_
     show V _ _ _ _
     obtain ⟨t14, ht14, h⟩ := zR h
     refine qS (mb 22 904) [56, 24] (s1 := ⟨bt 3 (.ow 24 :: bt 3 (.ow 56 :: I ((y2.length : Int)) :: I t14 :: bt 12 [])), [(56, .arr 27 3 (y2.map c27)), (24, .arr 27 3 (l4.map c27))]⟩) ?_ ?_
     ·refine XR 2 ?_
      refine zH ?_
      subst ht14
      kernel_rfl
     exact ⟨n, Nat.lt_succ_self n, _, _,  kk, h⟩
   ·refine qO ?_
    obtain rfl := zB h
    show St.keep _ _ _ = _
    kernel_rfl
 show V _ _ _ _
 refine VE ?_
 cases h
 exact zM VT
theorem zCL : CfW Tryz.prog 90 := cfW Tryz.func90
theorem zCS {c1 : ((List Int) × Int × Int)} {d2 : Int} {r : (((Int × Int × Int)) × (((List Int) × Int × Int)))} (h : zAB c1 d2 = some r) : zEb Tryz.prog 90 [.pt 80000 0, I d2] [(80000, .box [.sl (c1.1.map c5), Ti c1.2.1, .v (.int .u64 c1.2.2)])] (.ag [Ti r.1.1, Ti r.1.2.1, Ti r.1.2.2]) [] [(80000, .box [.sl (r.2.1.map c5), Ti r.2.2.1, .v (.int .u64 r.2.2.2)])] := by
 refine jP (rs := [.w 4 3]) (vs := [.cell 4 27]) Tryz.func90 rfl rfl (.cons ⟨rfl, wd27⟩ FitsL.nil) (by decide) 15 rfl rfl fun σ => ?_
 unfold zAB at h
 show V _ _ ⟨.pt 80000 0 :: I d2 :: bt 13 [], [(80000, .pbox (σ 80000) [.sl (c1.1.map c5), Ti c1.2.1, .v (.int .u64 c1.2.2)])]⟩ _
 refine VE ?_
 obtain ⟨y3, hy3, h⟩ := zA h
 refine VS ?_
 refine YK 1 (zH1 hy3) zHB ?_
 refine YF ?_
 obtain ⟨y4, hy4, h⟩ := zA h
 obtain ⟨e5, he5, h⟩ := zA h
 obtain ⟨e6, he6, h⟩ := zA h
 refine VS ?_
 refine YR 3 ?_
 refine L0 rfl rfl (zBN (c := c27) (xs := y3) Tryz.underlying24 rfl kk) ?_
 refine zE rfl (qA [(80000, 80000)] 12 (zS hy4) zP rfl rfl kk rfl (zI kk zZ) rfl kk rfl rfl rfl) ?_
 refine L0 rfl rfl (zEs (c := c27) (xs := y3) (v := e5) (id := 56) (T := 27) (sz := 3) (n := y4.1) Tryz.underlying24 sz27 rfl kk kk kk he5) ?_
 refine L0 rfl rfl (zFy (c := c27) (xs := y3) (v := e6) (id := 56) (sz := 3) (T := 27) (off := 0) (n := y4.1) [Ti e6.1, Ti e6.2.1, Ti e6.2.2] wd27 rfl kk kk he6 (Nat.le_of_ble_eq_true rfl) kk) ?_
 refine YF ?_
 cases h
 exact zM VTR
theorem zCB : CfW Tryz.prog 161 := cfW Tryz.func161
theorem zCT {vm1 : (Int × Int × Int × Int)} {vn2 : (Int × Int × Int × Int)} {r : (Int × Int × Int × Int)} (h : jB vm1 vn2 = some r) : qE Tryz.prog 161 [.ag [Ti vm1.1, Ti vm1.2.1, Ti vm1.2.2.1, Ti vm1.2.2.2], .ag [Ti vn2.1, Ti vn2.2.1, Ti vn2.2.2.1, Ti vn2.2.2.2]] (.ag [Ti r.1, Ti r.2.1, Ti r.2.2.1, Ti r.2.2.2]) [] := by
 refine qI (rs := [.w 4 4]) (vs := [.cell 4 57]) Tryz.func161 rfl rfl (.cons ⟨rfl, wd57⟩ FitsL.nil) (by decide) 50 rfl ?_
 unfold jB at h
 refine VE ?_
 obtain ⟨f3, hf3, h⟩ := zR h
 obtain ⟨f4, hf4, h⟩ := zR h
 obtain ⟨f5, hf5, h⟩ := zR h
 obtain ⟨f6, hf6, h⟩ := zR h
 refine zG (mb 50 16) [32] (s1 := ⟨bt 4 (.pt 32 0 :: bt 45 []), [(32, .box [Ti f3, Ti f4, Ti f5, Ti f6])]⟩) ?_ ?_
 ·refine XR 44 ?_
  refine L0 rfl rfl (qJ (cs := [Ti (w64 ((w64 (vm1.1 * vn2.1)) + (w64 (vm1.2.1 * vn2.2.2.1)))), Ti (w64 ((w64 (vm1.1 * vn2.2.1)) + (w64 (vm1.2.1 * vn2.2.2.2)))), Ti (w64 ((w64 (vm1.2.2.1 * vn2.1)) + (w64 (vm1.2.2.2 * vn2.2.2.1)))), Ti (w64 ((w64 (vm1.2.2.1 * vn2.2.1)) + (w64 (vm1.2.2.2 * vn2.2.2.2))))]) pl57 bt57 rfl rfl kk) ?_
  refine XR 1 ?_
  refine zH ?_
  subst hf3 hf4 hf5 hf6
  kernel_rfl
 cases h
 exact zM VT
theorem zC7 : CfW Tryz.prog 139 := cfW Tryz.func139
theorem zCc {c1 : ((List Int) × Int × Int)} {r : (((Int × Int × Int × Int)) × (((List Int) × Int × Int)))} (h : zBt c1 = some r) : zEb Tryz.prog 139 [.pt 80000 0] [(80000, .box [.sl (c1.1.map c5), Ti c1.2.1, .v (.int .u64 c1.2.2)])] (.ag [Ti r.1.1, Ti r.1.2.1, Ti r.1.2.2.1, Ti r.1.2.2.2]) [] [(80000, .box [.sl (r.2.1.map c5), Ti r.2.2.1, .v (.int .u64 r.2.2.2)])] := by
 refine jP (rs := [.w 2 4]) (vs := [.cell 2 57]) Tryz.func139 rfl rfl (.cons ⟨rfl, wd57⟩ FitsL.nil) (by decide) 34 rfl rfl fun σ => ?_
 unfold zBt at h
 show V _ _ ⟨.pt 80000 0 :: bt 33 [], [(80000, .pbox (σ 80000) [.sl (c1.1.map c5), Ti c1.2.1, .v (.int .u64 c1.2.2)])]⟩ _
 refine VE ?_
 refine VS ?_
 refine L0 rfl rfl (qJ (cs := [Ti 1, Ti 0, Ti 0, Ti 1]) pl57 bt57 rfl rfl kk) ?_
 refine YF ?_
 refine zO ?_
 obtain ⟨y2, hy2, h⟩ := zA h
 refine VS ?_
 refine YR 1 ?_
 refine zE rfl (qA [(80000, 80000)] 8 (zS hy2) zP rfl rfl kk rfl (zI kk zZ) rfl kk rfl rfl rfl) ?_
 refine YF ?_
 obtain ⟨o12, hLo12, h⟩ := zA h
 refine zAz (mb 34 12) [24, 16, 80000] (s1 := ⟨.bot :: .bot :: .pt 16 0 :: .pt 24 0 :: bt 30 [], [(24, .box [Ti o12.1, Ti o12.2.1, Ti o12.2.2.1, Ti o12.2.2.2.1]), (16, .box [Ti 0, Ti 0, Ti 0, Ti 0]), (80000, .pbox (σ 80000) [.sl (o12.2.2.2.2.1.map c5), Ti o12.2.2.2.2.2.1, .v (.int .u64 o12.2.2.2.2.2.2)])]⟩) ?_ ?_
 ·clear h
  refine zL (qT (fun n s => ∃ (k3 : Int) (f4 : Int) (f5 : Int) (f6 : Int) (f7 : Int) (f8 : List Int) (f9 : Int) (f10 : Int), s.keep (mb 34 29) [24, 16, 80000] = (⟨.pt 80000 0 :: .bot :: .pt 16 0 :: .pt 24 0 :: I k3 :: bt 29 [], [(24, .box [Ti f4, Ti f5, Ti f6, Ti f7]), (16, .box [Ti 0, Ti 0, Ti 0, Ti 0]), (80000, .pbox (σ 80000) [.sl (f8.map c5), Ti f9, .v (.int .u64 f10)])]⟩ : St) ∧ qY n k3 f4 f5 f6 f7 f8 f9 f10 = some o12) FU ⟨_, _, _, _, _, _, _, _,  kk, hLo12⟩ ?_)
  clear hLo12
  rintro n s ⟨k3, f4, f5, f6, f7, f8, f9, f10, hs, h⟩
  refine qQ _ _ hs ?_
  clear hs
  cases n with
  | zero => cases h
  | succ n =>
   rw [qY] at h
   refine zO ?_
   refine VE ?_
   refine VC h (fun h => ?_) (fun h => ?_)
   ·refine zK ?_
    show V _ _ _ _
    refine zO ?_
    refine zL ?_
    obtain ⟨y14, hy14, h⟩ := zA h
    obtain ⟨t15, ht15, h⟩ := zR h
    refine zG (mb 34 61) [24, 16, 80000] (s1 := ⟨.pt 80000 0 :: .bot :: .pt 16 0 :: .pt 24 0 :: I k3 :: I t15 :: bt 28 [], [(24, .box [Ti f4, Ti f5, Ti f6, Ti f7]), (16, .box [Ti 0, Ti 0, Ti 0, Ti 0]), (80000, .pbox (σ 80000) [.sl (y14.2.1.map c5), Ti y14.2.2.1, .v (.int .u64 y14.2.2.2)])]⟩) ?_ ?_
    ·refine XR 1 ?_
     refine zE rfl (qA [(80000, 80000)] 14 (zS hy14) zP rfl rfl kk rfl (zI kk zZ) rfl kk rfl rfl rfl) ?_
     refine XR 2 ?_
     refine zH ?_
     subst ht15
     kernel_rfl
    obtain ⟨y16, hy16, h⟩ := zA h
    refine VS ?_
    refine YR 1 ?_
    refine zE rfl (qA [(80000, 80000)] 17 (zS hy16) zP rfl rfl kk rfl (zI kk zZ) rfl kk rfl rfl rfl) ?_
    refine YF ?_
    refine zL ?_
    refine VE ?_
    refine VC h (fun h => ?_) (fun h => ?_)
    ·obtain ⟨y18, hy18, h⟩ := zA h
     refine jS ?_
     refine YR 2 ?_
     refine L0 rfl rfl (qJ (cs := [Ti 1, Ti t15, Ti 0, Ti 1]) pl57 bt57 rfl rfl kk) ?_
     refine YK 0 (zCT hy18) zCB ?_
     refine YF ?_
     show V _ _ _ _
     obtain ⟨k19, hk19, h⟩ := zR h
     refine qS (mb 34 29) [24, 16, 80000] (s1 := ⟨.pt 80000 0 :: .bot :: .pt 16 0 :: .pt 24 0 :: I k19 :: bt 29 [], [(24, .box [Ti y18.1, Ti y18.2.1, Ti y18.2.2.1, Ti y18.2.2.2]), (16, .box [Ti 0, Ti 0, Ti 0, Ti 0]), (80000, .pbox (σ 80000) [.sl (y16.2.1.map c5), Ti y16.2.2.1, .v (.int .u64 y16.2.2.2)])]⟩) ?_ ?_
     ·refine XR 3 ?_
      refine zH ?_
      subst hk19
      kernel_rfl
     exact ⟨n, Nat.lt_succ_self n, _, _, _, _, _, _, _, _,  kk, h⟩
    ·refine VE ?_
     refine VC h (fun h => ?_) (fun h => ?_)
     ·obtain ⟨y21, hy21, h⟩ := zA h
      refine jS ?_
      refine YR 2 ?_
      refine L0 rfl rfl (qJ (cs := [Ti 1, Ti 0, Ti t15, Ti 1]) pl57 bt57 rfl rfl kk) ?_
      refine YK 0 (zCT hy21) zCB ?_
      refine YF ?_
      show V _ _ _ _
      obtain ⟨k22, hk22, h⟩ := zR h
      refine qS (mb 34 29) [24, 16, 80000] (s1 := ⟨.pt 80000 0 :: .bot :: .pt 16 0 :: .pt 24 0 :: I k22 :: bt 29 [], [(24, .box [Ti y21.1, Ti y21.2.1, Ti y21.2.2.1, Ti y21.2.2.2]), (16, .box [Ti 0, Ti 0, Ti 0, Ti 0]), (80000, .pbox (σ 80000) [.sl (y16.2.1.map c5), Ti y16.2.2.1, .v (.int .u64 y16.2.2.2)])]⟩) ?_ ?_
      ·refine XR 3 ?_
       refine zH ?_
       subst hk22
       kernel_rfl
      exact ⟨n, Nat.lt_succ_self n, _, _, _, _, _, _, _, _,  kk, h⟩
     ·obtain ⟨y23, hy23, h⟩ := zA h
      refine jS ?_
      refine YR 1 ?_
      refine L0 rfl rfl (qJ (cs := [Ti 0, Ti (-1), Ti 1, Ti 0]) pl57 bt57 rfl rfl kk) ?_
      refine YK 0 (zCT hy23) zCB ?_
      refine YF ?_
      show V _ _ _ _
      obtain ⟨k24, hk24, h⟩ := zR h
      refine qS (mb 34 29) [24, 16, 80000] (s1 := ⟨.pt 80000 0 :: .bot :: .pt 16 0 :: .pt 24 0 :: I k24 :: bt 29 [], [(24, .box [Ti y23.1, Ti y23.2.1, Ti y23.2.2.1, Ti y23.2.2.2]), (16, .box [Ti 0, Ti 0, Ti 0, Ti 0]), (80000, .pbox (σ 80000) [.sl (y16.2.1.map c5), Ti y16.2.2.1, .v (.int .u64 y16.2.2.2)])]⟩) ?_ ?_
      ·refine XR 3 ?_
       refine zH ?_
       subst hk24
       kernel_rfl
      exact ⟨n, Nat.lt_succ_self n, _, _, _, _, _, _, _, _,  kk, h⟩
   ·refine qO ?_
    obtain rfl := zB h
    show St.keep _ _ _ = _
    kernel_rfl
 show V _ _ _ _
 refine VE ?_
 cases h
 exact zM VTR
theorem zED : CfW Tryz.prog 158 := cfW Tryz.func158
theorem zER {f1 : (Int × Int × Int)} {x2 : Int} {y3 : Int} {r : Int} (h : zBH f1 x2 y3 = some r) : qE Tryz.prog 158 [.ag [Ti f1.1, Ti f1.2.1, Ti f1.2.2], I x2, I y3] (I r) [] := by
 refine CtW [6] Tryz.func158 rfl rfl 27 ?_
 unfold zBH at h
 refine VE ?_
 obtain ⟨t4, ht4, h⟩ := zR h
 refine zG (mb 27 64) [] (s1 := ⟨bt 6 (I t4 :: bt 20 []), []⟩) ?_ ?_
 ·refine XR 21 ?_
  refine zH ?_
  subst ht4
  kernel_rfl
 cases h
 exact zM VT
theorem zGX : CfW Tryz.prog 159 := cfW Tryz.func159
theorem zGd {f1 : (Int × Int × Int)} {x2 : Int} {y3 : Int} {u4 : Int} {v5 : Int} {r : Int} (h : zCh f1 x2 y3 u4 v5 = some r) : qE Tryz.prog 159 [.ag [Ti f1.1, Ti f1.2.1, Ti f1.2.2], I x2, I y3, I u4, I v5] (I r) [] := by
 refine CtW [10] Tryz.func159 rfl rfl 37 ?_
 unfold zCh at h
 refine VE ?_
 obtain ⟨t6, ht6, h⟩ := zR h
 refine zG (mb 37 1024) [] (s1 := ⟨bt 10 (I t6 :: bt 26 []), []⟩) ?_ ?_
 ·refine XR 27 ?_
  refine zH ?_
  subst ht6
  kernel_rfl
 cases h
 exact zM VT
theorem zEo : CfW Tryz.prog 106 := cfW Tryz.func106
theorem zFE {f1 : (Int × Int × Int)} {vm2 : (Int × Int × Int × Int)} {r : (Int × Int × Int)} (h : zCZ f1 vm2 = some r) : qE Tryz.prog 106 [.ag [Ti f1.1, Ti f1.2.1, Ti f1.2.2], .ag [Ti vm2.1, Ti vm2.2.1, Ti vm2.2.2.1, Ti vm2.2.2.2]] (.ag [Ti r.1, Ti r.2.1, Ti r.2.2]) [] := by
 refine qI (rs := [.w 4 3]) (vs := [.cell 4 27]) Tryz.func106 rfl rfl (.cons ⟨rfl, wd27⟩ FitsL.nil) (by decide) 28 rfl ?_
 unfold zCZ at h
 refine VE ?_
 obtain ⟨y3, hy3, h⟩ := zA h
 obtain ⟨y4, hy4, h⟩ := zA h
 obtain ⟨y5, hy5, h⟩ := zA h
 refine VDS [0, 0, 2, 0, 8, 31, 0, 0, 128, 0, 512, 0, 2048, 0, 8192, 32767, 0, 0, 131072, 0, 524288, 2097151, 4194303, 8388607] 23 (cdm 23 [2929883521704, 2929883521666, 2929883521670, 2929883521066, 2929883521130, 2929883521365, 2929883515562, 2929883359914, 2929883376298, 2929880902314, 2929881164458, 2929841580714, 2929845775018, 2929212435114, 2929279543978, 2929525609813, 2923441072810, 2760232315562, 2777412184746, 183251937962, 458129844906, 1466015503701, 5864062014805]) ?_
 refine EK 5 (zER hy3) zED ?_
 refine EK 9 (zGd hy4) zGX ?_
 refine EK 5 (zER hy5) zED ?_
 refine E0 22 rfl rfl (qJ (cs := [Ti y3, Ti y4, Ti y5]) pl27 bt27 rfl rfl kk) ?_
 refine EF 0 ?_
 cases h
 exact zM VT
theorem zFT : CfW Tryz.prog 179 := cfW Tryz.func179
theorem zFf {vn1 : Int} {r : Bool} (h : zC9 vn1 = some r) : qE Tryz.prog 179 [I vn1] (Bo r) [] := by
 refine CtW [2] Tryz.func179 rfl rfl 5 ?_
 unfold zC9 at h
 refine VE ?_
 obtain ⟨y2, hy2, h⟩ := zA h
 refine VS ?_
 refine YK 1 (zGc hy2) zGN ?_
 refine YF ?_
 cases h
 exact zM VT
theorem zHD : CfW Tryz.prog 140 := cfW Tryz.func140
theorem zH2 {f1 : (Int × Int × Int)} {r : Bool} (h : zDI f1 = some r) : qE Tryz.prog 140 [.ag [Ti f1.1, Ti f1.2.1, Ti f1.2.2]] (Bo r) [] := by
 refine CtW [2] Tryz.func140 rfl rfl 16 ?_
 unfold zDI at h
 refine VE ?_
 obtain ⟨y2, hy2, h⟩ := zA h
 obtain ⟨b5, hb5, h⟩ := zA h
 obtain ⟨b8, hb8, h⟩ := zA h
 refine zG (mb 16 4) [] (s1 := ⟨.bot :: .bot :: Bo b8 :: bt 13 [], []⟩) ?_ ?_
 ·refine YK 2 (zFf hy2) zFT ?_
  refine YR 1 ?_
  refine zU y2 (fun hc3 => ?_) (fun hc3 => ?_)
  ·have hb5 := zT hb5 hc3
   obtain ⟨y4, hy4, hb5⟩ := zA hb5
   have hb5 := zB hb5
   refine YQ hc3 ?_
   refine YK 2 (zFf hy4) zFT ?_
   refine YR 2 ?_
   refine zU b5 (fun hc6 => ?_) (fun hc6 => ?_)
   ·have hb8 := zT hb8 hc6
    obtain ⟨y7, hy7, hb8⟩ := zA hb8
    have hb8 := zB hb8
    refine YQ hc6 ?_ (by rw [← hb5]; (try rw [← hb8]); (try rw [hc3]); kernel_rfl)
    refine YK 2 (zFf hy7) zFT ?_
    exact YE (by rw [← hb8]; (try rw [hc3]); (try rw [hc6]); kernel_rfl)
   ·have hb8 := zB (zJ hb8 hc6)
    refine YQ hc6 ?_ (by rw [← hb5]; (try rw [← hb8]); (try rw [hc3]); kernel_rfl)
    exact YE (by rw [← hb8]; (try rw [hc3]); (try rw [hc6]); kernel_rfl)
  ·have hb5 := zB (zJ hb5 hc3)
   refine YQ hc3 ?_
   refine YR 5 ?_
   subst hb5
   have hc6 : false = false := rfl
   have hb8 := zB (zJ hb8 hc6)
   exact YE (by rw [← hb8]; (try rw [hc3]); kernel_rfl)
 cases h
 exact zM VT
theorem zCf : CfW Tryz.prog 89 := cfW Tryz.func89
theorem zCp {c1 : ((List Int) × Int × Int)} {f2 : (Int × Int × Int)} {r : (((Int × Int × Int)) × (((List Int) × Int × Int)))} (h : zAU c1 f2 = some r) : zEb Tryz.prog 89 [.pt 80000 0, .ag [Ti f2.1, Ti f2.2.1, Ti f2.2.2]] [(80000, .box [.sl (c1.1.map c5), Ti c1.2.1, .v (.int .u64 c1.2.2)])] (.ag [Ti r.1.1, Ti r.1.2.1, Ti r.1.2.2]) [] [(80000, .box [.sl (r.2.1.map c5), Ti r.2.2.1, .v (.int .u64 r.2.2.2)])] := by
 refine jP (rs := [.w 4 3]) (vs := [.cell 4 27]) Tryz.func89 rfl rfl (.cons ⟨rfl, wd27⟩ FitsL.nil) (by decide) 15 rfl rfl fun σ => ?_
 unfold zAU at h
 show V _ _ ⟨.pt 80000 0 :: .ag [Ti f2.1, Ti f2.2.1, Ti f2.2.2] :: bt 13 [], [(80000, .pbox (σ 80000) [.sl (c1.1.map c5), Ti c1.2.1, .v (.int .u64 c1.2.2)])]⟩ _
 refine VE ?_
 obtain ⟨y3, hy3, h⟩ := zA h
 obtain ⟨y4, hy4, h⟩ := zA h
 refine qQ (mb 15 25) [32, 24, 80000] (s' := ⟨.pt 80000 0 :: .bot :: .bot :: .pt 24 0 :: .pt 32 0 :: bt 10 [], [(32, .box [Ti 0, Ti 0, Ti 0]), (24, .box [Ti f2.1, Ti f2.2.1, Ti f2.2.2]), (80000, .pbox (σ 80000) [.sl (c1.1.map c5), Ti c1.2.1, .v (.int .u64 c1.2.2)])]⟩) kk ?_
 refine V_sdagK (mb 15 56) [40, 32, 24, 80000] [0, 0, 2, 7, 0, 31] [(0, ⟨.pt 80000 0 :: .bot :: .bot :: .pt 24 0 :: .pt 32 0 :: bt 10 [], [(32, .box [Ti 0, Ti 0, Ti 0]), (24, .box [Ti f2.1, Ti f2.2.1, Ti f2.2.2]), (80000, .pbox (σ 80000) [.sl (c1.1.map c5), Ti c1.2.1, .v (.int .u64 c1.2.2)])]⟩), (1, ⟨.pt 80000 0 :: .bot :: .bot :: .pt 24 0 :: .pt 32 0 :: .bot :: .ag [Ti f2.1, Ti f2.2.1, Ti f2.2.2] :: bt 8 [], [(32, .box [Ti 0, Ti 0, Ti 0]), (24, .box [Ti f2.1, Ti f2.2.1, Ti f2.2.2]), (80000, .pbox (σ 80000) [.sl (c1.1.map c5), Ti c1.2.1, .v (.int .u64 c1.2.2)])]⟩), (2, ⟨.pt 80000 0 :: .bot :: .bot :: .pt 24 0 :: .pt 32 0 :: .bot :: .bot :: .pt 80000 0 :: bt 7 [], [(32, .box [Ti 0, Ti 0, Ti 0]), (24, .box [Ti f2.1, Ti f2.2.1, Ti f2.2.2]), (80000, .pbox (σ 80000) [.sl (c1.1.map c5), Ti c1.2.1, .v (.int .u64 c1.2.2)])]⟩), (3, ⟨.pt 80000 0 :: .bot :: .bot :: .pt 24 0 :: .pt 32 0 :: .bot :: .ag [Ti f2.1, Ti f2.2.1, Ti f2.2.2] :: .pt 80000 0 :: bt 7 [], [(32, .box [Ti 0, Ti 0, Ti 0]), (24, .box [Ti f2.1, Ti f2.2.1, Ti f2.2.2]), (80000, .pbox (σ 80000) [.sl (c1.1.map c5), Ti c1.2.1, .v (.int .u64 c1.2.2)])]⟩), (6, ⟨.pt 80000 0 :: .bot :: .bot :: .pt 24 0 :: .pt 32 0 :: .bot :: .bot :: .pt 80000 0 :: .ag [Ti y3.1.1, Ti y3.1.2.1, Ti y3.1.2.2.1, Ti y3.1.2.2.2] :: bt 6 [], [(32, .box [Ti 0, Ti 0, Ti 0]), (24, .box [Ti f2.1, Ti f2.2.1, Ti f2.2.2]), (80000, .pbox (σ 80000) [.sl (y3.2.1.map c5), Ti y3.2.2.1, .v (.int .u64 y3.2.2.2)])]⟩), (7, ⟨.pt 80000 0 :: .bot :: .bot :: .pt 24 0 :: .pt 32 0 :: .bot :: .ag [Ti f2.1, Ti f2.2.1, Ti f2.2.2] :: .pt 80000 0 :: .ag [Ti y3.1.1, Ti y3.1.2.1, Ti y3.1.2.2.1, Ti y3.1.2.2.2] :: bt 6 [], [(32, .box [Ti 0, Ti 0, Ti 0]), (24, .box [Ti f2.1, Ti f2.2.1, Ti f2.2.2]), (80000, .pbox (σ 80000) [.sl (y3.2.1.map c5), Ti y3.2.2.1, .v (.int .u64 y3.2.2.2)])]⟩), (15, ⟨.pt 80000 0 :: .bot :: .bot :: .pt 24 0 :: .pt 32 0 :: .bot :: .ag [Ti f2.1, Ti f2.2.1, Ti f2.2.2] :: .pt 80000 0 :: .ag [Ti y3.1.1, Ti y3.1.2.1, Ti y3.1.2.2.1, Ti y3.1.2.2.2] :: .ag [Ti y4.1, Ti y4.2.1, Ti y4.2.2] :: bt 5 [], [(32, .box [Ti 0, Ti 0, Ti 0]), (24, .box [Ti f2.1, Ti f2.2.1, Ti f2.2.2]), (80000, .pbox (σ 80000) [.sl (y3.2.1.map c5), Ti y3.2.2.1, .v (.int .u64 y3.2.2.2)])]⟩), (16, ⟨.pt 80000 0 :: .bot :: .bot :: .pt 24 0 :: .pt 32 0 :: .pt 40 0 :: bt 9 [], [(40, .box [Ti 0, Ti 0, Ti 0]), (32, .box [Ti 0, Ti 0, Ti 0]), (24, .box [Ti f2.1, Ti f2.2.1, Ti f2.2.2]), (80000, .pbox (σ 80000) [.sl (c1.1.map c5), Ti c1.2.1, .v (.int .u64 c1.2.2)])]⟩), (17, ⟨.pt 80000 0 :: .bot :: .bot :: .pt 24 0 :: .pt 32 0 :: .pt 40 0 :: .ag [Ti f2.1, Ti f2.2.1, Ti f2.2.2] :: bt 8 [], [(40, .box [Ti 0, Ti 0, Ti 0]), (32, .box [Ti 0, Ti 0, Ti 0]), (24, .box [Ti f2.1, Ti f2.2.1, Ti f2.2.2]), (80000, .pbox (σ 80000) [.sl (c1.1.map c5), Ti c1.2.1, .v (.int .u64 c1.2.2)])]⟩), (18, ⟨.pt 80000 0 :: .bot :: .bot :: .pt 24 0 :: .pt 32 0 :: .pt 40 0 :: .bot :: .pt 80000 0 :: bt 7 [], [(40, .box [Ti 0, Ti 0, Ti 0]), (32, .box [Ti 0, Ti 0, Ti 0]), (24, .box [Ti f2.1, Ti f2.2.1, Ti f2.2.2]), (80000, .pbox (σ 80000) [.sl (c1.1.map c5), Ti c1.2.1, .v (.int .u64 c1.2.2)])]⟩), (19, ⟨.pt 80000 0 :: .bot :: .bot :: .pt 24 0 :: .pt 32 0 :: .pt 40 0 :: .ag [Ti f2.1, Ti f2.2.1, Ti f2.2.2] :: .pt 80000 0 :: bt 7 [], [(40, .box [Ti 0, Ti 0, Ti 0]), (32, .box [Ti 0, Ti 0, Ti 0]), (24, .box [Ti f2.1, Ti f2.2.1, Ti f2.2.2]), (80000, .pbox (σ 80000) [.sl (c1.1.map c5), Ti c1.2.1, .v (.int .u64 c1.2.2)])]⟩), (22, ⟨.pt 80000 0 :: .bot :: .bot :: .pt 24 0 :: .pt 32 0 :: .pt 40 0 :: .bot :: .pt 80000 0 :: .ag [Ti y3.1.1, Ti y3.1.2.1, Ti y3.1.2.2.1, Ti y3.1.2.2.2] :: bt 6 [], [(40, .box [Ti 0, Ti 0, Ti 0]), (32, .box [Ti 0, Ti 0, Ti 0]), (24, .box [Ti f2.1, Ti f2.2.1, Ti f2.2.2]), (80000, .pbox (σ 80000) [.sl (y3.2.1.map c5), Ti y3.2.2.1, .v (.int .u64 y3.2.2.2)])]⟩), (23, ⟨.pt 80000 0 :: .bot :: .bot :: .pt 24 0 :: .pt 32 0 :: .pt 40 0 :: .ag [Ti f2.1, Ti f2.2.1, Ti f2.2.2] :: .pt 80000 0 :: .ag [Ti y3.1.1, Ti y3.1.2.1, Ti y3.1.2.2.1, Ti y3.1.2.2.2] :: bt 6 [], [(40, .box [Ti 0, Ti 0, Ti 0]), (32, .box [Ti 0, Ti 0, Ti 0]), (24, .box [Ti f2.1, Ti f2.2.1, Ti f2.2.2]), (80000, .pbox (σ 80000) [.sl (y3.2.1.map c5), Ti y3.2.2.1, .v (.int .u64 y3.2.2.2)])]⟩), (31, ⟨.pt 80000 0 :: .bot :: .bot :: .pt 24 0 :: .pt 32 0 :: .pt 40 0 :: .ag [Ti f2.1, Ti f2.2.1, Ti f2.2.2] :: .pt 80000 0 :: .ag [Ti y3.1.1, Ti y3.1.2.1, Ti y3.1.2.2.1, Ti y3.1.2.2.2] :: .ag [Ti y4.1, Ti y4.2.1, Ti y4.2.2] :: bt 5 [], [(40, .box [Ti 0, Ti 0, Ti 0]), (32, .box [Ti 0, Ti 0, Ti 0]), (24, .box [Ti f2.1, Ti f2.2.1, Ti f2.2.2]), (80000, .pbox (σ 80000) [.sl (y3.2.1.map c5), Ti y3.2.2.1, .v (.int .u64 y3.2.2.2)])]⟩), (63, ⟨.pt 80000 0 :: .bot :: .bot :: .pt 24 0 :: .pt 32 0 :: .pt 40 0 :: .ag [Ti f2.1, Ti f2.2.1, Ti f2.2.2] :: .pt 80000 0 :: .ag [Ti y3.1.1, Ti y3.1.2.1, Ti y3.1.2.2.1, Ti y3.1.2.2.2] :: .ag [Ti y4.1, Ti y4.2.1, Ti y4.2.2] :: bt 5 [], [(40, .box [Ti y4.1, Ti y4.2.1, Ti y4.2.2]), (32, .box [Ti 0, Ti 0, Ti 0]), (24, .box [Ti f2.1, Ti f2.2.1, Ti f2.2.2]), (80000, .pbox (σ 80000) [.sl (y3.2.1.map c5), Ti y3.2.2.1, .v (.int .u64 y3.2.2.2)])]⟩)] (s1 := ⟨bt 3 (.pt 24 0 :: .pt 32 0 :: .pt 40 0 :: bt 9 []), [(40, .box [Ti y4.1, Ti y4.2.1, Ti y4.2.2]), (32, .box [Ti 0, Ti 0, Ti 0]), (24, .box [Ti f2.1, Ti f2.2.1, Ti f2.2.2]), (80000, .pbox (σ 80000) [.sl (y3.2.1.map c5), Ti y3.2.2.1, .v (.int .u64 y3.2.2.2)])]⟩) kk kk kk ?_ ?_
 ·refine zDP [4, 1, 0] kk kk ?_ ?_
  ·refine jR (s2 := ⟨.pt 80000 0 :: .bot :: .bot :: .pt 24 0 :: .pt 32 0 :: .pt 40 0 :: bt 9 [], [(40, .box [Ti 0, Ti 0, Ti 0]), (32, .box [Ti 0, Ti 0, Ti 0]), (24, .box [Ti f2.1, Ti f2.2.1, Ti f2.2.2]), (80000, .pbox (σ 80000) [.sl (c1.1.map c5), Ti c1.2.1, .v (.int .u64 c1.2.2)])]⟩) rfl rfl (zAT rfl (zEr (z := zv27) rfl zf27 rfl)) kk rfl (zX kk (zX kk (zX kk (zX kk zBy)))) ?_
   refine jR (s2 := ⟨.pt 80000 0 :: .bot :: .bot :: .pt 24 0 :: .pt 32 0 :: .bot :: .bot :: .pt 80000 0 :: bt 7 [], [(32, .box [Ti 0, Ti 0, Ti 0]), (24, .box [Ti f2.1, Ti f2.2.1, Ti f2.2.2]), (80000, .pbox (σ 80000) [.sl (c1.1.map c5), Ti c1.2.1, .v (.int .u64 c1.2.2)])]⟩) rfl rfl (zD rfl (qU (.pt 80000 0) rfl kk)) kk rfl (zX kk (zX kk (zX kk zBy))) ?_
   refine jR (s2 := ⟨.pt 80000 0 :: .bot :: .bot :: .pt 24 0 :: .pt 32 0 :: .bot :: .ag [Ti f2.1, Ti f2.2.1, Ti f2.2.2] :: bt 8 [], [(32, .box [Ti 0, Ti 0, Ti 0]), (24, .box [Ti f2.1, Ti f2.2.1, Ti f2.2.2]), (80000, .pbox (σ 80000) [.sl (c1.1.map c5), Ti c1.2.1, .v (.int .u64 c1.2.2)])]⟩) rfl rfl (zD rfl (zFH (cs := [Ti f2.1, Ti f2.2.1, Ti f2.2.2]) [Ti f2.1, Ti f2.2.1, Ti f2.2.2] wd27 rfl kk (Nat.le_of_ble_eq_true rfl) kk)) kk rfl (zX kk (zX kk (zX kk zBy))) ?_
   exact zCR
  refine zDP [4, 1] kk kk ?_ ?_
  ·refine jR (s2 := ⟨.pt 80000 0 :: .bot :: .bot :: .pt 24 0 :: .pt 32 0 :: .pt 40 0 :: .ag [Ti f2.1, Ti f2.2.1, Ti f2.2.2] :: bt 8 [], [(40, .box [Ti 0, Ti 0, Ti 0]), (32, .box [Ti 0, Ti 0, Ti 0]), (24, .box [Ti f2.1, Ti f2.2.1, Ti f2.2.2]), (80000, .pbox (σ 80000) [.sl (c1.1.map c5), Ti c1.2.1, .v (.int .u64 c1.2.2)])]⟩) rfl rfl (zAT rfl (zEr (z := zv27) rfl zf27 rfl)) kk rfl (zX kk (zX kk (zX kk (zX kk zBy)))) ?_
   refine jR (s2 := ⟨.pt 80000 0 :: .bot :: .bot :: .pt 24 0 :: .pt 32 0 :: .bot :: .ag [Ti f2.1, Ti f2.2.1, Ti f2.2.2] :: .pt 80000 0 :: bt 7 [], [(32, .box [Ti 0, Ti 0, Ti 0]), (24, .box [Ti f2.1, Ti f2.2.1, Ti f2.2.2]), (80000, .pbox (σ 80000) [.sl (c1.1.map c5), Ti c1.2.1, .v (.int .u64 c1.2.2)])]⟩) rfl rfl (zD rfl (qU (.pt 80000 0) rfl kk)) kk rfl (zX kk (zX kk (zX kk zBy))) ?_
   exact zCR
  refine zDP [4, 2, 0] kk kk ?_ ?_
  ·refine jR (s2 := ⟨.pt 80000 0 :: .bot :: .bot :: .pt 24 0 :: .pt 32 0 :: .pt 40 0 :: .bot :: .pt 80000 0 :: bt 7 [], [(40, .box [Ti 0, Ti 0, Ti 0]), (32, .box [Ti 0, Ti 0, Ti 0]), (24, .box [Ti f2.1, Ti f2.2.1, Ti f2.2.2]), (80000, .pbox (σ 80000) [.sl (c1.1.map c5), Ti c1.2.1, .v (.int .u64 c1.2.2)])]⟩) rfl rfl (zAT rfl (zEr (z := zv27) rfl zf27 rfl)) kk rfl (zX kk (zX kk (zX kk (zX kk zBy)))) ?_
   refine jR (s2 := ⟨.pt 80000 0 :: .bot :: .bot :: .pt 24 0 :: .pt 32 0 :: .bot :: .bot :: .pt 80000 0 :: .ag [Ti y3.1.1, Ti y3.1.2.1, Ti y3.1.2.2.1, Ti y3.1.2.2.2] :: bt 6 [], [(32, .box [Ti 0, Ti 0, Ti 0]), (24, .box [Ti f2.1, Ti f2.2.1, Ti f2.2.2]), (80000, .pbox (σ 80000) [.sl (y3.2.1.map c5), Ti y3.2.2.1, .v (.int .u64 y3.2.2.2)])]⟩) rfl rfl (qA (E' := [(32, .box [Ti 0, Ti 0, Ti 0]), (24, .box [Ti f2.1, Ti f2.2.1, Ti f2.2.2]), (80000, .pbox (σ 80000) [.sl (y3.2.1.map c5), Ti y3.2.2.1, .v (.int .u64 y3.2.2.2)])]) [(80000, 80000)] 8 (zCc hy3) zC7 rfl rfl kk rfl (zI kk zZ) rfl kk rfl rfl kk) kk rfl (zX kk (zX kk (zX kk zBy))) ?_
   refine jR (s2 := ⟨.pt 80000 0 :: .bot :: .bot :: .pt 24 0 :: .pt 32 0 :: .bot :: .ag [Ti f2.1, Ti f2.2.1, Ti f2.2.2] :: .pt 80000 0 :: bt 7 [], [(32, .box [Ti 0, Ti 0, Ti 0]), (24, .box [Ti f2.1, Ti f2.2.1, Ti f2.2.2]), (80000, .pbox (σ 80000) [.sl (c1.1.map c5), Ti c1.2.1, .v (.int .u64 c1.2.2)])]⟩) rfl rfl (zD rfl (zFH (cs := [Ti f2.1, Ti f2.2.1, Ti f2.2.2]) [Ti f2.1, Ti f2.2.1, Ti f2.2.2] wd27 rfl kk (Nat.le_of_ble_eq_true rfl) kk)) kk rfl (zX kk (zX kk (zX kk zBy))) ?_
   exact zCR
  refine zDP [4, 2] kk kk ?_ ?_
  ·refine jR (s2 := ⟨.pt 80000 0 :: .bot :: .bot :: .pt 24 0 :: .pt 32 0 :: .pt 40 0 :: .ag [Ti f2.1, Ti f2.2.1, Ti f2.2.2] :: .pt 80000 0 :: bt 7 [], [(40, .box [Ti 0, Ti 0, Ti 0]), (32, .box [Ti 0, Ti 0, Ti 0]), (24, .box [Ti f2.1, Ti f2.2.1, Ti f2.2.2]), (80000, .pbox (σ 80000) [.sl (c1.1.map c5), Ti c1.2.1, .v (.int .u64 c1.2.2)])]⟩) rfl rfl (zAT rfl (zEr (z := zv27) rfl zf27 rfl)) kk rfl (zX kk (zX kk (zX kk (zX kk zBy)))) ?_
   refine jR (s2 := ⟨.pt 80000 0 :: .bot :: .bot :: .pt 24 0 :: .pt 32 0 :: .bot :: .ag [Ti f2.1, Ti f2.2.1, Ti f2.2.2] :: .pt 80000 0 :: .ag [Ti y3.1.1, Ti y3.1.2.1, Ti y3.1.2.2.1, Ti y3.1.2.2.2] :: bt 6 [], [(32, .box [Ti 0, Ti 0, Ti 0]), (24, .box [Ti f2.1, Ti f2.2.1, Ti f2.2.2]), (80000, .pbox (σ 80000) [.sl (y3.2.1.map c5), Ti y3.2.2.1, .v (.int .u64 y3.2.2.2)])]⟩) rfl rfl (qA (E' := [(32, .box [Ti 0, Ti 0, Ti 0]), (24, .box [Ti f2.1, Ti f2.2.1, Ti f2.2.2]), (80000, .pbox (σ 80000) [.sl (y3.2.1.map c5), Ti y3.2.2.1, .v (.int .u64 y3.2.2.2)])]) [(80000, 80000)] 8 (zCc hy3) zC7 rfl rfl kk rfl (zI kk zZ) rfl kk rfl rfl kk) kk rfl (zX kk (zX kk (zX kk zBy))) ?_
   exact zCR
  refine zDP [4, 0] kk kk ?_ ?_
  ·refine jR (s2 := ⟨.pt 80000 0 :: .bot :: .bot :: .pt 24 0 :: .pt 32 0 :: .pt 40 0 :: .bot :: .pt 80000 0 :: .ag [Ti y3.1.1, Ti y3.1.2.1, Ti y3.1.2.2.1, Ti y3.1.2.2.2] :: bt 6 [], [(40, .box [Ti 0, Ti 0, Ti 0]), (32, .box [Ti 0, Ti 0, Ti 0]), (24, .box [Ti f2.1, Ti f2.2.1, Ti f2.2.2]), (80000, .pbox (σ 80000) [.sl (y3.2.1.map c5), Ti y3.2.2.1, .v (.int .u64 y3.2.2.2)])]⟩) rfl rfl (zAT rfl (zEr (z := zv27) rfl zf27 rfl)) kk rfl (zX kk (zX kk (zX kk (zX kk zBy)))) ?_
   refine jR (s2 := ⟨.pt 80000 0 :: .bot :: .bot :: .pt 24 0 :: .pt 32 0 :: .bot :: .ag [Ti f2.1, Ti f2.2.1, Ti f2.2.2] :: .pt 80000 0 :: .ag [Ti y3.1.1, Ti y3.1.2.1, Ti y3.1.2.2.1, Ti y3.1.2.2.2] :: bt 6 [], [(32, .box [Ti 0, Ti 0, Ti 0]), (24, .box [Ti f2.1, Ti f2.2.1, Ti f2.2.2]), (80000, .pbox (σ 80000) [.sl (y3.2.1.map c5), Ti y3.2.2.1, .v (.int .u64 y3.2.2.2)])]⟩) rfl rfl (zD rfl (zFH (cs := [Ti f2.1, Ti f2.2.1, Ti f2.2.2]) [Ti f2.1, Ti f2.2.1, Ti f2.2.2] wd27 rfl kk (Nat.le_of_ble_eq_true rfl) kk)) kk rfl (zX kk (zX kk (zX kk zBy))) ?_
   exact zCR
  refine zDP [4, 3] kk kk ?_ ?_
  ·refine jR (s2 := ⟨.pt 80000 0 :: .bot :: .bot :: .pt 24 0 :: .pt 32 0 :: .pt 40 0 :: .ag [Ti f2.1, Ti f2.2.1, Ti f2.2.2] :: .pt 80000 0 :: .ag [Ti y3.1.1, Ti y3.1.2.1, Ti y3.1.2.2.1, Ti y3.1.2.2.2] :: bt 6 [], [(40, .box [Ti 0, Ti 0, Ti 0]), (32, .box [Ti 0, Ti 0, Ti 0]), (24, .box [Ti f2.1, Ti f2.2.1, Ti f2.2.2]), (80000, .pbox (σ 80000) [.sl (y3.2.1.map c5), Ti y3.2.2.1, .v (.int .u64 y3.2.2.2)])]⟩) rfl rfl (zAT rfl (zEr (z := zv27) rfl zf27 rfl)) kk rfl (zX kk (zX kk (zX kk (zX kk zBy)))) ?_
   refine jR (s2 := ⟨.pt 80000 0 :: .bot :: .bot :: .pt 24 0 :: .pt 32 0 :: .bot :: .ag [Ti f2.1, Ti f2.2.1, Ti f2.2.2] :: .pt 80000 0 :: .ag [Ti y3.1.1, Ti y3.1.2.1, Ti y3.1.2.2.1, Ti y3.1.2.2.2] :: .ag [Ti y4.1, Ti y4.2.1, Ti y4.2.2] :: bt 5 [], [(32, .box [Ti 0, Ti 0, Ti 0]), (24, .box [Ti f2.1, Ti f2.2.1, Ti f2.2.2]), (80000, .pbox (σ 80000) [.sl (y3.2.1.map c5), Ti y3.2.2.1, .v (.int .u64 y3.2.2.2)])]⟩) rfl rfl (zAT rfl (zHR (zFE hy4) zEo rfl kk)) kk rfl (zX kk (zX kk (zX kk zBy))) ?_
   exact zCR
  refine zDP [4] kk kk ?_ ?_
  ·refine jR (s2 := ⟨.pt 80000 0 :: .bot :: .bot :: .pt 24 0 :: .pt 32 0 :: .pt 40 0 :: .ag [Ti f2.1, Ti f2.2.1, Ti f2.2.2] :: .pt 80000 0 :: .ag [Ti y3.1.1, Ti y3.1.2.1, Ti y3.1.2.2.1, Ti y3.1.2.2.2] :: .ag [Ti y4.1, Ti y4.2.1, Ti y4.2.2] :: bt 5 [], [(40, .box [Ti 0, Ti 0, Ti 0]), (32, .box [Ti 0, Ti 0, Ti 0]), (24, .box [Ti f2.1, Ti f2.2.1, Ti f2.2.2]), (80000, .pbox (σ 80000) [.sl (y3.2.1.map c5), Ti y3.2.2.1, .v (.int .u64 y3.2.2.2)])]⟩) rfl rfl (zAT rfl (zEr (z := zv27) rfl zf27 rfl)) kk rfl (zX kk (zX kk (zX kk (zX kk zBy)))) ?_
   exact zCR
  refine zDP [1, 0] kk kk ?_ ?_
  ·refine jR (s2 := ⟨.pt 80000 0 :: .bot :: .bot :: .pt 24 0 :: .pt 32 0 :: .pt 40 0 :: .bot :: .pt 80000 0 :: bt 7 [], [(40, .box [Ti 0, Ti 0, Ti 0]), (32, .box [Ti 0, Ti 0, Ti 0]), (24, .box [Ti f2.1, Ti f2.2.1, Ti f2.2.2]), (80000, .pbox (σ 80000) [.sl (c1.1.map c5), Ti c1.2.1, .v (.int .u64 c1.2.2)])]⟩) rfl rfl (zD rfl (qU (.pt 80000 0) rfl kk)) kk rfl (zX kk (zX kk (zX kk (zX kk zBy)))) ?_
   refine jR (s2 := ⟨.pt 80000 0 :: .bot :: .bot :: .pt 24 0 :: .pt 32 0 :: .pt 40 0 :: .ag [Ti f2.1, Ti f2.2.1, Ti f2.2.2] :: bt 8 [], [(40, .box [Ti 0, Ti 0, Ti 0]), (32, .box [Ti 0, Ti 0, Ti 0]), (24, .box [Ti f2.1, Ti f2.2.1, Ti f2.2.2]), (80000, .pbox (σ 80000) [.sl (c1.1.map c5), Ti c1.2.1, .v (.int .u64 c1.2.2)])]⟩) rfl rfl (zD rfl (zFH (cs := [Ti f2.1, Ti f2.2.1, Ti f2.2.2]) [Ti f2.1, Ti f2.2.1, Ti f2.2.2] wd27 rfl kk (Nat.le_of_ble_eq_true rfl) kk)) kk rfl (zX kk (zX kk (zX kk (zX kk zBy)))) ?_
   exact zCR
  refine zDP [1] kk kk ?_ ?_
  ·refine jR (s2 := ⟨.pt 80000 0 :: .bot :: .bot :: .pt 24 0 :: .pt 32 0 :: .pt 40 0 :: .ag [Ti f2.1, Ti f2.2.1, Ti f2.2.2] :: .pt 80000 0 :: bt 7 [], [(40, .box [Ti 0, Ti 0, Ti 0]), (32, .box [Ti 0, Ti 0, Ti 0]), (24, .box [Ti f2.1, Ti f2.2.1, Ti f2.2.2]), (80000, .pbox (σ 80000) [.sl (c1.1.map c5), Ti c1.2.1, .v (.int .u64 c1.2.2)])]⟩) rfl rfl (zD rfl (qU (.pt 80000 0) rfl kk)) kk rfl (zX kk (zX kk (zX kk (zX kk zBy)))) ?_
   exact zCR
  refine zDP [2, 0] kk kk ?_ ?_
  ·refine jR (s2 := ⟨.pt 80000 0 :: .bot :: .bot :: .pt 24 0 :: .pt 32 0 :: .pt 40 0 :: .bot :: .pt 80000 0 :: .ag [Ti y3.1.1, Ti y3.1.2.1, Ti y3.1.2.2.1, Ti y3.1.2.2.2] :: bt 6 [], [(40, .box [Ti 0, Ti 0, Ti 0]), (32, .box [Ti 0, Ti 0, Ti 0]), (24, .box [Ti f2.1, Ti f2.2.1, Ti f2.2.2]), (80000, .pbox (σ 80000) [.sl (y3.2.1.map c5), Ti y3.2.2.1, .v (.int .u64 y3.2.2.2)])]⟩) rfl rfl (qA (E' := [(40, .box [Ti 0, Ti 0, Ti 0]), (32, .box [Ti 0, Ti 0, Ti 0]), (24, .box [Ti f2.1, Ti f2.2.1, Ti f2.2.2]), (80000, .pbox (σ 80000) [.sl (y3.2.1.map c5), Ti y3.2.2.1, .v (.int .u64 y3.2.2.2)])]) [(80000, 80000)] 8 (zCc hy3) zC7 rfl rfl kk rfl (zI kk zZ) rfl kk rfl rfl kk) kk rfl (zX kk (zX kk (zX kk (zX kk zBy)))) ?_
   refine jR (s2 := ⟨.pt 80000 0 :: .bot :: .bot :: .pt 24 0 :: .pt 32 0 :: .pt 40 0 :: .ag [Ti f2.1, Ti f2.2.1, Ti f2.2.2] :: .pt 80000 0 :: bt 7 [], [(40, .box [Ti 0, Ti 0, Ti 0]), (32, .box [Ti 0, Ti 0, Ti 0]), (24, .box [Ti f2.1, Ti f2.2.1, Ti f2.2.2]), (80000, .pbox (σ 80000) [.sl (c1.1.map c5), Ti c1.2.1, .v (.int .u64 c1.2.2)])]⟩) rfl rfl (zD rfl (zFH (cs := [Ti f2.1, Ti f2.2.1, Ti f2.2.2]) [Ti f2.1, Ti f2.2.1, Ti f2.2.2] wd27 rfl kk (Nat.le_of_ble_eq_true rfl) kk)) kk rfl (zX kk (zX kk (zX kk (zX kk zBy)))) ?_
   exact zCR
  refine zDP [2] kk kk ?_ ?_
  ·refine jR (s2 := ⟨.pt 80000 0 :: .bot :: .bot :: .pt 24 0 :: .pt 32 0 :: .pt 40 0 :: .ag [Ti f2.1, Ti f2.2.1, Ti f2.2.2] :: .pt 80000 0 :: .ag [Ti y3.1.1, Ti y3.1.2.1, Ti y3.1.2.2.1, Ti y3.1.2.2.2] :: bt 6 [], [(40, .box [Ti 0, Ti 0, Ti 0]), (32, .box [Ti 0, Ti 0, Ti 0]), (24, .box [Ti f2.1, Ti f2.2.1, Ti f2.2.2]), (80000, .pbox (σ 80000) [.sl (y3.2.1.map c5), Ti y3.2.2.1, .v (.int .u64 y3.2.2.2)])]⟩) rfl rfl (qA (E' := [(40, .box [Ti 0, Ti 0, Ti 0]), (32, .box [Ti 0, Ti 0, Ti 0]), (24, .box [Ti f2.1, Ti f2.2.1, Ti f2.2.2]), (80000, .pbox (σ 80000) [.sl (y3.2.1.map c5), Ti y3.2.2.1, .v (.int .u64 y3.2.2.2)])]) [(80000, 80000)] 8 (zCc hy3) zC7 rfl rfl kk rfl (zI kk zZ) rfl kk rfl rfl kk) kk rfl (zX kk (zX kk (zX kk (zX kk zBy)))) ?_
   exact zCR
  refine zDP [0] kk kk ?_ ?_
  ·refine jR (s2 := ⟨.pt 80000 0 :: .bot :: .bot :: .pt 24 0 :: .pt 32 0 :: .pt 40 0 :: .ag [Ti f2.1, Ti f2.2.1, Ti f2.2.2] :: .pt 80000 0 :: .ag [Ti y3.1.1, Ti y3.1.2.1, Ti y3.1.2.2.1, Ti y3.1.2.2.2] :: bt 6 [], [(40, .box [Ti 0, Ti 0, Ti 0]), (32, .box [Ti 0, Ti 0, Ti 0]), (24, .box [Ti f2.1, Ti f2.2.1, Ti f2.2.2]), (80000, .pbox (σ 80000) [.sl (y3.2.1.map c5), Ti y3.2.2.1, .v (.int .u64 y3.2.2.2)])]⟩) rfl rfl (zD rfl (zFH (cs := [Ti f2.1, Ti f2.2.1, Ti f2.2.2]) [Ti f2.1, Ti f2.2.1, Ti f2.2.2] wd27 rfl kk (Nat.le_of_ble_eq_true rfl) kk)) kk rfl (zX kk (zX kk (zX kk (zX kk zBy)))) ?_
   exact zCR
  refine zDP [3] kk kk ?_ ?_
  ·refine jR (s2 := ⟨.pt 80000 0 :: .bot :: .bot :: .pt 24 0 :: .pt 32 0 :: .pt 40 0 :: .ag [Ti f2.1, Ti f2.2.1, Ti f2.2.2] :: .pt 80000 0 :: .ag [Ti y3.1.1, Ti y3.1.2.1, Ti y3.1.2.2.1, Ti y3.1.2.2.2] :: .ag [Ti y4.1, Ti y4.2.1, Ti y4.2.2] :: bt 5 [], [(40, .box [Ti 0, Ti 0, Ti 0]), (32, .box [Ti 0, Ti 0, Ti 0]), (24, .box [Ti f2.1, Ti f2.2.1, Ti f2.2.2]), (80000, .pbox (σ 80000) [.sl (y3.2.1.map c5), Ti y3.2.2.1, .v (.int .u64 y3.2.2.2)])]⟩) rfl rfl (zAT rfl (zHR (zFE hy4) zEo rfl kk)) kk rfl (zX kk (zX kk (zX kk (zX kk zBy)))) ?_
   exact zCR
  refine zDP [5] kk kk ?_ ?_
  ·refine jR (s2 := ⟨.pt 80000 0 :: .bot :: .bot :: .pt 24 0 :: .pt 32 0 :: .pt 40 0 :: .ag [Ti f2.1, Ti f2.2.1, Ti f2.2.2] :: .pt 80000 0 :: .ag [Ti y3.1.1, Ti y3.1.2.1, Ti y3.1.2.2.1, Ti y3.1.2.2.2] :: .ag [Ti y4.1, Ti y4.2.1, Ti y4.2.2] :: bt 5 [], [(40, .box [Ti y4.1, Ti y4.2.1, Ti y4.2.2]), (32, .box [Ti 0, Ti 0, Ti 0]), (24, .box [Ti f2.1, Ti f2.2.1, Ti f2.2.2]), (80000, .pbox (σ 80000) [.sl (y3.2.1.map c5), Ti y3.2.2.1, .v (.int .u64 y3.2.2.2)])]⟩) rfl rfl (E_store (id := 40) (off := 0) (cs := [Ti 0, Ti 0, Ti 0]) (vc := [Ti y4.1, Ti y4.2.1, Ti y4.2.2]) [Ti y4.1, Ti y4.2.1, Ti y4.2.2] rfl rfl kk kk kk sz27 (Nat.le_of_ble_eq_true rfl) kk) kk rfl (zX kk (zX kk (zX kk (zX kk zBy)))) ?_
   exact zCR
  refine tab_last kk ?_ tab_nil
  kernel_rfl
 refine zO ?_
 obtain ⟨y5, hy5, h⟩ := zA h
 refine VS ?_
 refine YK 1 (zH2 hy5) zHD ?_
 refine YF ?_
 refine VC h (fun h => ?_) (fun h => ?_)
 ·refine VE ?_
  cases h
  exact zM VTR
 ·refine zK ?_
  show V _ _ _ _
  refine VE ?_
  cases h
  exact zM VTR
theorem zGO : CfW Tryz.prog 138 := cfW Tryz.func138
theorem zG1 {c1 : ((List Int) × Int × Int)} {r : (((Int × Int × Int)) × (((List Int) × Int × Int)))} (h : zBX c1 = some r) : zEb Tryz.prog 138 [.pt 80000 0] [(80000, .box [.sl (c1.1.map c5), Ti c1.2.1, .v (.int .u64 c1.2.2)])] (.ag [Ti r.1.1, Ti r.1.2.1, Ti r.1.2.2]) [] [(80000, .box [.sl (r.2.1.map c5), Ti r.2.2.1, .v (.int .u64 r.2.2.2)])] := by
 refine jP (rs := [.w 2 3]) (vs := [.cell 2 27]) Tryz.func138 rfl rfl (.cons ⟨rfl, wd27⟩ FitsL.nil) (by decide) 52 rfl rfl fun σ => ?_
 unfold zBX at h
 show V _ _ ⟨.pt 80000 0 :: bt 51 [], [(80000, .pbox (σ 80000) [.sl (c1.1.map c5), Ti c1.2.1, .v (.int .u64 c1.2.2)])]⟩ _
 refine VE ?_
 refine zO ?_
 obtain ⟨y2, hy2, h⟩ := zA h
 refine VS ?_
 refine YR 1 ?_
 refine zE rfl (qA [(80000, 80000)] 6 (zS hy2) zP rfl rfl kk rfl (zI kk zZ) rfl kk rfl rfl rfl) ?_
 refine YF ?_
 refine zL ?_
 refine VE ?_
 refine VC h (fun h => ?_) (fun h => ?_)
 ·obtain ⟨y4, hy4, h⟩ := zA h
  refine VS ?_
  refine YR 1 ?_
  refine zE rfl (qA [(80000, 80000)] 10 (zIF hy4) zHn rfl rfl kk rfl (zI kk zZ) rfl kk rfl rfl rfl) ?_
  refine YF ?_
  cases h
  exact zM VTR
 ·refine VE ?_
  refine VC h (fun h => ?_) (fun h => ?_)
  ·obtain ⟨y6, hy6, h⟩ := zA h
   obtain ⟨y7, hy7, h⟩ := zA h
   refine VS ?_
   refine YR 2 ?_
   refine zE rfl (qA [(80000, 80000)] 15 (zDK hy6) zCy rfl rfl kk rfl (zI kk zZ) rfl kk rfl rfl rfl) ?_
   refine zE rfl (qA [(80000, 80000)] 16 (zCS hy7) zCL rfl rfl kk rfl (zI kk zZ) rfl kk rfl rfl rfl) ?_
   refine YF ?_
   obtain ⟨y8, hy8, h⟩ := zA h
   obtain ⟨k9, hk9, h⟩ := zR h
   refine zG (mb 52 29) [24, 16, 80000] (s1 := ⟨.pt 80000 0 :: .bot :: .pt 16 0 :: .pt 24 0 :: I k9 :: bt 47 [], [(24, .box [Ti y7.1.1, Ti y7.1.2.1, Ti y7.1.2.2]), (16, .box [Ti 0, Ti 0, Ti 0]), (80000, .pbox (σ 80000) [.sl (y8.2.1.map c5), Ti y8.2.2.1, .v (.int .u64 y8.2.2.2)])]⟩) ?_ ?_
   ·refine XR 1 ?_
    refine zE rfl (qA [(80000, 80000)] 18 (zS hy8) zP rfl rfl kk rfl (zI kk zZ) rfl kk rfl rfl rfl) ?_
    refine XR 2 ?_
    refine zH ?_
    subst hk9
    kernel_rfl
   obtain ⟨y10, hy10, h⟩ := zA h
   refine VS ?_
   refine YR 13 ?_
   refine L0 rfl rfl (qJ (cs := [Ti (w64 (k9 * y7.1.1)), Ti (w64 (k9 * y7.1.2.1)), Ti (w64 (k9 * y7.1.2.2))]) pl27 bt27 rfl rfl kk) ?_
   refine zE rfl (qA [(80000, 80000)] 34 (zCp hy10) zCf rfl rfl kk rfl (zI kk zZ) rfl kk rfl rfl rfl) ?_
   refine YF ?_
   cases h
   exact zM VTR
  ·refine VE ?_
   refine VC h (fun h => ?_) (fun h => ?_)
   ·obtain ⟨y12, hy12, h⟩ := zA h
    obtain ⟨y13, hy13, h⟩ := zA h
    obtain ⟨y14, hy14, h⟩ := zA h
    obtain ⟨f15, hf15, h⟩ := zR h
    obtain ⟨f16, hf16, h⟩ := zR h
    refine zG (mb 52 4) [16, 80000] (s1 := ⟨.bot :: .bot :: .pt 16 0 :: bt 49 [], [(16, .box [Ti f15, Ti y13.1, Ti f16]), (80000, .pbox (σ 80000) [.sl (y14.2.1.map c5), Ti y14.2.2.1, .v (.int .u64 y14.2.2.2)])]⟩) ?_ ?_
    ·refine XR 1 ?_
     refine zE rfl (qA [(80000, 80000)] 38 (zS hy12) zP rfl rfl kk rfl (zI kk zZ) rfl kk rfl rfl rfl) ?_
     refine XR 2 ?_
     refine zE rfl (qA [(80000, 80000)] 41 (zS hy13) zP rfl rfl kk rfl (zI kk zZ) rfl kk rfl rfl rfl) ?_
     refine XR 1 ?_
     refine zE rfl (qA [(80000, 80000)] 43 (zS hy14) zP rfl rfl kk rfl (zI kk zZ) rfl kk rfl rfl rfl) ?_
     refine XR 1 ?_
     refine L0 rfl rfl (qJ (cs := [Ti (w64 (1 + y12.1)), Ti y13.1, Ti (w64 (250000 + y14.1))]) pl27 bt27 rfl rfl kk) ?_
     refine XR 1 ?_
     refine zH ?_
     subst hf15 hf16
     kernel_rfl
    cases h
    exact zM VTR
   ·refine zK ?_
    show V _ _ _ _
    obtain ⟨y17, hy17, h⟩ := zA h
    obtain ⟨y18, hy18, h⟩ := zA h
    obtain ⟨y19, hy19, h⟩ := zA h
    refine VS ?_
    refine YR 3 ?_
    refine zE rfl (qA [(80000, 80000)] 49 (zDK hy17) zCy rfl rfl kk rfl (zI kk zZ) rfl kk rfl rfl rfl) ?_
    refine zE rfl (qA [(80000, 80000)] 50 (zCS hy18) zCL rfl rfl kk rfl (zI kk zZ) rfl kk rfl rfl rfl) ?_
    refine zE rfl (qA [(80000, 80000)] 51 (zCp hy19) zCf rfl rfl kk rfl (zI kk zZ) rfl kk rfl rfl rfl) ?_
    refine YF ?_
    cases h
    exact zM VTR
theorem zFu : CfW Tryz.prog 88 := cfW Tryz.func88
theorem zGB {c1 : ((List Int) × Int × Int)} {r : (((Int × Int × Int)) × (((List Int) × Int × Int)))} (h : zBG c1 = some r) : zEb Tryz.prog 88 [.pt 80000 0] [(80000, .box [.sl (c1.1.map c5), Ti c1.2.1, .v (.int .u64 c1.2.2)])] (.ag [Ti r.1.1, Ti r.1.2.1, Ti r.1.2.2]) [] [(80000, .box [.sl (r.2.1.map c5), Ti r.2.2.1, .v (.int .u64 r.2.2.2)])] := by
 refine jP (rs := [.w 2 3]) (vs := [.cell 2 27]) Tryz.func88 rfl rfl (.cons ⟨rfl, wd27⟩ FitsL.nil) (by decide) 18 rfl rfl fun σ => ?_
 unfold zBG at h
 show V _ _ ⟨.pt 80000 0 :: bt 17 [], [(80000, .pbox (σ 80000) [.sl (c1.1.map c5), Ti c1.2.1, .v (.int .u64 c1.2.2)])]⟩ _
 refine VE ?_
 refine zO ?_
 obtain ⟨y2, hy2, h⟩ := zA h
 refine VS ?_
 refine YR 1 ?_
 refine zE rfl (qA [(80000, 80000)] 5 (zDe hy2) zDV rfl rfl kk rfl (zI kk zZ) rfl kk rfl rfl rfl) ?_
 refine YF ?_
 refine VC h (fun h => ?_) (fun h => ?_)
 ·obtain ⟨y4, hy4, h⟩ := zA h
  refine VS ?_
  refine YR 1 ?_
  refine zE rfl (qA [(80000, 80000)] 7 (zG1 hy4) zGO rfl rfl kk rfl (zI kk zZ) rfl kk rfl rfl rfl) ?_
  refine YF ?_
  cases h
  exact zM VTR
 ·refine zK ?_
  show V _ _ _ _
  obtain ⟨y5, hy5, h⟩ := zA h
  obtain ⟨y6, hy6, h⟩ := zA h
  refine VS ?_
  refine YR 2 ?_
  refine zE rfl (qA [(80000, 80000)] 10 (zDK hy5) zCy rfl rfl kk rfl (zI kk zZ) rfl kk rfl rfl rfl) ?_
  refine zE rfl (qA [(80000, 80000)] 11 (zCS hy6) zCL rfl rfl kk rfl (zI kk zZ) rfl kk rfl rfl rfl) ?_
  refine YF ?_
  refine zO ?_
  obtain ⟨y7, hy7, h⟩ := zA h
  refine VS ?_
  refine YR 1 ?_
  refine zE rfl (qA [(80000, 80000)] 13 (zDe hy7) zDV rfl rfl kk rfl (zI kk zZ) rfl kk rfl rfl rfl) ?_
  refine YF ?_
  refine VC h (fun h => ?_) (fun h => ?_)
  ·obtain ⟨y9, hy9, h⟩ := zA h
   refine VS ?_
   refine YR 2 ?_
   refine zE rfl (qA [(80000, 80000)] 16 (zCp hy9) zCf rfl rfl kk rfl (zI kk zZ) rfl kk rfl rfl rfl) ?_
   refine YF ?_
   cases h
   exact zM VTR
  ·refine zK ?_
   show V _ _ _ _
   refine VE ?_
   cases h
   exact zM VTR
theorem zG5 : CfW Tryz.prog 30 := cfW Tryz.func30
theorem zGf {code1 : List Int} {r : (((Int × Int × Int)) × Int)} (h : zBc code1 = some r) : qE Tryz.prog 30 [.c (.sl (code1.map c5))] (.tc (.ag [Ti r.1.1, Ti r.1.2.1, Ti r.1.2.2]) (.tc (I r.2) .tn)) [] := by
 refine qI (rs := [.w 2 3, .t 3]) (vs := [.cell 2 27, .tmp 3]) Tryz.func30 rfl rfl (.cons ⟨rfl, wd27⟩ (.cons rfl FitsL.nil)) (by decide) 27 rfl ?_
 unfold zBc at h
 refine VE ?_
 refine VS ?_
 refine YR 1 ?_
 refine L0 rfl rfl (qJ (cs := [.sl (code1.map c5), Ti 0, .v (.int .u64 0)]) pl85 bt85 rfl rfl kk) ?_
 refine YF ?_
 obtain ⟨y2, hy2, h⟩ := zA h
 refine VS ?_
 refine YR 1 ?_
 refine zE rfl (qA [(80000, 72)] 12 (zHT hy2) zHC rfl rfl kk rfl (zI kk zZ) rfl kk rfl rfl rfl) ?_
 refine YF ?_
 refine zO ?_
 obtain ⟨y3, hy3, h⟩ := zA h
 refine VS ?_
 refine YK 1 (zDv hy3) zD8 ?_
 refine YF ?_
 refine VC h (fun h => ?_) (fun h => ?_)
 ·obtain ⟨y5, hy5, h⟩ := zA h
  refine VS ?_
  refine YR 1 ?_
  refine zE rfl (qA [(80000, 72)] 19 (zGB hy5) zFu rfl rfl kk rfl (zI kk zZ) rfl kk rfl rfl rfl) ?_
  refine YF ?_
  cases h
  exact zM VT
 ·refine zK ?_
  show V _ _ _ _
  obtain ⟨y6, hy6, h⟩ := zA h
  obtain ⟨y7, hy7, h⟩ := zA h
  refine VS ?_
  refine YR 3 ?_
  refine zE rfl (qA [(80000, 72)] 24 (zCS hy6) zCL rfl rfl kk rfl (zI kk zZ) rfl kk rfl rfl rfl) ?_
  refine zE rfl (qA [(80000, 72)] 25 (zCp hy7) zCf rfl rfl kk rfl (zI kk zZ) rfl kk rfl rfl rfl) ?_
  refine YF ?_
  cases h
  exact zM VT
theorem zEK : CfW Tryz.prog 143 := cfW Tryz.func143
theorem zEU {list1 : List Int} {r : Bool} (h : zBK list1 = some r) : qE Tryz.prog 143 [.c (.sl (list1.map c3))] (Bo r) [] := by
 refine CtW [2] Tryz.func143 rfl rfl 18 ?_
 unfold zBK at h
 refine VE ?_
 refine zO ?_
 refine VS ?_
 refine YR 1 ?_
 refine L0 rfl rfl (zBN (c := c3) (xs := list1) Tryz.underlying34 rfl kk) ?_
 refine YF ?_
 obtain ⟨qo4, hLo4, hko4⟩ := zA h
 refine zE6 (q := qo4) (S := fun o4 => ⟨bt 18 [], []⟩) (mb 18 0) [] ?_ ?_
 ·refine zL (qT (fun n s => ∃ (t2 : Int), s.keep (mb 18 224) [] = (⟨bt 5 (.c (.sl (list1.map c3)) :: I ((list1.length : Int)) :: I t2 :: bt 10 []), []⟩ : St) ∧ zAv list1 n t2 = some qo4) FU ⟨_,  kk, hLo4⟩ ?_)
  clear hLo4
  rintro n s ⟨t2, hs, h⟩
  refine qQ _ _ hs ?_
  clear hs
  cases n with
  | zero => cases h
  | succ n =>
   rw [zAv] at h
   refine VE ?_
   refine zO ?_
   refine VC h (fun h => ?_) (fun h => ?_)
   ·refine zK ?_
    show V _ _ _ _
    refine zO ?_
    refine zL ?_
    obtain ⟨e6, he6, h⟩ := zA h
    refine VS ?_
    refine L0 rfl rfl (zFG (c := c3) (xs := list1) (v := e6) (n := t2) Tryz.underlying34 sz3 rfl kk kk he6) ?_
    refine YF ?_
    refine zG (mb 18 65760) [] (s1 := ⟨bt 5 (.c (.sl (list1.map c3)) :: I ((list1.length : Int)) :: I t2 :: bt 8 (Bo (bif (ltI e6 (-1000000)) then true else (ltI 1000000 e6)) :: .bot :: [])), []⟩) ?_ ?_
    ·refine YR 3 ?_
     refine zU (ltI e6 (-1000000)) (fun hc7 => ?_) (fun hc7 => ?_)
     ·refine YQ hc7 ?_
      exact YE (by rw [hc7]; kernel_rfl)
     ·refine YQ hc7 ?_
      exact YE (by rw [hc7]; kernel_rfl)
    refine VC h (fun h => ?_) (fun h => ?_)
    ·refine VE ?_
     refine zM ?_
     obtain rfl := zB h
     have h := hko4
     obtain rfl := zB h
     exact VT
    ·refine zK ?_
     show V _ _ _ _
     obtain ⟨t9, ht9, h⟩ := zR h
     refine qS (mb 18 224) [] (s1 := ⟨bt 5 (.c (.sl (list1.map c3)) :: I ((list1.length : Int)) :: I t9 :: bt 10 []), []⟩) ?_ ?_
     ·refine XR 2 ?_
      refine zH ?_
      subst ht9
      kernel_rfl
     exact ⟨n, Nat.lt_succ_self n, _,  kk, h⟩
   ·refine qO ?_
    obtain rfl := zB h
    exact ⟨_, rfl, kk⟩
 rintro o4 rfl
 have h := hko4
 clear hko4
 show V _ _ _ _
 refine VE ?_
 cases h
 exact zM VT
theorem zHG : CfW Tryz.prog 93 := cfW Tryz.func93
theorem zH3 {f1 : (Int × Int × Int)} {r : Bool} (h : zCb f1 = some r) : qE Tryz.prog 93 [.ag [Ti f1.1, Ti f1.2.1, Ti f1.2.2]] (Bo r) [] := by
 refine CtW [2] Tryz.func93 rfl rfl 11 ?_
 unfold zCb at h
 refine VE ?_
 obtain ⟨y2, hy2, h⟩ := zA h
 refine VS ?_
 refine YR 6 ?_
 refine L1 rfl rfl (zAI (z := zv3) (els := [f1.1, f1.2.1, f1.2.2].map c3) Tryz.underlying34 iz3 rfl (by decide) rfl kk rfl (by simp [c3]) (by decide) (by decide)) ?_
 refine L1 rfl rfl (zEB (zEU hy2) zEK rfl kk rfl rfl) ?_
 refine YF ?_
 cases h
 exact zM VT
theorem zAg : CfW Tryz.prog 52 := cfW Tryz.func52
theorem zAq {f1 : (Int × Int × Int)} {r : Int} (h : zY f1 = some r) : qE Tryz.prog 52 [.ag [Ti f1.1, Ti f1.2.1, Ti f1.2.2]] (I r) [] := by
 refine CtW [2] Tryz.func52 rfl rfl 15 ?_
 unfold zY at h
 refine VE ?_
 obtain ⟨t2, ht2, h⟩ := zR h
 refine zG (mb 15 4) [] (s1 := ⟨.bot :: .bot :: I t2 :: bt 12 [], []⟩) ?_ ?_
 ·refine XR 13 ?_
  refine zH ?_
  subst ht2
  kernel_rfl
 cases h
 exact zM VT
theorem zFW : CfW Tryz.prog 97 := cfW Tryz.func97
theorem zF4 {f1 : (Int × Int × Int)} {r : Bool} (h : qZ f1 = some r) : qE Tryz.prog 97 [.ag [Ti f1.1, Ti f1.2.1, Ti f1.2.2]] (Bo r) [] := by
 refine CtW [2] Tryz.func97 rfl rfl 15 ?_
 unfold qZ at h
 refine VE ?_
 obtain ⟨y2, hy2, h⟩ := zA h
 obtain ⟨b5, hb5, h⟩ := zA h
 refine zG (mb 15 4) [] (s1 := ⟨.bot :: .bot :: Bo (bif b5 then (ltI 0 f1.1) else false) :: bt 12 [], []⟩) ?_ ?_
 ·refine YK 1 (zH3 hy2) zHG ?_
  refine YR 1 ?_
  refine zU y2 (fun hc3 => ?_) (fun hc3 => ?_)
  ·have hb5 := zT hb5 hc3
   obtain ⟨y4, hy4, hb5⟩ := zA hb5
   have hb5 := zB hb5
   refine YQ hc3 ?_
   refine YK 1 (zAq hy4) zAg ?_
   refine YR 3 ?_
   refine zU b5 (fun hc6 => ?_) (fun hc6 => ?_)
   ·refine YQ hc6 ?_ (by rw [← hb5]; (try rw [hc3]); kernel_rfl)
    exact YE (by rw [hc6]; kernel_rfl)
   ·refine YQ hc6 ?_ (by rw [← hb5]; (try rw [hc3]); kernel_rfl)
    exact YE (by rw [hc6]; kernel_rfl)
  ·have hb5 := zB (zJ hb5 hc3)
   refine YQ hc3 ?_
   refine YR 5 ?_
   subst hb5
   have hc6 : false = false := rfl
   exact YE
 cases h
 exact zM VT
theorem zHY : CfW Tryz.prog 109 := cfW Tryz.func109
theorem zHg {f1 : (Int × Int × Int)} {r : Bool} (h : jM f1 = some r) : qE Tryz.prog 109 [.ag [Ti f1.1, Ti f1.2.1, Ti f1.2.2]] (Bo r) [] := by
 refine CtW [2] Tryz.func109 rfl rfl 10 ?_
 unfold jM at h
 refine VE ?_
 obtain ⟨y2, hy2, h⟩ := zA h
 obtain ⟨b5, hb5, h⟩ := zA h
 refine zG (mb 10 4) [] (s1 := ⟨.bot :: .bot :: Bo b5 :: bt 7 [], []⟩) ?_ ?_
 ·refine YK 1 (zF4 hy2) zFW ?_
  refine YR 1 ?_
  refine zU y2 (fun hc3 => ?_) (fun hc3 => ?_)
  ·have hb5 := zT hb5 hc3
   obtain ⟨y4, hy4, hb5⟩ := zA hb5
   have hb5 := zB hb5
   refine YQ hc3 ?_
   refine YK 1 (zAq hy4) zAg ?_
   exact YE (by rw [← hb5]; (try rw [hc3]); kernel_rfl)
  ·have hb5 := zB (zJ hb5 hc3)
   refine YQ hc3 ?_
   exact YE (by rw [← hb5]; (try rw [hc3]); kernel_rfl)
 cases h
 exact zM VT
theorem zFb : CfW Tryz.prog 144 := cfW Tryz.func144
theorem zGE {vn1 : Int} {r : Int} (h : zCa vn1 = some r) : qE Tryz.prog 144 [I vn1] (I r) [] := by
 refine CtW [2] Tryz.func144 rfl rfl 8 ?_
 unfold zCa at h
 refine VE ?_
 obtain ⟨t2, ht2, h⟩ := zR h
 refine zG (mb 8 4) [] (s1 := ⟨.bot :: .bot :: I t2 :: bt 5 [], []⟩) ?_ ?_
 ·refine XR 2 ?_
  refine L0 rfl rfl (Y0_max (a := vn1) (b := -9223372036854775807) rfl kk kk) ?_
  refine XR 1 ?_
  refine L0 rfl rfl (Y0_max (a := vn1) (b := w64 (0 - (mxI vn1 (-9223372036854775807)))) rfl kk kk) ?_
  refine XR 1 ?_
  refine zH ?_
  subst ht2
  kernel_rfl
 cases h
 exact zM VT
theorem zFa : CfW Tryz.prog 114 := cfW Tryz.func114
theorem zGD {a1 : Int} {b2 : Int} {r : Int} (h : zD5 a1 b2 = some r) : qE Tryz.prog 114 [I a1, I b2] (I r) [] := by
 refine CtW [4] Tryz.func114 rfl rfl 13 ?_
 unfold zD5 at h
 refine VE ?_
 refine zO ?_
 obtain ⟨o6, hLo6, h⟩ := zA h
 refine zAz (mb 13 1) [] (s1 := ⟨I o6 :: bt 12 [], []⟩) ?_ ?_
 ·clear h
  refine zL (qT (fun n s => ∃ (a3 : Int) (b4 : Int), s.keep (mb 13 3) [] = (⟨I a3 :: I b4 :: bt 11 [], []⟩ : St) ∧ zA1 n a3 b4 = some o6) FU ⟨_, _,  kk, hLo6⟩ ?_)
  clear hLo6
  rintro n s ⟨a3, b4, hs, h⟩
  refine qQ _ _ hs ?_
  clear hs
  cases n with
  | zero => cases h
  | succ n =>
   rw [zA1] at h
   refine zO ?_
   refine VE ?_
   refine VC h (fun h => ?_) (fun h => ?_)
   ·refine zK ?_
    show V _ _ _ _
    refine zL ?_
    obtain ⟨z8, hz8, h⟩ := zA h
    obtain ⟨b9, hb9, h⟩ := zR h
    refine V_dreg [0, 0, 0, 6, 3, 31] 6 (cdm 6 [168, 34, 522, 534, 165, 341]) (mb 13 3) [] (s1 := ⟨I b4 :: I b9 :: bt 11 [], []⟩) kk kk ?_ ?_
    ·refine DR 3 ?_
     refine DE_0 3 (I (Int.tmod a3 b4)) kk rfl rfl rfl (zAi rfl) kk (zCP (k := .i64) (a := a3) (b := b4) rfl kk kk (jC hz8)) 10 rfl ?_
     refine DA 2 ?_
     refine zH ?_
     subst hb9
     kernel_rfl
    exact ⟨n, Nat.lt_succ_self n, _, _,  kk, h⟩
   ·refine qO ?_
    obtain rfl := zB h
    show St.keep _ _ _ = _
    kernel_rfl
 show V _ _ _ _
 obtain ⟨y10, hy10, h⟩ := zA h
 refine VS ?_
 refine YK 1 (zGE hy10) zFb ?_
 refine YF ?_
 cases h
 exact zM VT
theorem zDb : CfW Tryz.prog 56 := cfW Tryz.func56
theorem zDp {f1 : (Int × Int × Int)} {r : Int} (h : jX f1 = some r) : qE Tryz.prog 56 [.ag [Ti f1.1, Ti f1.2.1, Ti f1.2.2]] (I r) [] := by
 refine CtW [2] Tryz.func56 rfl rfl 11 ?_
 unfold jX at h
 refine VE ?_
 obtain ⟨y2, hy2, h⟩ := zA h
 obtain ⟨y3, hy3, h⟩ := zA h
 refine VDS [0, 1, 0, 4, 0, 16, 60, 127, 255] 9 (cdm 9 [10912, 10913, 2570, 2586, 170, 426, 1370, 5461, 21845]) ?_
 refine EK 6 (zGD hy2) zFa ?_
 refine EK 0 (zGD hy3) zFa ?_
 refine EF 1 ?_
 cases h
 exact zM VT
theorem zDr : CfW Tryz.prog 50 := cfW Tryz.func50
theorem zEI {f1 : (Int × Int × Int)} {r : Bool} (h : qC f1 = some r) : qE Tryz.prog 50 [.ag [Ti f1.1, Ti f1.2.1, Ti f1.2.2]] (Bo r) [] := by
 refine CtW [2] Tryz.func50 rfl rfl 10 ?_
 unfold qC at h
 refine VE ?_
 obtain ⟨y2, hy2, h⟩ := zA h
 obtain ⟨b5, hb5, h⟩ := zA h
 refine zG (mb 10 4) [] (s1 := ⟨.bot :: .bot :: Bo b5 :: bt 7 [], []⟩) ?_ ?_
 ·refine YK 1 (zHg hy2) zHY ?_
  refine YR 1 ?_
  refine zU y2 (fun hc3 => ?_) (fun hc3 => ?_)
  ·have hb5 := zT hb5 hc3
   obtain ⟨y4, hy4, hb5⟩ := zA hb5
   have hb5 := zB hb5
   refine YQ hc3 ?_
   refine YK 1 (zDp hy4) zDb ?_
   exact YE (by rw [← hb5]; (try rw [hc3]); kernel_rfl)
  ·have hb5 := zB (zJ hb5 hc3)
   refine YQ hc3 ?_
   exact YE (by rw [← hb5]; (try rw [hc3]); kernel_rfl)
 cases h
 exact zM VT
theorem zJX : CfW Tryz.prog 163 := cfW Tryz.func163
theorem zJn {vn1 : Int} {r : Bool} (h : j7 vn1 = some r) : qE Tryz.prog 163 [I vn1] (Bo r) [] := by
 refine CtW [2] Tryz.func163 rfl rfl 17 ?_
 unfold j7 at h
 refine VE ?_
 refine zO ?_
 refine VE ?_
 refine VC h (fun h => ?_) (fun h => ?_)
 ·refine VE ?_
  cases h
  exact zM VT
 ·refine zK ?_
  show V _ _ _ _
  refine zO ?_
  refine VE ?_
  obtain ⟨qo5, hLo5, hko5⟩ := zA h
  refine zE6 (q := qo5) (S := fun o5 => ⟨bt 17 [], []⟩) (mb 17 0) [] ?_ ?_
  ·refine zL (qT (fun n s => ∃ (p3 : Int), s.keep (mb 17 9) [] = (⟨I vn1 :: .bot :: .bot :: I p3 :: bt 13 [], []⟩ : St) ∧ zAd vn1 n p3 = some qo5) FU ⟨_,  kk, hLo5⟩ ?_)
   clear hLo5
   rintro n s ⟨p3, hs, h⟩
   refine qQ _ _ hs ?_
   clear hs
   cases n with
   | zero => cases h
   | succ n =>
    rw [zAd] at h
    refine zO ?_
    refine VE ?_
    refine VC h (fun h => ?_) (fun h => ?_)
    ·refine zK ?_
     show V _ _ _ _
     refine zO ?_
     refine zL ?_
     obtain ⟨z7, hz7, h⟩ := zA h
     refine VS ?_
     refine YR 2 ?_
     refine L0 rfl rfl (zCP (k := .i64) (a := vn1) (b := p3) rfl kk kk (jC hz7)) ?_
     refine YF ?_
     refine VC h (fun h => ?_) (fun h => ?_)
     ·refine VE ?_
      refine zM ?_
      obtain rfl := zB h
      have h := hko5
      obtain rfl := zB h
      exact VT
     ·refine zK ?_
      show V _ _ _ _
      obtain ⟨p9, hp9, h⟩ := zR h
      refine qS (mb 17 9) [] (s1 := ⟨I vn1 :: .bot :: .bot :: I p9 :: bt 13 [], []⟩) ?_ ?_
      ·refine XR 3 ?_
       refine zH ?_
       subst hp9
       kernel_rfl
      exact ⟨n, Nat.lt_succ_self n, _,  kk, h⟩
    ·refine qO ?_
     obtain rfl := zB h
     exact ⟨_, rfl, kk⟩
  rintro o5 rfl
  have h := hko5
  clear hko5
  show V _ _ _ _
  refine VE ?_
  cases h
  exact zM VT
theorem zG0 : CfW Tryz.prog 110 := cfW Tryz.func110
theorem zGk {vn1 : Int} {r : Bool} (h : zCH vn1 = some r) : qE Tryz.prog 110 [I vn1] (Bo r) [] := by
 refine CtW [2] Tryz.func110 rfl rfl 10 ?_
 unfold zCH at h
 refine VE ?_
 obtain ⟨y2, hy2, h⟩ := zA h
 obtain ⟨b5, hb5, h⟩ := zA h
 refine zG (mb 10 4) [] (s1 := ⟨.bot :: .bot :: Bo b5 :: bt 7 [], []⟩) ?_ ?_
 ·refine YR 1 ?_
  refine L1 rfl rfl (zAI (z := zv3) (els := [vn1].map c3) Tryz.underlying34 iz3 rfl (by decide) rfl kk rfl (by simp [c3]) (by decide) (by decide)) ?_
  refine L1 rfl rfl (zEB (zEU hy2) zEK rfl kk rfl rfl) ?_
  refine YR 1 ?_
  refine zU y2 (fun hc3 => ?_) (fun hc3 => ?_)
  ·have hb5 := zT hb5 hc3
   obtain ⟨y4, hy4, hb5⟩ := zA hb5
   have hb5 := zB hb5
   refine YQ hc3 ?_
   refine YK 1 (zJn hy4) zJX ?_
   exact YE (by rw [← hb5]; (try rw [hc3]); kernel_rfl)
  ·have hb5 := zB (zJ hb5 hc3)
   refine YQ hc3 ?_
   exact YE (by rw [← hb5]; (try rw [hc3]); kernel_rfl)
 cases h
 exact zM VT
theorem zCo : CfW Tryz.prog 129 := cfW Tryz.func129
theorem zDZ {a1 : Int} {vm2 : Int} {r : Int} (h : zB2 a1 vm2 = some r) : qE Tryz.prog 129 [I a1, I vm2] (I r) [] := by
 refine CtW [4] Tryz.func129 rfl rfl 15 ?_
 unfold zB2 at h
 refine VE ?_
 obtain ⟨z3, hz3, h⟩ := zA h
 obtain ⟨vr4, hvr4, h⟩ := zR h
 refine zG (mb 15 34) [] (s1 := ⟨.bot :: I vm2 :: bt 3 (I vr4 :: bt 9 []), []⟩) ?_ ?_
 ·refine XR 2 ?_
  refine L0 rfl rfl (zCP (k := .i64) (a := a1) (b := vm2) rfl kk kk (jC hz3)) ?_
  refine XR 1 ?_
  refine zH ?_
  subst hvr4
  kernel_rfl
 refine zO ?_
 refine VE ?_
 refine VC h (fun h => ?_) (fun h => ?_)
 ·obtain ⟨vr6, hvr6, h⟩ := zR h
  refine qS (mb 15 32) [] (s1 := ⟨bt 5 (I vr6 :: bt 9 []), []⟩) ?_ ?_
  ·refine XR 4 ?_
   refine zH ?_
   subst hvr6
   kernel_rfl
  show V _ _ _ _
  refine VE ?_
  cases h
  exact zM VT
 ·refine zK ?_
  show V _ _ _ _
  refine VE ?_
  cases h
  exact zM VT
theorem zAF : CfW Tryz.prog 75 := cfW Tryz.func75
theorem zAK {d1 : Int} {r : Bool} (h : qF d1 = some r) : qE Tryz.prog 75 [I d1] (Bo r) [] := by
 refine CtW [2] Tryz.func75 rfl rfl 14 ?_
 unfold qF at h
 refine VE ?_
 obtain ⟨b5, hb5, h⟩ := zA h
 refine zG (mb 14 4) [] (s1 := ⟨.bot :: .bot :: Bo b5 :: bt 11 [], []⟩) ?_ ?_
 ·refine YR 3 ?_
  refine zU (leI (-2000) d1) (fun hc2 => ?_) (fun hc2 => ?_)
  ·refine YQ hc2 ?_
   refine YR 4 ?_
   refine zU (bif (leI (-2000) d1) then (leI d1 (-3)) else false) (fun hc3 => ?_) (fun hc3 => ?_)
   ·have hb5 := zT hb5 hc3
    obtain ⟨y4, hy4, hb5⟩ := zA hb5
    have hb5 := zB hb5
    refine YQ hc3 ?_ (by rw [hc2]; kernel_rfl)
    refine YK 1 (zDZ hy4) zCo ?_
    exact YE (by rw [← hb5]; (try rw [hc3]); (try rw [hc2]); kernel_rfl)
   ·have hb5 := zB (zJ hb5 hc3)
    refine YQ hc3 ?_ (by rw [hc2]; kernel_rfl)
    exact YE (by rw [← hb5]; (try rw [hc3]); (try rw [hc2]); kernel_rfl)
  ·refine YQ hc2 ?_
   refine YR 4 ?_
   refine zU (bif (leI (-2000) d1) then (leI d1 (-3)) else false) (fun hc3 => ?_) (fun hc3 => ?_)
   ·have hb5 := zT hb5 hc3
    obtain ⟨y4, hy4, hb5⟩ := zA hb5
    have hb5 := zB hb5
    refine YQ hc3 ?_ (by rw [hc2]; kernel_rfl)
    refine YK 1 (zDZ hy4) zCo ?_
    exact YE (by rw [← hb5]; (try rw [hc3]); (try rw [hc2]); kernel_rfl)
   ·have hb5 := zB (zJ hb5 hc3)
    refine YQ hc3 ?_ (by rw [hc2]; kernel_rfl)
    exact YE (by rw [← hb5]; (try rw [hc3]); (try rw [hc2]); kernel_rfl)
 cases h
 exact zM VT
theorem zEF : CfW Tryz.prog 51 := cfW Tryz.func51
theorem zET {d1 : Int} {p2 : Int} {r : Bool} (h : j9 d1 p2 = some r) : qE Tryz.prog 51 [I d1, I p2] (Bo r) [] := by
 refine CtW [4] Tryz.func51 rfl rfl 19 ?_
 unfold j9 at h
 refine VE ?_
 obtain ⟨y3, hy3, h⟩ := zA h
 obtain ⟨b7, hb7, h⟩ := zA h
 refine zG (mb 19 16) [] (s1 := ⟨bt 4 (Bo b7 :: bt 14 []), []⟩) ?_ ?_
 ·refine YK 1 (zGk hy3) zG0 ?_
  refine YR 1 ?_
  refine zU y3 (fun hc4 => ?_) (fun hc4 => ?_)
  ·refine YQ hc4 ?_
   refine YR 4 ?_
   refine zU (bif y3 then (leI p2 2000) else false) (fun hc5 => ?_) (fun hc5 => ?_)
   ·have hb7 := zT hb7 hc5
    obtain ⟨y6, hy6, hb7⟩ := zA hb7
    have hb7 := zB hb7
    refine YQ hc5 ?_ (by rw [hc4]; kernel_rfl)
    refine YK 5 (zAK hy6) zAF ?_
    exact YE (by rw [← hb7]; (try rw [hc5]); (try rw [hc4]); kernel_rfl)
   ·have hb7 := zB (zJ hb7 hc5)
    refine YQ hc5 ?_ (by rw [hc4]; kernel_rfl)
    exact YE (by rw [← hb7]; (try rw [hc5]); (try rw [hc4]); kernel_rfl)
  ·refine YQ hc4 ?_
   refine YR 4 ?_
   refine zU (bif y3 then (leI p2 2000) else false) (fun hc5 => ?_) (fun hc5 => ?_)
   ·have hb7 := zT hb7 hc5
    obtain ⟨y6, hy6, hb7⟩ := zA hb7
    have hb7 := zB hb7
    refine YQ hc5 ?_ (by rw [hc4]; kernel_rfl)
    refine YK 5 (zAK hy6) zAF ?_
    exact YE (by rw [← hb7]; (try rw [hc5]); (try rw [hc4]); kernel_rfl)
   ·have hb7 := zB (zJ hb7 hc5)
    refine YQ hc5 ?_ (by rw [hc4]; kernel_rfl)
    exact YE (by rw [← hb7]; (try rw [hc5]); (try rw [hc4]); kernel_rfl)
 cases h
 exact zM VT
theorem zHE : CfW Tryz.prog 148 := cfW Tryz.func148
theorem zHf {r : (Int × Int × Int × Int)} (h : zCv = some r) : qE Tryz.prog 148 [] (.ag [Ti r.1, Ti r.2.1, Ti r.2.2.1, Ti r.2.2.2]) [] := by
 refine qI (rs := [.w 0 4]) (vs := [.cell 0 57]) Tryz.func148 rfl rfl (.cons ⟨rfl, wd57⟩ FitsL.nil) (by decide) 2 rfl ?_
 unfold zCv at h
 refine VE ?_
 refine VS ?_
 refine L0 rfl rfl (qJ (cs := [Ti 1, Ti 0, Ti 0, Ti 1]) pl57 bt57 rfl rfl kk) ?_
 refine YF ?_
 cases h
 exact zM VT
theorem zEa : CfW Tryz.prog 184 := cfW Tryz.func184
theorem zEp {f1 : (Int × Int × Int)} {r : Bool} (h : qL f1 = some r) : qE Tryz.prog 184 [.ag [Ti f1.1, Ti f1.2.1, Ti f1.2.2]] (Bo r) [] := by
 refine CtW [2] Tryz.func184 rfl rfl 16 ?_
 unfold qL at h
 refine VE ?_
 obtain ⟨t3, ht3, h⟩ := zA h
 have ht3 := zB ht3
 refine zG (mb 16 4) [] (s1 := ⟨.bot :: .bot :: Bo t3 :: bt 13 [], []⟩) ?_ ?_
 ·refine YR 7 ?_
  refine zU (ltI (w64 (0 - f1.1)) f1.2.1) (fun hc2 => ?_) (fun hc2 => ?_)
  ·refine YQ hc2 ?_
   exact YE (by rw [← ht3]; (try rw [hc2]); kernel_rfl)
  ·refine YQ hc2 ?_
   exact YE (by rw [← ht3]; (try rw [hc2]); kernel_rfl)
 cases h
 exact zM VT
theorem zCz : CfW Tryz.prog 149 := cfW Tryz.func149
theorem zDL {f1 : (Int × Int × Int)} {r : Bool} (h : jA f1 = some r) : qE Tryz.prog 149 [.ag [Ti f1.1, Ti f1.2.1, Ti f1.2.2]] (Bo r) [] := by
 refine CtW [2] Tryz.func149 rfl rfl 24 ?_
 unfold jA at h
 refine VE ?_
 obtain ⟨y2, hy2, h⟩ := zA h
 obtain ⟨t6, ht6, h⟩ := zA h
 have ht6 := zB ht6
 refine zG (mb 24 4) [] (s1 := ⟨.bot :: .bot :: Bo t6 :: bt 21 [], []⟩) ?_ ?_
 ·refine YK 1 (zEp hy2) zEa ?_
  refine YR 1 ?_
  refine zU y2 (fun hc3 => ?_) (fun hc3 => ?_)
  ·refine YQ hc3 ?_
   refine YR 6 ?_
   refine zU (ltI f1.1 f1.2.2) (fun hc4 => ?_) (fun hc4 => ?_)
   ·refine YQ hc4 ?_
    exact YE (by rw [← ht6]; (try rw [hc4]); (try rw [hc3]); kernel_rfl)
   ·refine YQ hc4 ?_
    refine YR 6 ?_
    refine zU (eqI f1.1 f1.2.2) (fun hc5 => ?_) (fun hc5 => ?_)
    ·refine YQ hc5 ?_
     exact YE (by rw [← ht6]; (try rw [hc4]); (try rw [hc5]); (try rw [hc3]); kernel_rfl)
    ·refine YQ hc5 ?_
     exact YE (by rw [← ht6]; (try rw [hc4]); (try rw [hc5]); (try rw [hc3]); kernel_rfl)
  ·refine YQ hc3 ?_
   exact YE (by rw [← ht6]; (try rw [hc3]); kernel_rfl)
 cases h
 exact zM VT
theorem zFv : CfW Tryz.prog 185 := cfW Tryz.func185
theorem zGU {a1 : Int} {vm2 : Int} {r : Int} (h : zAn a1 vm2 = some r) : qE Tryz.prog 185 [I a1, I vm2] (I r) [] := by
 refine CtW [4] Tryz.func185 rfl rfl 12 ?_
 unfold zAn at h
 refine VE ?_
 obtain ⟨y3, hy3, h⟩ := zA h
 obtain ⟨z4, hz4, h⟩ := zA h
 obtain ⟨t5, ht5, h⟩ := zR h
 refine zG (mb 12 16) [] (s1 := ⟨bt 4 (I t5 :: bt 7 []), []⟩) ?_ ?_
 ·refine XR 3 ?_
  refine XC (zDZ hy3) zCo rfl rfl rfl ?_
  refine XR 2 ?_
  refine L0 rfl rfl (jJ (a := w64 (a1 - y3)) (b := vm2) rfl kk kk (jC hz4)) ?_
  refine XR 1 ?_
  refine zH ?_
  subst ht5
  kernel_rfl
 cases h
 exact zM VT
theorem zIc : CfW Tryz.prog 150 := cfW Tryz.func150
theorem zIp {f1 : (Int × Int × Int)} {r : (Int × Int × Int × Int)} (h : qW f1 = some r) : qE Tryz.prog 150 [.ag [Ti f1.1, Ti f1.2.1, Ti f1.2.2]] (.ag [Ti r.1, Ti r.2.1, Ti r.2.2.1, Ti r.2.2.2]) [] := by
 refine qI (rs := [.w 2 4]) (vs := [.cell 2 57]) Tryz.func150 rfl rfl (.cons ⟨rfl, wd57⟩ FitsL.nil) (by decide) 22 rfl ?_
 unfold qW at h
 refine VE ?_
 refine zO ?_
 refine zL ?_
 obtain ⟨y2, hy2, h⟩ := zA h
 refine VS ?_
 refine YK 1 (zDL hy2) zCz ?_
 refine YF ?_
 refine VC h (fun h => ?_) (fun h => ?_)
 ·obtain ⟨y4, hy4, h⟩ := zA h
  refine VS ?_
  refine YK 0 (zHf hy4) zHE ?_
  refine YF ?_
  cases h
  exact zM VT
 ·obtain ⟨y5, hy5, h⟩ := zA h
  refine VS ?_
  refine YK 1 (zEp hy5) zEa ?_
  refine YF ?_
  refine VC h (fun h => ?_) (fun h => ?_)
  ·obtain ⟨y7, hy7, h⟩ := zA h
   refine VS ?_
   refine YK 8 (zGU hy7) zFv ?_
   refine L0 rfl rfl (qJ (cs := [Ti 1, Ti y7, Ti 0, Ti 1]) pl57 bt57 rfl rfl kk) ?_
   refine YF ?_
   cases h
   exact zM VT
  ·refine zK ?_
   show V _ _ _ _
   refine VS ?_
   refine L0 rfl rfl (qJ (cs := [Ti 0, Ti (-1), Ti 1, Ti 0]) pl57 bt57 rfl rfl kk) ?_
   refine YF ?_
   cases h
   exact zM VT
theorem zEx : CfW Tryz.prog 112 := cfW Tryz.func112
theorem zFN {f1 : (Int × Int × Int)} {x2 : Int} {y3 : Int} {r : Int} (h : zAl f1 x2 y3 = some r) : qE Tryz.prog 112 [.ag [Ti f1.1, Ti f1.2.1, Ti f1.2.2], I x2, I y3] (I r) [] := by
 refine CtW [6] Tryz.func112 rfl rfl 27 ?_
 unfold zAl at h
 refine VE ?_
 obtain ⟨t4, ht4, h⟩ := zR h
 refine zG (mb 27 64) [] (s1 := ⟨bt 6 (I t4 :: bt 20 []), []⟩) ?_ ?_
 ·refine XR 21 ?_
  refine zH ?_
  subst ht4
  kernel_rfl
 cases h
 exact zM VT
theorem zHv : CfW Tryz.prog 113 := cfW Tryz.func113
theorem zIO {f1 : (Int × Int × Int)} {x2 : Int} {y3 : Int} {u4 : Int} {v5 : Int} {r : Int} (h : zAe f1 x2 y3 u4 v5 = some r) : qE Tryz.prog 113 [.ag [Ti f1.1, Ti f1.2.1, Ti f1.2.2], I x2, I y3, I u4, I v5] (I r) [] := by
 refine CtW [10] Tryz.func113 rfl rfl 37 ?_
 unfold zAe at h
 refine VE ?_
 obtain ⟨t6, ht6, h⟩ := zR h
 refine zG (mb 37 1024) [] (s1 := ⟨bt 10 (I t6 :: bt 26 []), []⟩) ?_ ?_
 ·refine XR 27 ?_
  refine zH ?_
  subst ht6
  kernel_rfl
 cases h
 exact zM VT
theorem zAx : CfW Tryz.prog 55 := cfW Tryz.func55
theorem zBC {f1 : (Int × Int × Int)} {vm2 : (Int × Int × Int × Int)} {r : (Int × Int × Int)} (h : zQ f1 vm2 = some r) : qE Tryz.prog 55 [.ag [Ti f1.1, Ti f1.2.1, Ti f1.2.2], .ag [Ti vm2.1, Ti vm2.2.1, Ti vm2.2.2.1, Ti vm2.2.2.2]] (.ag [Ti r.1, Ti r.2.1, Ti r.2.2]) [] := by
 refine qI (rs := [.w 4 3]) (vs := [.cell 4 27]) Tryz.func55 rfl rfl (.cons ⟨rfl, wd27⟩ FitsL.nil) (by decide) 28 rfl ?_
 unfold zQ at h
 refine VE ?_
 obtain ⟨y3, hy3, h⟩ := zA h
 obtain ⟨y4, hy4, h⟩ := zA h
 obtain ⟨y5, hy5, h⟩ := zA h
 refine VDS [0, 0, 2, 0, 8, 31, 0, 0, 128, 0, 512, 0, 2048, 0, 8192, 32767, 0, 0, 131072, 0, 524288, 2097151, 4194303, 8388607] 23 (cdm 23 [2929883521704, 2929883521666, 2929883521670, 2929883521066, 2929883521130, 2929883521365, 2929883515562, 2929883359914, 2929883376298, 2929880902314, 2929881164458, 2929841580714, 2929845775018, 2929212435114, 2929279543978, 2929525609813, 2923441072810, 2760232315562, 2777412184746, 183251937962, 458129844906, 1466015503701, 5864062014805]) ?_
 refine EK 5 (zFN hy3) zEx ?_
 refine EK 9 (zIO hy4) zHv ?_
 refine EK 5 (zFN hy5) zEx ?_
 refine E0 22 rfl rfl (qJ (cs := [Ti y3, Ti y4, Ti y5]) pl27 bt27 rfl rfl kk) ?_
 refine EF 0 ?_
 cases h
 exact zM VT
theorem zBh : CfW Tryz.prog 151 := cfW Tryz.func151
theorem zBs {vm1 : (Int × Int × Int × Int)} {vn2 : (Int × Int × Int × Int)} {r : (Int × Int × Int × Int)} (h : qB vm1 vn2 = some r) : qE Tryz.prog 151 [.ag [Ti vm1.1, Ti vm1.2.1, Ti vm1.2.2.1, Ti vm1.2.2.2], .ag [Ti vn2.1, Ti vn2.2.1, Ti vn2.2.2.1, Ti vn2.2.2.2]] (.ag [Ti r.1, Ti r.2.1, Ti r.2.2.1, Ti r.2.2.2]) [] := by
 refine qI (rs := [.w 4 4]) (vs := [.cell 4 57]) Tryz.func151 rfl rfl (.cons ⟨rfl, wd57⟩ FitsL.nil) (by decide) 50 rfl ?_
 unfold qB at h
 refine VE ?_
 obtain ⟨f3, hf3, h⟩ := zR h
 obtain ⟨f4, hf4, h⟩ := zR h
 obtain ⟨f5, hf5, h⟩ := zR h
 obtain ⟨f6, hf6, h⟩ := zR h
 refine zG (mb 50 16) [32] (s1 := ⟨bt 4 (.pt 32 0 :: bt 45 []), [(32, .box [Ti f3, Ti f4, Ti f5, Ti f6])]⟩) ?_ ?_
 ·refine XR 44 ?_
  refine L0 rfl rfl (qJ (cs := [Ti (w64 ((w64 (vm1.1 * vn2.1)) + (w64 (vm1.2.1 * vn2.2.2.1)))), Ti (w64 ((w64 (vm1.1 * vn2.2.1)) + (w64 (vm1.2.1 * vn2.2.2.2)))), Ti (w64 ((w64 (vm1.2.2.1 * vn2.1)) + (w64 (vm1.2.2.2 * vn2.2.2.1)))), Ti (w64 ((w64 (vm1.2.2.1 * vn2.2.1)) + (w64 (vm1.2.2.2 * vn2.2.2.2))))]) pl57 bt57 rfl rfl kk) ?_
  refine XR 1 ?_
  refine zH ?_
  subst hf3 hf4 hf5 hf6
  kernel_rfl
 cases h
 exact zM VT
theorem zE2 : CfW Tryz.prog 98 := cfW Tryz.func98
theorem zEl {f1 : (Int × Int × Int)} {r : (((Int × Int × Int)) × ((Int × Int × Int × Int)))} (h : jI f1 = some r) : qE Tryz.prog 98 [.ag [Ti f1.1, Ti f1.2.1, Ti f1.2.2]] (.tc (.ag [Ti r.1.1, Ti r.1.2.1, Ti r.1.2.2]) (.tc (.ag [Ti r.2.1, Ti r.2.2.1, Ti r.2.2.2.1, Ti r.2.2.2.2]) .tn)) [] := by
 refine qI (rs := [.w 2 3, .w 3 4]) (vs := [.cell 2 27, .cell 3 57]) Tryz.func98 rfl rfl (.cons ⟨rfl, wd27⟩ (.cons ⟨rfl, wd57⟩ FitsL.nil)) (by decide) 20 rfl ?_
 unfold jI at h
 refine VE ?_
 obtain ⟨y2, hy2, h⟩ := zA h
 refine VS ?_
 refine YK 0 (zHf hy2) zHE ?_
 refine YF ?_
 refine zO ?_
 obtain ⟨o11, hLo11, h⟩ := zA h
 refine zAz (mb 20 30) [32, 24, 16, 8] (s1 := ⟨.bot :: .pt 8 0 :: .pt 16 0 :: .pt 24 0 :: .pt 32 0 :: bt 15 [], [(32, .box [Ti o11.1, Ti o11.2.1, Ti o11.2.2.1, Ti o11.2.2.2.1]), (24, .box [Ti 0, Ti 0, Ti 0, Ti 0]), (16, .box [Ti 0, Ti 0, Ti 0]), (8, .box [Ti o11.2.2.2.2.1, Ti o11.2.2.2.2.2.1, Ti o11.2.2.2.2.2.2])]⟩) ?_ ?_
 ·clear h
  refine zL (qT (fun n s => ∃ (f3 : Int) (f4 : Int) (f5 : Int) (f6 : Int) (f7 : Int) (f8 : Int) (f9 : Int), s.keep (mb 20 30) [32, 24, 16, 8] = (⟨.bot :: .pt 8 0 :: .pt 16 0 :: .pt 24 0 :: .pt 32 0 :: bt 15 [], [(32, .box [Ti f3, Ti f4, Ti f5, Ti f6]), (24, .box [Ti 0, Ti 0, Ti 0, Ti 0]), (16, .box [Ti 0, Ti 0, Ti 0]), (8, .box [Ti f7, Ti f8, Ti f9])]⟩ : St) ∧ zAQ n f3 f4 f5 f6 f7 f8 f9 = some o11) FU ⟨_, _, _, _, _, _, _,  kk, hLo11⟩ ?_)
  clear hLo11
  rintro n s ⟨f3, f4, f5, f6, f7, f8, f9, hs, h⟩
  refine qQ _ _ hs ?_
  clear hs
  cases n with
  | zero => cases h
  | succ n =>
   rw [zAQ] at h
   refine zO ?_
   obtain ⟨y12, hy12, h⟩ := zA h
   refine VS ?_
   refine YK 1 (zDL hy12) zCz ?_
   refine YF ?_
   refine VC h (fun h => ?_) (fun h => ?_)
   ·refine zK ?_
    show V _ _ _ _
    refine zL ?_
    obtain ⟨y14, hy14, h⟩ := zA h
    refine VS ?_
    refine YK 1 (zIp hy14) zIc ?_
    refine YF ?_
    obtain ⟨y15, hy15, h⟩ := zA h
    refine VS ?_
    refine YK 2 (zBC hy15) zAx ?_
    refine YF ?_
    obtain ⟨y16, hy16, h⟩ := zA h
    refine jS ?_
    refine YK 2 (zBs hy16) zBh ?_
    refine YF ?_
    exact ⟨n, Nat.lt_succ_self n, _, _, _, _, _, _, _,  kk, h⟩
   ·refine qO ?_
    obtain rfl := zB h
    show St.keep _ _ _ = _
    kernel_rfl
 show V _ _ _ _
 refine VDS [0, 0, 1, 7] 3 [[.z, .b, .z], [.b, .z, .r 16], [.a, .b, .z]] ?_
 refine EF 3 ?_
 cases h
 exact zM VT
theorem zEE : CfW Tryz.prog 54 := cfW Tryz.func54
theorem zES {f1 : (Int × Int × Int)} {r : (Int × Int × Int)} (h : qK f1 = some r) : qE Tryz.prog 54 [.ag [Ti f1.1, Ti f1.2.1, Ti f1.2.2]] (.ag [Ti r.1, Ti r.2.1, Ti r.2.2]) [] := by
 refine qI (rs := [.w 2 3]) (vs := [.cell 2 27]) Tryz.func54 rfl rfl (.cons ⟨rfl, wd27⟩ FitsL.nil) (by decide) 11 rfl ?_
 unfold qK at h
 refine VE ?_
 obtain ⟨y2, hy2, h⟩ := zA h
 refine VS ?_
 refine YK 1 (zEl hy2) zE2 ?_
 refine YF ?_
 refine VE ?_
 cases h
 exact zM VT
theorem zHr : CfW Tryz.prog 123 := cfW Tryz.func123
theorem zIJ {d1 : Int} {r : List ((Int × Int × Int))} (h : zDS d1 = some r) : qE Tryz.prog 123 [I d1] (.ow 0) [(0, .arr 27 3 (r.map c27))] := by
 refine CtW [2] Tryz.func123 rfl rfl 51 ?_
 unfold zDS at h
 refine VS ?_
 refine L1 rfl rfl (zDB (e := 27) 3 (by decide) (.inl rfl)) ?_
 refine YF ?_
 refine VS ?_
 refine L1 rfl rfl (zBr Tryz.underlying24 sz27 (by decide) rfl rfl) ?_
 refine YF ?_
 refine zO ?_
 refine VE ?_
 obtain ⟨o5, hLo5, h⟩ := zA h
 refine zAz (mb 51 8) [56] (s1 := ⟨bt 3 (.ow 56 :: bt 47 []), [(56, .arr 27 3 (o5.map c27))]⟩) ?_ ?_
 ·clear h
  refine zL (qT (fun n s => ∃ (a2 : Int) (l3 : List ((Int × Int × Int))), s.keep (mb 51 25) [56] = (⟨I d1 :: .bot :: .bot :: .ow 56 :: I a2 :: bt 46 [], [(56, .arr 27 3 (l3.map c27))]⟩ : St) ∧ zAX d1 n a2 l3 = some o5) FU ⟨_, _,  kk, hLo5⟩ ?_)
  clear hLo5
  rintro n s ⟨a2, l3, hs, h⟩
  refine qQ _ _ hs ?_
  clear hs
  cases n with
  | zero => cases h
  | succ n =>
   rw [zAX] at h
   refine zO ?_
   refine VE ?_
   refine VC h (fun h => ?_) (fun h => ?_)
   ·refine zK ?_
    show V _ _ _ _
    refine zO ?_
    refine zL ?_
    obtain ⟨b7, hb7, h⟩ := zR h
    refine zG (mb 51 57) [56] (s1 := ⟨I d1 :: .bot :: .bot :: .ow 56 :: I a2 :: I b7 :: bt 45 [], [(56, .arr 27 3 (l3.map c27))]⟩) ?_ ?_
    ·refine XR 3 ?_
     refine zH ?_
     subst hb7
     kernel_rfl
    obtain ⟨o11, hLo11, h⟩ := zA h
    refine zAz (mb 51 25) [56] (s1 := ⟨I d1 :: .bot :: .bot :: .ow 56 :: I a2 :: bt 46 [], [(56, .arr 27 3 (o11.map c27))]⟩) ?_ ?_
    ·clear h
     refine zL (qT (fun n s => ∃ (b8 : Int) (l9 : List ((Int × Int × Int))), s.keep (mb 51 57) [56] = (⟨I d1 :: .bot :: .bot :: .ow 56 :: I a2 :: I b8 :: bt 45 [], [(56, .arr 27 3 (l9.map c27))]⟩ : St) ∧ jG a2 d1 n b8 l9 = some o11) FU ⟨_, _,  kk, hLo11⟩ ?_)
     clear hLo11
     rintro n s ⟨b8, l9, hs, h⟩
     refine qQ _ _ hs ?_
     clear hs
     cases n with
     | zero => cases h
     | succ n =>
      rw [jG] at h
      refine zO ?_
      refine VE ?_
      refine VC h (fun h => ?_) (fun h => ?_)
      ·refine zK ?_
       show V _ _ _ _
       refine zO ?_
       refine zL ?_
       refine zO ?_
       obtain ⟨z13, hz13, h⟩ := zA h
       obtain ⟨t14, ht14, h⟩ := zA h
       have ht14 := zB ht14
       refine zG (mb 51 4294967353) [56] (s1 := ⟨I d1 :: .bot :: .bot :: .ow 56 :: I a2 :: I b8 :: bt 26 (Bo t14 :: bt 18 []), [(56, .arr 27 3 (l9.map c27))]⟩) ?_ ?_
       ·refine XR 7 ?_
        refine L0 rfl rfl (zCP (k := .i64) (a := w64 ((w64 (b8 * b8)) - d1)) (b := w64 (4 * a2)) rfl kk kk (jC hz13)) ?_
        refine XR 1 ?_
        refine zH ?_
        subst ht14
        kernel_rfl
       refine VC h (fun h => ?_) (fun h => ?_)
       ·refine qO ?_
        show V _ _ _ _
        obtain ⟨b16, hb16, h⟩ := zR h
        refine qS (mb 51 57) [56] (s1 := ⟨I d1 :: .bot :: .bot :: .ow 56 :: I a2 :: I b16 :: bt 45 [], [(56, .arr 27 3 (l9.map c27))]⟩) ?_ ?_
        ·refine XR 3 ?_
         refine zH ?_
         subst hb16
         kernel_rfl
        exact ⟨n, Nat.lt_succ_self n, _, _,  kk, h⟩
       ·refine zK ?_
        show V _ _ _ _
        obtain ⟨z17, hz17, h⟩ := zA h
        obtain ⟨f18, hf18, h⟩ := zR h
        refine zG (mb 51 121) [48, 56] (s1 := ⟨I d1 :: .bot :: .bot :: .ow 56 :: I a2 :: I b8 :: .pt 48 0 :: bt 44 [], [(48, .box [Ti a2, Ti b8, Ti f18]), (56, .arr 27 3 (l9.map c27))]⟩) ?_ ?_
        ·refine XR 9 ?_
         refine L0 rfl rfl (jJ (a := w64 ((w64 (b8 * b8)) - d1)) (b := w64 (4 * a2)) rfl kk kk (jC hz17)) ?_
         refine L0 rfl rfl (qJ (cs := [Ti a2, Ti b8, Ti (w64 (Int.tdiv (w64 ((w64 (b8 * b8)) - d1)) (w64 (4 * a2))))]) pl27 bt27 rfl rfl kk) ?_
         refine XR 2 ?_
         refine zH ?_
         subst hf18
         kernel_rfl
        obtain ⟨y19, hy19, h⟩ := zA h
        refine VS ?_
        refine YK 1 (zDL hy19) zCz ?_
        refine YF ?_
        refine VC h (fun h => ?_) (fun h => ?_)
        ·obtain ⟨u21, hu21, h⟩ := zA h
         refine jS ?_
         refine YR 2 ?_
         refine L1 rfl rfl (zAI (z := zv27) (els := [(a2, b8, f18)].map c27) Tryz.underlying24 iz27 rfl (by decide) rfl kk rfl (by simp [c27]) (by decide) (by decide)) ?_
         refine zE rfl (zCm (c := c27) (xs := l9) (ys := [(a2, b8, f18)]) (id := 56) (z := zv27) rfl rfl Tryz.underlying24 zKA rfl kk kk kk (fun _ => rfl) (by simp) (zCg hu21) (by decide)) ?_
         refine YF ?_
         show V _ _ _ _
         obtain ⟨b22, hb22, h⟩ := zR h
         refine qS (mb 51 57) [56] (s1 := ⟨I d1 :: .bot :: .bot :: .ow 56 :: I a2 :: I b22 :: bt 45 [], [(56, .arr 27 3 ((l9 ++ ([(a2, b8, f18)])).map c27))]⟩) ?_ ?_
         ·refine XR 3 ?_
          refine zH ?_
          subst hb22
          kernel_rfl
         exact ⟨n, Nat.lt_succ_self n, _, _,  kk, h⟩
        ·refine zK ?_
         show V _ _ _ _
         obtain ⟨b23, hb23, h⟩ := zR h
         refine qS (mb 51 57) [56] (s1 := ⟨I d1 :: .bot :: .bot :: .ow 56 :: I a2 :: I b23 :: bt 45 [], [(56, .arr 27 3 (l9.map c27))]⟩) ?_ ?_
         ·refine XR 3 ?_
          refine zH ?_
          subst hb23
          kernel_rfl
         exact ⟨n, Nat.lt_succ_self n, _, _,  kk, h⟩
      ·refine qO ?_
       obtain rfl := zB h
       show St.keep _ _ _ = _
       kernel_rfl
    show V _ _ _ _
    obtain ⟨a24, ha24, h⟩ := zR h
    refine qS (mb 51 25) [56] (s1 := ⟨I d1 :: .bot :: .bot :: .ow 56 :: I a24 :: bt 46 [], [(56, .arr 27 3 (o11.map c27))]⟩) ?_ ?_
    ·refine XR 3 ?_
     refine zH ?_
     subst ha24
     kernel_rfl
    exact ⟨n, Nat.lt_succ_self n, _, _,  kk, h⟩
   ·refine qO ?_
    obtain rfl := zB h
    show St.keep _ _ _ = _
    kernel_rfl
 show V _ _ _ _
 refine VE ?_
 cases h
 exact zM VT
theorem zHX : CfW Tryz.prog 122 := cfW Tryz.func122
theorem zHe {forms1 : List ((Int × Int × Int))} {r : List ((Int × Int × Int))} (h : zCu forms1 = some r) : qE Tryz.prog 122 [.c (.sl (forms1.map c27))] (.ow 0) [(0, .arr 27 3 (r.map c27))] := by
 refine CtW [2] Tryz.func122 rfl rfl 22 ?_
 unfold zCu at h
 refine VS ?_
 refine L1 rfl rfl (zDB (e := 27) 3 (by decide) (.inl rfl)) ?_
 refine YF ?_
 refine VS ?_
 refine L1 rfl rfl (zBr Tryz.underlying24 sz27 (by decide) rfl rfl) ?_
 refine YF ?_
 refine zO ?_
 refine VS ?_
 refine YR 1 ?_
 refine L0 rfl rfl (zBN (c := c27) (xs := forms1) Tryz.underlying24 rfl kk) ?_
 refine YF ?_
 obtain ⟨o5, hLo5, h⟩ := zA h
 refine zAz (mb 22 8) [48] (s1 := ⟨bt 3 (.ow 48 :: bt 18 []), [(48, .arr 27 3 (o5.map c27))]⟩) ?_ ?_
 ·clear h
  refine zL (qT (fun n s => ∃ (t2 : Int) (l3 : List ((Int × Int × Int))), s.keep (mb 22 904) [48] = (⟨bt 3 (.ow 48 :: bt 3 (.c (.sl (forms1.map c27)) :: I ((forms1.length : Int)) :: I t2 :: bt 12 [])), [(48, .arr 27 3 (l3.map c27))]⟩ : St) ∧ zAM forms1 n t2 l3 = some o5) FU ⟨_, _,  kk, hLo5⟩ ?_)
  clear hLo5
  rintro n s ⟨t2, l3, hs, h⟩
  refine qQ _ _ hs ?_
  clear hs
  cases n with
  | zero => cases h
  | succ n =>
   rw [zAM] at h
   refine VE ?_
   refine zO ?_
   refine VC h (fun h => ?_) (fun h => ?_)
   ·refine zK ?_
    show V _ _ _ _
    refine zO ?_
    refine zL ?_
    obtain ⟨e7, he7, h⟩ := zA h
    refine VS ?_
    refine L0 rfl rfl (zFG (c := c27) (xs := forms1) (v := e7) (n := t2) Tryz.underlying24 sz27 rfl kk kk he7) ?_
    refine YF ?_
    obtain ⟨y8, hy8, h⟩ := zA h
    refine VS ?_
    refine YK 1 (zDp hy8) zDb ?_
    refine YF ?_
    refine VC h (fun h => ?_) (fun h => ?_)
    ·obtain ⟨u10, hu10, h⟩ := zA h
     refine jS ?_
     refine YR 2 ?_
     refine L1 rfl rfl (zAI (z := zv27) (els := [e7].map c27) Tryz.underlying24 iz27 rfl (by decide) rfl kk rfl (by simp [c27]) (by decide) (by decide)) ?_
     refine zE rfl (zCm (c := c27) (xs := l3) (ys := [e7]) (id := 48) (z := zv27) rfl rfl Tryz.underlying24 zKA rfl kk kk kk (fun _ => rfl) (by simp) (zCg hu10) (by decide)) ?_
     refine YF ?_
     show V _ _ _ _
     obtain ⟨t11, ht11, h⟩ := zR h
     refine qS (mb 22 904) [48] (s1 := ⟨bt 3 (.ow 48 :: bt 3 (.c (.sl (forms1.map c27)) :: I ((forms1.length : Int)) :: I t11 :: bt 12 [])), [(48, .arr 27 3 ((l3 ++ ([e7])).map c27))]⟩) ?_ ?_
     ·refine XR 2 ?_
      refine zH ?_
      subst ht11
      kernel_rfl
     exact ⟨n, Nat.lt_succ_self n, _, _,  kk, h⟩
    ·refine zK ?_
     show V _ _ _ _
     obtain ⟨t12, ht12, h⟩ := zR h
     refine qS (mb 22 904) [48] (s1 := ⟨bt 3 (.ow 48 :: bt 3 (.c (.sl (forms1.map c27)) :: I ((forms1.length : Int)) :: I t12 :: bt 12 [])), [(48, .arr 27 3 (l3.map c27))]⟩) ?_ ?_
     ·refine XR 2 ?_
      refine zH ?_
      subst ht12
      kernel_rfl
     exact ⟨n, Nat.lt_succ_self n, _, _,  kk, h⟩
   ·refine qO ?_
    obtain rfl := zB h
    show St.keep _ _ _ = _
    kernel_rfl
 show V _ _ _ _
 refine VE ?_
 cases h
 exact zM VT
theorem zEq : CfW Tryz.prog 66 := cfW Tryz.func66
theorem zEy {d1 : Int} {r : List ((Int × Int × Int))} (h : zBP d1 = some r) : qE Tryz.prog 66 [I d1] (.ow 0) [(0, .arr 27 3 (r.map c27))] := by
 refine CtW [2] Tryz.func66 rfl rfl 6 ?_
 unfold zBP at h
 refine VS ?_
 refine L1 rfl rfl (zDB (e := 27) 3 (by decide) (.inl rfl)) ?_
 refine YF ?_
 obtain ⟨y2, hy2, h⟩ := zA h
 obtain ⟨y3, hy3, h⟩ := zA h
 refine VS ?_
 refine YK 1 (zIJ hy2) zHr ?_
 refine L1 rfl rfl (zEB (zHe hy3) zHX rfl kk rfl (flatE_cons (fun _ => rfl) rfl)) ?_
 refine YF ?_
 cases h
 exact zM VT
theorem zIa : CfW Tryz.prog 134 := cfW Tryz.func134
theorem zIn {d1 : Int} {so2 : (((Int × Int × Int)) → Option Bool)} {fso2 : FuncId} {cso2 : List (List Tr)} (kso2 : ∀ args w, (callFunc fso2 args).run Tryz.prog w = .ok (.enter fso2 args) w) (hso2 : ∀ {x0 : (Int × Int × Int)} {r : Bool}, so2 x0 = some r → qE Tryz.prog fso2 ([.ag [Ti x0.1, Ti x0.2.1, Ti x0.2.2]] ++ cso2.map AV.pe) (Bo r) []) {r : List ((Int × Int × Int))} (h : zDg d1 so2 = some r) : qE Tryz.prog 134 [I d1, .fn fso2 cso2] (.ow 0) [(0, .arr 27 3 (r.map c27))] := by
 refine CtW [4] Tryz.func134 rfl rfl 25 ?_
 unfold zDg at h
 refine VS ?_
 refine L1 rfl rfl (zDB (e := 27) 3 (by decide) (.inl rfl)) ?_
 refine YF ?_
 refine VS ?_
 refine L1 rfl rfl (zBr Tryz.underlying24 sz27 (by decide) rfl rfl) ?_
 refine YF ?_
 refine zO ?_
 obtain ⟨y3, hy3, h⟩ := zA h
 refine VS ?_
 refine YK 1 (zEy hy3) zEq ?_
 refine L0 rfl rfl (zBN (c := c27) (xs := y3) Tryz.underlying24 rfl kk) ?_
 refine YF ?_
 obtain ⟨o7, hLo7, h⟩ := zA h
 refine zAz (mb 25 32) [64] (s1 := ⟨bt 5 (.ow 64 :: bt 19 []), [(64, .arr 27 3 (o7.map c27))]⟩) ?_ ?_
 ·clear h
  refine zL (qT (fun n s => ∃ (t4 : Int) (l5 : List ((Int × Int × Int))), s.keep (mb 25 7202) [80, 64] = (⟨.bot :: .fn fso2 cso2 :: bt 3 (.ow 64 :: bt 4 (.ow 80 :: I ((y3.length : Int)) :: I t4 :: bt 12 [])), [(80, .arr 27 3 (y3.map c27)), (64, .arr 27 3 (l5.map c27))]⟩ : St) ∧ zAb so2 y3 n t4 l5 = some o7) FU ⟨_, _,  kk, hLo7⟩ ?_)
  clear hLo7
  rintro n s ⟨t4, l5, hs, h⟩
  refine qQ _ _ hs ?_
  clear hs
  cases n with
  | zero => cases h
  | succ n =>
   rw [zAb] at h
   refine VE ?_
   refine zO ?_
   refine VC h (fun h => ?_) (fun h => ?_)
   ·refine zK ?_
    show V _ _ _ _
    refine zO ?_
    refine zL ?_
    obtain ⟨e9, he9, h⟩ := zA h
    obtain ⟨e10, he10, h⟩ := zA h
    refine VS ?_
    refine L0 rfl rfl (zEs (c := c27) (xs := y3) (v := e9) (id := 80) (T := 27) (sz := 3) (n := t4) Tryz.underlying24 sz27 rfl kk kk kk he9) ?_
    refine L0 rfl rfl (zFy (c := c27) (xs := y3) (v := e10) (id := 80) (sz := 3) (T := 27) (off := 0) (n := t4) [Ti e10.1, Ti e10.2.1, Ti e10.2.2] wd27 rfl kk kk he10 (Nat.le_of_ble_eq_true rfl) kk) ?_
    refine YF ?_
    obtain ⟨y11, hy11, h⟩ := zA h
    refine VS ?_
    refine YR 2 ?_
    refine L1 rfl rfl (Y1_callF (hso2 hy11) kso2 rfl kk kk) ?_
    refine YF ?_
    refine VC h (fun h => ?_) (fun h => ?_)
    ·obtain ⟨u13, hu13, h⟩ := zA h
     refine jS ?_
     refine YR 2 ?_
     refine L1 rfl rfl (zAI (z := zv27) (els := [e10].map c27) Tryz.underlying24 iz27 rfl (by decide) rfl kk rfl (by simp [c27]) (by decide) (by decide)) ?_
     refine zE rfl (zCm (c := c27) (xs := l5) (ys := [e10]) (id := 64) (z := zv27) rfl rfl Tryz.underlying24 zKA rfl kk kk kk (fun _ => rfl) (by simp) (zCg hu13) (by decide)) ?_
     refine YF ?_
     show V _ _ _ _
     obtain ⟨t14, ht14, h⟩ := zR h
     refine qS (mb 25 7202) [80, 64] (s1 := ⟨.bot :: .fn fso2 cso2 :: bt 3 (.ow 64 :: bt 4 (.ow 80 :: I ((y3.length : Int)) :: I t14 :: bt 12 [])), [(80, .arr 27 3 (y3.map c27)), (64, .arr 27 3 ((l5 ++ ([e10])).map c27))]⟩) ?_ ?_
     ·refine XR 2 ?_
      refine zH ?_
      subst ht14
      kernel_rfl
     exact ⟨n, Nat.lt_succ_self n, _, _,  kk, h⟩
    ·refine zK ?_
     show V _ _ _ _
     obtain ⟨t15, ht15, h⟩ := zR h
     refine qS (mb 25 7202) [80, 64] (s1 := ⟨.bot :: .fn fso2 cso2 :: bt 3 (.ow 64 :: bt 4 (.ow 80 :: I ((y3.length : Int)) :: I t15 :: bt 12 [])), [(80, .arr 27 3 (y3.map c27)), (64, .arr 27 3 (l5.map c27))]⟩) ?_ ?_
     ·refine XR 2 ?_
      refine zH ?_
      subst ht15
      kernel_rfl
     exact ⟨n, Nat.lt_succ_self n, _, _,  kk, h⟩
   ·refine qO ?_
    obtain rfl := zB h
    show St.keep _ _ _ = _
    kernel_rfl
 show V _ _ _ _
 refine VE ?_
 cases h
 exact zM VT
theorem zHp : CfW Tryz.prog 152 := cfW Tryz.func152
theorem zIH {g1 : (Int × Int × Int)} {a2 : Int} {r : (Int × Int)} (h : zC1 g1 a2 = some r) : qE Tryz.prog 152 [.ag [Ti g1.1, Ti g1.2.1, Ti g1.2.2], I a2] (.tc (I r.1) (.tc (I r.2) .tn)) [] := by
 refine CtW [4, 5] Tryz.func152 rfl rfl 43 ?_
 unfold zC1 at h
 refine VE ?_
 refine VE ?_
 obtain ⟨qo5, hLo5, hko5⟩ := zA h
 refine zE6 (q := qo5) (S := fun _ => (⟨[], []⟩ : St)) [] [] ?_ ?_
 ·refine zL (qT (fun n s => ∃ (size3 : Int), s.keep (mb 43 70) [16] = (⟨.bot :: I a2 :: .pt 16 0 :: bt 3 (I size3 :: bt 36 []), [(16, .box [Ti g1.1, Ti g1.2.1, Ti g1.2.2])]⟩ : St) ∧ zAC a2 g1 n size3 = some qo5) FU ⟨_,  kk, hLo5⟩ ?_)
  clear hLo5
  rintro n s ⟨size3, hs, h⟩
  refine qQ _ _ hs ?_
  clear hs
  cases n with
  | zero => cases h
  | succ n =>
   rw [zAC] at h
   refine zO ?_
   refine zL ?_
   refine VE ?_
   obtain ⟨qo8, hLo8, hko8⟩ := zA h
   refine zE6 (q := qo8) (S := fun o8 => ⟨.bot :: I a2 :: .pt 16 0 :: bt 3 (I size3 :: bt 36 []), [(16, .box [Ti g1.1, Ti g1.2.1, Ti g1.2.2])]⟩) (mb 43 70) [16] ?_ ?_
   ·refine zL (qT (fun n s => ∃ (x6 : Int), s.keep (mb 43 198) [16] = (⟨.bot :: I a2 :: .pt 16 0 :: bt 3 (I size3 :: I x6 :: bt 35 []), [(16, .box [Ti g1.1, Ti g1.2.1, Ti g1.2.2])]⟩ : St) ∧ zAu a2 g1 size3 n x6 = some qo8) FU ⟨_,  kk, hLo8⟩ ?_)
    clear hLo8
    rintro n s ⟨x6, hs, h⟩
    refine qQ _ _ hs ?_
    clear hs
    cases n with
    | zero => cases h
    | succ n =>
     rw [zAu] at h
     refine zO ?_
     refine VE ?_
     refine VC h (fun h => ?_) (fun h => ?_)
     ·refine zK ?_
      show V _ _ _ _
      refine zO ?_
      refine zL ?_
      refine VE ?_
      obtain ⟨qo12, hLo12, hko12⟩ := zA h
      refine zE6 (q := qo12) (S := fun o12 => ⟨.bot :: I a2 :: .pt 16 0 :: bt 3 (I size3 :: I x6 :: bt 35 []), [(16, .box [Ti g1.1, Ti g1.2.1, Ti g1.2.2])]⟩) (mb 43 198) [16] ?_ ?_
      ·refine zL (qT (fun n s => ∃ (y10 : Int), s.keep (mb 43 454) [16] = (⟨.bot :: I a2 :: .pt 16 0 :: bt 3 (I size3 :: I x6 :: I y10 :: bt 34 []), [(16, .box [Ti g1.1, Ti g1.2.1, Ti g1.2.2])]⟩ : St) ∧ zAh a2 g1 size3 x6 n y10 = some qo12) FU ⟨_,  kk, hLo12⟩ ?_)
       clear hLo12
       rintro n s ⟨y10, hs, h⟩
       refine qQ _ _ hs ?_
       clear hs
       cases n with
       | zero => cases h
       | succ n =>
        rw [zAh] at h
        refine zO ?_
        refine VE ?_
        refine VC h (fun h => ?_) (fun h => ?_)
        ·refine zK ?_
         show V _ _ _ _
         refine zO ?_
         refine zL ?_
         obtain ⟨b16, hb16, h⟩ := zA h
         obtain ⟨b20, hb20, h⟩ := zA h
         refine zG (mb 43 1099511628230) [16] (s1 := ⟨.bot :: I a2 :: .pt 16 0 :: bt 3 (I size3 :: I x6 :: I y10 :: bt 31 (Bo b20 :: .bot :: .bot :: [])), [(16, .box [Ti g1.1, Ti g1.2.1, Ti g1.2.2])]⟩) ?_ ?_
         ·refine YR 2 ?_
          refine L0 rfl rfl (Y0_max (a := x6) (b := y10) rfl kk kk) ?_
          refine YR 3 ?_
          refine zU (eqI (mxI x6 y10) size3) (fun hc14 => ?_) (fun hc14 => ?_)
          ·have hb16 := zT hb16 hc14
           obtain ⟨y15, hy15, hb16⟩ := zA hb16
           have hb16 := zB hb16
           refine YQ hc14 ?_
           refine YK 2 (zGD hy15) zFa ?_
           refine YR 3 ?_
           refine zU b16 (fun hc17 => ?_) (fun hc17 => ?_)
           ·have hb20 := zT hb20 hc17
            obtain ⟨y18, hy18, hb20⟩ := zA hb20
            obtain ⟨y19, hy19, hb20⟩ := zA hb20
            have hb20 := zB hb20
            refine YQ hc17 ?_ (by rw [← hb16]; (try rw [← hb20]); (try rw [hc14]); kernel_rfl)
            refine YK 3 (zFN hy18) zEx ?_
            refine YK 1 (zGD hy19) zFa ?_
            exact YE (by rw [← hb20]; (try rw [hc14]); (try rw [hc17]); kernel_rfl)
           ·have hb20 := zB (zJ hb20 hc17)
            refine YQ hc17 ?_ (by rw [← hb16]; (try rw [← hb20]); (try rw [hc14]); kernel_rfl)
            exact YE (by rw [← hb20]; (try rw [hc14]); (try rw [hc17]); kernel_rfl)
          ·have hb16 := zB (zJ hb16 hc14)
           refine YQ hc14 ?_
           refine YR 6 ?_
           subst hb16
           have hc17 : false = false := rfl
           have hb20 := zB (zJ hb20 hc17)
           exact YE (by rw [← hb20]; (try rw [hc14]); kernel_rfl)
         refine VC h (fun h => ?_) (fun h => ?_)
         ·refine VE ?_
          refine zM ?_
          obtain rfl := zB h
          have h := hko12
          obtain rfl := zB h
          have h := hko8
          obtain rfl := zB h
          have h := hko5
          obtain rfl := zB h
          exact VT
         ·refine zK ?_
          show V _ _ _ _
          obtain ⟨y22, hy22, h⟩ := zR h
          refine qS (mb 43 454) [16] (s1 := ⟨.bot :: I a2 :: .pt 16 0 :: bt 3 (I size3 :: I x6 :: I y22 :: bt 34 []), [(16, .box [Ti g1.1, Ti g1.2.1, Ti g1.2.2])]⟩) ?_ ?_
          ·refine XR 3 ?_
           refine zH ?_
           subst hy22
           kernel_rfl
          exact ⟨n, Nat.lt_succ_self n, _,  kk, h⟩
        ·refine qO ?_
         obtain rfl := zB h
         exact ⟨_, rfl, kk⟩
      rintro o12 rfl
      have h := hko12
      clear hko12
      show V _ _ _ _
      obtain ⟨x23, hx23, h⟩ := zR h
      refine qS (mb 43 198) [16] (s1 := ⟨.bot :: I a2 :: .pt 16 0 :: bt 3 (I size3 :: I x23 :: bt 35 []), [(16, .box [Ti g1.1, Ti g1.2.1, Ti g1.2.2])]⟩) ?_ ?_
      ·refine XR 3 ?_
       refine zH ?_
       subst hx23
       kernel_rfl
      exact ⟨n, Nat.lt_succ_self n, _,  kk, h⟩
     ·refine qO ?_
      obtain rfl := zB h
      exact ⟨_, rfl, kk⟩
   rintro o8 rfl
   have h := hko8
   clear hko8
   show V _ _ _ _
   obtain ⟨size24, hsize24, h⟩ := zR h
   refine qS (mb 43 70) [16] (s1 := ⟨.bot :: I a2 :: .pt 16 0 :: bt 3 (I size24 :: bt 36 []), [(16, .box [Ti g1.1, Ti g1.2.1, Ti g1.2.2])]⟩) ?_ ?_
   ·refine XR 3 ?_
    refine zH ?_
    subst hsize24
    kernel_rfl
   exact ⟨n, Nat.lt_succ_self n, _,  kk, h⟩
 rintro o5 rfl
 cases hko5
theorem zJY : CfW Tryz.prog 186 := cfW Tryz.func186
theorem zJo {a1 : Int} {vm2 : Int} {r : Int} (h : zD3 a1 vm2 = some r) : qE Tryz.prog 186 [I a1, I vm2] (I r) [] := by
 refine CtW [4] Tryz.func186 rfl rfl 34 ?_
 unfold zD3 at h
 refine VE ?_
 refine VE ?_
 refine zO ?_
 obtain ⟨y3, hy3, h⟩ := zA h
 refine VS ?_
 refine YK 2 (zDZ hy3) zCo ?_
 refine YF ?_
 obtain ⟨o9, hLo9, h⟩ := zA h
 refine zAz (mb 34 34) [] (s1 := ⟨.bot :: I vm2 :: bt 3 (I o9 :: bt 28 []), []⟩) ?_ ?_
 ·clear h
  refine zL (qT (fun n s => ∃ (x4 : Int) (y5 : Int) (vr6 : Int) (vs7 : Int), s.keep (mb 34 482) [] = (⟨.bot :: I vm2 :: bt 3 (I x4 :: I y5 :: I vr6 :: I vs7 :: bt 25 []), []⟩ : St) ∧ zDR vm2 n x4 y5 vr6 vs7 = some o9) FU ⟨_, _, _, _,  kk, hLo9⟩ ?_)
  clear hLo9
  rintro n s ⟨x4, y5, vr6, vs7, hs, h⟩
  refine qQ _ _ hs ?_
  clear hs
  cases n with
  | zero => cases h
  | succ n =>
   rw [zDR] at h
   refine zO ?_
   refine VE ?_
   refine VC h (fun h => ?_) (fun h => ?_)
   ·refine zK ?_
    show V _ _ _ _
    refine zL ?_
    obtain ⟨z11, hz11, h⟩ := zA h
    obtain ⟨q12, hq12, h⟩ := zR h
    refine zG (mb 34 994) [] (s1 := ⟨.bot :: I vm2 :: bt 3 (I x4 :: I y5 :: I vr6 :: I vs7 :: I q12 :: bt 24 []), []⟩) ?_ ?_
    ·refine XR 2 ?_
     refine L0 rfl rfl (jJ (a := vr6) (b := vs7) rfl kk kk (jC hz11)) ?_
     refine XR 1 ?_
     refine zH ?_
     subst hq12
     kernel_rfl
    obtain ⟨vs13, hvs13, h⟩ := zR h
    refine zG (mb 34 994) [] (s1 := ⟨.bot :: I vm2 :: bt 3 (I x4 :: I y5 :: I vs7 :: I vs13 :: I q12 :: bt 24 []), []⟩) ?_ ?_
    ·refine XR 8 ?_
     refine zH ?_
     subst hvs13
     kernel_rfl
    obtain ⟨y14, hy14, h⟩ := zR h
    refine qS (mb 34 482) [] (s1 := ⟨.bot :: I vm2 :: bt 3 (I y5 :: I y14 :: I vs7 :: I vs13 :: bt 25 []), []⟩) ?_ ?_
    ·refine XR 8 ?_
     refine zH ?_
     subst hy14
     kernel_rfl
    exact ⟨n, Nat.lt_succ_self n, _, _, _, _,  kk, h⟩
   ·refine qO ?_
    obtain rfl := zB h
    show St.keep _ _ _ = _
    kernel_rfl
 show V _ _ _ _
 obtain ⟨y15, hy15, h⟩ := zA h
 refine VS ?_
 refine YK 2 (zDZ hy15) zCo ?_
 refine YF ?_
 cases h
 exact zM VT
theorem zG9 : CfW Tryz.prog 153 := cfW Tryz.func153
theorem zGl {f1 : (Int × Int × Int)} {x2 : Int} {y3 : Int} {r : (((Int × Int × Int)) × ((Int × Int × Int × Int)))} (h : zAw f1 x2 y3 = some r) : qE Tryz.prog 153 [.ag [Ti f1.1, Ti f1.2.1, Ti f1.2.2], I x2, I y3] (.tc (.ag [Ti r.1.1, Ti r.1.2.1, Ti r.1.2.2]) (.tc (.ag [Ti r.2.1, Ti r.2.2.1, Ti r.2.2.2.1, Ti r.2.2.2.2]) .tn)) [] := by
 refine qI (rs := [.w 6 3, .w 7 4]) (vs := [.cell 6 27, .cell 7 57]) Tryz.func153 rfl rfl (.cons ⟨rfl, wd27⟩ (.cons ⟨rfl, wd57⟩ FitsL.nil)) (by decide) 59 rfl ?_
 unfold zAw at h
 refine VE ?_
 refine VS ?_
 refine YR 2 ?_
 refine L0 rfl rfl (qJ (cs := [Ti x2, Ti 0, Ti y3, Ti 0]) pl57 bt57 rfl rfl kk) ?_
 refine YF ?_
 obtain ⟨j4, hj4, h⟩ := zA h
 refine zEj (mb 59 462) [64, 56, 48, 24] (s1 := ⟨.bot :: I x2 :: I y3 :: .pt 24 0 :: .bot :: .bot :: .pt 48 0 :: .pt 56 0 :: .pt 64 0 :: bt 50 [], [(64, .box [Ti x2, Ti j4.1, Ti y3, Ti j4.2]), (56, .box [Ti 0, Ti 0, Ti 0, Ti 0]), (48, .box [Ti 0, Ti 0, Ti 0]), (24, .box [Ti f1.1, Ti f1.2.1, Ti f1.2.2])]⟩) ?_ ?_
 ·clear h
  have h := hj4
  clear hj4
  refine VE ?_
  refine VC h (fun h => ?_) (fun h => ?_)
  ·refine jS ?_
   refine YF ?_
   obtain rfl := zB h
   show St.keep _ _ _ = _
   kernel_rfl
  ·obtain ⟨y6, hy6, h⟩ := zA h
   obtain ⟨y7, hy7, h⟩ := zA h
   refine VS ?_
   refine YK 2 (zGE hy6) zFb ?_
   refine YK 0 (zJo hy7) zJY ?_
   refine YF ?_
   obtain ⟨z8, hz8, h⟩ := zA h
   obtain ⟨f9, hf9, h⟩ := zR h
   refine qS (mb 59 462) [64, 56, 48, 24] (s1 := ⟨.bot :: I x2 :: I y3 :: .pt 24 0 :: .bot :: .bot :: .pt 48 0 :: .pt 56 0 :: .pt 64 0 :: bt 50 [], [(64, .box [Ti x2, Ti f9, Ti y3, Ti y7]), (56, .box [Ti 0, Ti 0, Ti 0, Ti 0]), (48, .box [Ti 0, Ti 0, Ti 0]), (24, .box [Ti f1.1, Ti f1.2.1, Ti f1.2.2])]⟩) ?_ ?_
   ·refine XR 6 ?_
    refine L0 rfl rfl (jJ (a := w64 ((w64 (x2 * y7)) - 1)) (b := y3) rfl kk kk (jC hz8)) ?_
    refine XR 2 ?_
    refine zH ?_
    subst hf9
    kernel_rfl
   obtain rfl := zB h
   show St.keep _ _ _ = _
   kernel_rfl
 obtain ⟨y10, hy10, h⟩ := zA h
 refine VS ?_
 refine YK 2 (zBC hy10) zAx ?_
 refine YF ?_
 obtain ⟨y11, hy11, h⟩ := zA h
 obtain ⟨t12, ht12, h⟩ := zR h
 refine zG (mb 59 1486) [64, 56, 48, 24] (s1 := ⟨.bot :: I x2 :: I y3 :: .pt 24 0 :: .bot :: .bot :: .pt 48 0 :: .pt 56 0 :: .pt 64 0 :: .bot :: I t12 :: bt 48 [], [(64, .box [Ti x2, Ti j4.1, Ti y3, Ti j4.2]), (56, .box [Ti 0, Ti 0, Ti 0, Ti 0]), (48, .box [Ti 0, Ti 0, Ti 0]), (24, .box [Ti f1.1, Ti f1.2.1, Ti f1.2.2])]⟩) ?_ ?_
 ·refine XR 5 ?_
  refine XC (zGU hy11) zFv rfl rfl rfl ?_
  refine XR 2 ?_
  refine zH ?_
  subst ht12
  kernel_rfl
 obtain ⟨f13, hf13, h⟩ := zR h
 refine zG (mb 59 1484) [64, 56, 48, 24] (s1 := ⟨.bot :: .bot :: I y3 :: .pt 24 0 :: .bot :: .bot :: .pt 48 0 :: .pt 56 0 :: .pt 64 0 :: .bot :: I t12 :: bt 48 [], [(64, .box [Ti x2, Ti f13, Ti y3, Ti j4.2]), (56, .box [Ti 0, Ti 0, Ti 0, Ti 0]), (48, .box [Ti 0, Ti 0, Ti 0]), (24, .box [Ti f1.1, Ti f1.2.1, Ti f1.2.2])]⟩) ?_ ?_
 ·refine XR 8 ?_
  refine zH ?_
  subst hf13
  kernel_rfl
 obtain ⟨f14, hf14, h⟩ := zR h
 refine zG (mb 59 456) [64, 56, 48, 24] (s1 := ⟨bt 3 (.pt 24 0 :: .bot :: .bot :: .pt 48 0 :: .pt 56 0 :: .pt 64 0 :: bt 50 []), [(64, .box [Ti x2, Ti f13, Ti y3, Ti f14]), (56, .box [Ti 0, Ti 0, Ti 0, Ti 0]), (48, .box [Ti 0, Ti 0, Ti 0]), (24, .box [Ti f1.1, Ti f1.2.1, Ti f1.2.2])]⟩) ?_ ?_
 ·refine XR 8 ?_
  refine zH ?_
  subst hf14
  kernel_rfl
 obtain ⟨y15, hy15, h⟩ := zA h
 refine VDS [0, 0, 3, 0, 7, 31] 5 [[.z, .b, .z, .b, .z], [.b, .z, .z, .b, .z], [.a, .a, .z, .b, .z], [.b, .b, .b, .z, .r 48], [.a, .a, .a, .b, .z]] ?_
 refine EK 2 (zBC hy15) zAx ?_
 refine EF 2 ?_
 cases h
 exact zM VT
theorem zHu : CfW Tryz.prog 187 := cfW Tryz.func187
theorem zIN {vm1 : (Int × Int × Int × Int)} {r : Int} (h : zC4 vm1 = some r) : qE Tryz.prog 187 [.ag [Ti vm1.1, Ti vm1.2.1, Ti vm1.2.2.1, Ti vm1.2.2.2]] (I r) [] := by
 refine CtW [2] Tryz.func187 rfl rfl 14 ?_
 unfold zC4 at h
 refine VE ?_
 obtain ⟨t2, ht2, h⟩ := zR h
 refine zG (mb 14 4) [] (s1 := ⟨.bot :: .bot :: I t2 :: bt 11 [], []⟩) ?_ ?_
 ·refine XR 12 ?_
  refine zH ?_
  subst ht2
  kernel_rfl
 cases h
 exact zM VT
theorem zE3 : CfW Tryz.prog 154 := cfW Tryz.func154
theorem zE9 {vm1 : (Int × Int × Int × Int)} {r : (Int × Int × Int × Int)} (h : q9 vm1 = some r) : qE Tryz.prog 154 [.ag [Ti vm1.1, Ti vm1.2.1, Ti vm1.2.2.1, Ti vm1.2.2.2]] (.ag [Ti r.1, Ti r.2.1, Ti r.2.2.1, Ti r.2.2.2]) [] := by
 refine qI (rs := [.w 2 4]) (vs := [.cell 2 57]) Tryz.func154 rfl rfl (.cons ⟨rfl, wd57⟩ FitsL.nil) (by decide) 25 rfl ?_
 unfold q9 at h
 refine VE ?_
 obtain ⟨y2, hy2, h⟩ := zA h
 refine VS ?_
 refine YK 1 (zIN hy2) zHu ?_
 refine YF ?_
 obtain ⟨f3, hf3, h⟩ := zR h
 obtain ⟨f4, hf4, h⟩ := zR h
 obtain ⟨f5, hf5, h⟩ := zR h
 obtain ⟨f6, hf6, h⟩ := zR h
 refine zG (mb 25 4) [16] (s1 := ⟨.bot :: .bot :: .pt 16 0 :: bt 22 [], [(16, .box [Ti f3, Ti f4, Ti f5, Ti f6])]⟩) ?_ ?_
 ·refine XR 18 ?_
  refine L0 rfl rfl (qJ (cs := [Ti (w64 (y2 * vm1.2.2.2)), Ti (w64 ((w64 (0 - y2)) * vm1.2.1)), Ti (w64 ((w64 (0 - y2)) * vm1.2.2.1)), Ti (w64 (y2 * vm1.1))]) pl57 bt57 rfl rfl kk) ?_
  refine XR 1 ?_
  refine zH ?_
  subst hf3 hf4 hf5 hf6
  kernel_rfl
 cases h
 exact zM VT
theorem zGZ : CfW Tryz.prog 101 := cfW Tryz.func101
theorem zGh {f1 : (Int × Int × Int)} {p2 : Int} {r : (((Int × Int × Int)) × ((Int × Int × Int × Int)))} (h : zBe f1 p2 = some r) : qE Tryz.prog 101 [.ag [Ti f1.1, Ti f1.2.1, Ti f1.2.2], I p2] (.tc (.ag [Ti r.1.1, Ti r.1.2.1, Ti r.1.2.2]) (.tc (.ag [Ti r.2.1, Ti r.2.2.1, Ti r.2.2.2.1, Ti r.2.2.2.2]) .tn)) [] := by
 refine qI (rs := [.w 4 3, .w 5 4]) (vs := [.cell 4 27, .cell 5 57]) Tryz.func101 rfl rfl (.cons ⟨rfl, wd27⟩ (.cons ⟨rfl, wd57⟩ FitsL.nil)) (by decide) 89 rfl ?_
 unfold zBe at h
 refine VE ?_
 obtain ⟨y3, hy3, h⟩ := zA h
 refine VS ?_
 refine YK 1 (zEl hy3) zE2 ?_
 refine YF ?_
 obtain ⟨y4, hy4, h⟩ := zA h
 refine VS ?_
 refine YK 2 (zIH hy4) zHp ?_
 refine YF ?_
 obtain ⟨y5, hy5, h⟩ := zA h
 refine VS ?_
 refine YK 3 (zGl hy5) zG9 ?_
 refine YF ?_
 obtain ⟨y6, hy6, h⟩ := zA h
 refine VDS [0, 0, 0, 0, 15, 31] 4 (cdm 4 [168, 162, 138, 42]) ?_
 refine EK 1 (zHf hy6) zHE ?_
 refine EF 2 ?_
 refine zO ?_
 obtain ⟨o12, hLo12, h⟩ := zA h
 refine zAz (mb 89 14514) [104, 96, 88, 56, 40, 32] (s1 := ⟨.bot :: I p2 :: .bot :: .bot :: .pt 32 0 :: .pt 40 0 :: .bot :: .pt 56 0 :: bt 3 (.pt 88 0 :: .pt 96 0 :: .pt 104 0 :: bt 75 []), [(104, .box [Ti y6.1, Ti o12.1, Ti y6.2.2.1, Ti y6.2.2.2]), (96, .box [Ti o12.2.1, Ti o12.2.2.1, Ti o12.2.2.2]), (88, .box [Ti y5.2.1, Ti y5.2.2.1, Ti y5.2.2.2.1, Ti y5.2.2.2.2]), (56, .box [Ti y3.2.1, Ti y3.2.2.1, Ti y3.2.2.2.1, Ti y3.2.2.2.2]), (40, .box [Ti 0, Ti 0, Ti 0, Ti 0]), (32, .box [Ti 0, Ti 0, Ti 0])]⟩) ?_ ?_
 ·clear h
  refine zL (qT (fun n s => ∃ (f7 : Int) (f8 : Int) (f9 : Int) (f10 : Int), s.keep (mb 89 15538) [104, 96, 88, 80, 56, 40, 32] = (⟨.bot :: I p2 :: .bot :: .bot :: .pt 32 0 :: .pt 40 0 :: .bot :: .pt 56 0 :: .bot :: .bot :: .pt 80 0 :: .pt 88 0 :: .pt 96 0 :: .pt 104 0 :: bt 75 [], [(104, .box [Ti y6.1, Ti f7, Ti y6.2.2.1, Ti y6.2.2.2]), (96, .box [Ti f8, Ti f9, Ti f10]), (88, .box [Ti y5.2.1, Ti y5.2.2.1, Ti y5.2.2.2.1, Ti y5.2.2.2.2]), (80, .box [Ti y5.1.1, Ti y5.1.2.1, Ti y5.1.2.2]), (56, .box [Ti y3.2.1, Ti y3.2.2.1, Ti y3.2.2.2.1, Ti y3.2.2.2.2]), (40, .box [Ti 0, Ti 0, Ti 0, Ti 0]), (32, .box [Ti 0, Ti 0, Ti 0])]⟩ : St) ∧ zAp p2 y3 y5 y6 n f7 f8 f9 f10 = some o12) FU ⟨_, _, _, _,  kk, hLo12⟩ ?_)
  clear hLo12
  rintro n s ⟨f7, f8, f9, f10, hs, h⟩
  refine qQ _ _ hs ?_
  clear hs
  cases n with
  | zero => cases h
  | succ n =>
   rw [zAp] at h
   refine zO ?_
   obtain ⟨z13, hz13, h⟩ := zA h
   obtain ⟨b16, hb16, h⟩ := zA h
   refine zG (mb 89 1125899906858162) [104, 96, 88, 80, 56, 40, 32] (s1 := ⟨.bot :: I p2 :: .bot :: .bot :: .pt 32 0 :: .pt 40 0 :: .bot :: .pt 56 0 :: .bot :: .bot :: .pt 80 0 :: .pt 88 0 :: .pt 96 0 :: .pt 104 0 :: bt 36 (Bo b16 :: bt 38 []), [(104, .box [Ti y6.1, Ti f7, Ti y6.2.2.1, Ti y6.2.2.2]), (96, .box [Ti f8, Ti f9, Ti f10]), (88, .box [Ti y5.2.1, Ti y5.2.2.1, Ti y5.2.2.2.1, Ti y5.2.2.2.2]), (80, .box [Ti y5.1.1, Ti y5.1.2.1, Ti y5.1.2.2]), (56, .box [Ti y3.2.1, Ti y3.2.2.1, Ti y3.2.2.2.1, Ti y3.2.2.2.2]), (40, .box [Ti 0, Ti 0, Ti 0, Ti 0]), (32, .box [Ti 0, Ti 0, Ti 0])]⟩) ?_ ?_
   ·refine YR 3 ?_
    refine L0 rfl rfl (zCP (k := .i64) (a := f9) (b := p2) rfl kk kk (jC hz13)) ?_
    refine YR 2 ?_
    refine zU (!eqI (Int.tmod f9 p2) 0) (fun hc14 => ?_) (fun hc14 => ?_)
    ·have hb16 := zB (zT hb16 hc14)
     refine YQ hc14 ?_
     exact YE (by rw [← hb16]; (try rw [hc14]); kernel_rfl)
    ·have hb16 := zJ hb16 hc14
     obtain ⟨z15, hz15, hb16⟩ := zA hb16
     have hb16 := zB hb16
     refine YQ hc14 ?_
     refine YR 5 ?_
     refine YT (zD rfl (zCP (k := .i64) (a := f10) (b := w64 (p2 * p2)) rfl kk kk (jC hz15))) ?_
     exact YE (by rw [← hb16]; (try rw [hc14]); kernel_rfl)
   refine VC h (fun h => ?_) (fun h => ?_)
   ·refine zK ?_
    show V _ _ _ _
    refine zL ?_
    obtain ⟨f18, hf18, h⟩ := zR h
    refine zG (mb 89 15538) [104, 96, 88, 80, 56, 40, 32] (s1 := ⟨.bot :: I p2 :: .bot :: .bot :: .pt 32 0 :: .pt 40 0 :: .bot :: .pt 56 0 :: .bot :: .bot :: .pt 80 0 :: .pt 88 0 :: .pt 96 0 :: .pt 104 0 :: bt 75 [], [(104, .box [Ti y6.1, Ti f18, Ti y6.2.2.1, Ti y6.2.2.2]), (96, .box [Ti f8, Ti f9, Ti f10]), (88, .box [Ti y5.2.1, Ti y5.2.2.1, Ti y5.2.2.2.1, Ti y5.2.2.2.2]), (80, .box [Ti y5.1.1, Ti y5.1.2.1, Ti y5.1.2.2]), (56, .box [Ti y3.2.1, Ti y3.2.2.1, Ti y3.2.2.2.1, Ti y3.2.2.2.2]), (40, .box [Ti 0, Ti 0, Ti 0, Ti 0]), (32, .box [Ti 0, Ti 0, Ti 0])]⟩) ?_ ?_
    ·refine XR 5 ?_
     refine zH ?_
     subst hf18
     kernel_rfl
    obtain ⟨y19, hy19, h⟩ := zA h
    refine jS ?_
    refine YK 2 (zBC hy19) zAx ?_
    refine YF ?_
    exact ⟨n, Nat.lt_succ_self n, _, _, _, _,  kk, h⟩
   ·refine qO ?_
    obtain rfl := zB h
    show St.keep _ _ _ = _
    kernel_rfl
 show V _ _ _ _
 obtain ⟨z20, hz20, h⟩ := zA h
 obtain ⟨z21, hz21, h⟩ := zA h
 obtain ⟨y22, hy22, h⟩ := zA h
 refine VDS [0, 1, 0, 4, 0, 28, 0, 64, 0, 0, 768, 1984, 4095, 8191, 16383, 32767, 32767, 0, 0, 458751, 1048575] 20 [[.z, .z, .b, .b, .b, .b, .b, .b, .b, .b, .b, .b, .z, .z, .z, .z, .z, .b, .b, .z], [.a, .z, .b, .b, .b, .b, .b, .b, .b, .b, .b, .b, .z, .z, .z, .z, .z, .b, .b, .z], [.b, .b, .z, .z, .b, .z, .b, .b, .b, .b, .b, .b, .z, .z, .z, .z, .z, .b, .b, .z], [.b, .b, .a, .z, .b, .z, .b, .b, .b, .b, .b, .b, .z, .z, .z, .z, .z, .b, .b, .z], [.b, .b, .b, .b, .z, .z, .b, .b, .b, .b, .b, .b, .z, .z, .z, .z, .z, .b, .b, .z], [.b, .b, .a, .a, .a, .z, .b, .b, .b, .b, .b, .b, .z, .z, .z, .z, .z, .b, .b, .z], [.b, .b, .b, .b, .b, .b, .z, .z, .b, .b, .b, .z, .z, .z, .z, .z, .z, .b, .b, .z], [.b, .b, .b, .b, .b, .b, .a, .z, .b, .b, .b, .z, .z, .z, .z, .z, .z, .b, .b, .z], [.b, .b, .b, .b, .b, .b, .b, .b, .z, .b, .z, .z, .z, .z, .z, .z, .z, .b, .b, .z], [.b, .b, .b, .b, .b, .b, .b, .b, .b, .z, .z, .z, .z, .z, .z, .z, .z, .b, .b, .z], [.b, .b, .b, .b, .b, .b, .b, .b, .a, .a, .z, .z, .z, .z, .z, .z, .z, .b, .b, .z], [.b, .b, .b, .b, .b, .b, .a, .a, .a, .a, .a, .z, .z, .z, .z, .z, .z, .b, .b, .z], [.a, .a, .a, .a, .a, .a, .a, .a, .a, .a, .a, .a, .z, .z, .z, .z, .z, .b, .b, .z], [.a, .a, .a, .a, .a, .a, .a, .a, .a, .a, .a, .a, .a, .z, .z, .z, .z, .b, .b, .z], [.a, .a, .a, .a, .a, .a, .a, .a, .a, .a, .a, .a, .a, .a, .z, .z, .z, .b, .b, .z], [.a, .a, .a, .a, .a, .a, .a, .a, .a, .a, .a, .a, .a, .a, .a, .z, .b, .b, .b, .z], [.a, .a, .a, .a, .a, .a, .a, .a, .a, .a, .a, .a, .a, .a, .a, .b, .z, .b, .b, .r 112], [.b, .b, .b, .b, .b, .b, .b, .b, .b, .b, .b, .b, .b, .b, .b, .b, .b, .z, .b, .z], [.b, .b, .b, .b, .b, .b, .b, .b, .b, .b, .b, .b, .b, .b, .b, .b, .b, .b, .z, .z], [.a, .a, .a, .a, .a, .a, .a, .a, .a, .a, .a, .a, .a, .a, .a, .a, .b, .a, .a, .z]] ?_
 refine ER 5 ?_
 refine E0 5 rfl rfl (jJ (a := o12.2.2.1) (b := p2) rfl kk kk (jC hz20)) ?_
 refine ER 5 ?_
 refine E0 11 rfl rfl (jJ (a := o12.2.2.2) (b := w64 (p2 * p2)) rfl kk kk (jC hz21)) ?_
 refine E0 12 rfl rfl (qJ (cs := [Ti o12.2.1, Ti (w64 (Int.tdiv o12.2.2.1 p2)), Ti (w64 (Int.tdiv o12.2.2.2 (w64 (p2 * p2))))]) pl27 bt27 rfl rfl kk) ?_
 refine EK 0 (zEl hy22) zE2 ?_
 refine EF 6 ?_
 obtain ⟨y23, hy23, h⟩ := zA h
 obtain ⟨y24, hy24, h⟩ := zA h
 refine VDS [0, 0, 3, 0, 15, 0, 63] 6 (cdm 6 [2184, 2178, 2181, 2090, 2133, 682]) ?_
 refine EK 2 (zBs hy23) zBh ?_
 refine EK 1 (zBs hy24) zBh ?_
 refine EF 1 ?_
 obtain ⟨y25, hy25, h⟩ := zA h
 obtain ⟨y26, hy26, h⟩ := zA h
 obtain ⟨y27, hy27, h⟩ := zA h
 obtain ⟨y28, hy28, h⟩ := zA h
 refine zHS [0, 0, 2, 0, 8, 30, 0, 126, 254, 511, 1023] 9 (cdm 9 [174760, 8834, 8838, 8234, 8298, 8534, 2730, 5462, 21846]) (mb 89 48) [40, 32] (s1 := ⟨bt 4 (.pt 32 0 :: .pt 40 0 :: bt 83 []), [(40, .box [Ti y28.1, Ti y28.2.1, Ti y28.2.2.1, Ti y28.2.2.2]), (32, .box [Ti y22.1.1, Ti y22.1.2.1, Ti y22.1.2.2])]⟩) kk kk ?_ ?_
 ·refine EK 2 (zE9 hy25) zE3 ?_
  refine ER 1 ?_
  refine E0 4 rfl rfl (qJ (cs := [Ti 1, Ti 0, Ti 0, Ti p2]) pl57 bt57 rfl rfl kk) ?_
  refine EK 0 (zBs hy26) zBh ?_
  refine EK 1 (zE9 hy27) zE3 ?_
  refine EK 0 (zBs hy28) zBh ?_
  refine EA 0 ?_
  exact XE
 cases h
 exact zM VT
theorem zJ0 : CfW Tryz.prog 141 := cfW Tryz.func141
theorem zJq {g1 : (Int × Int × Int)} {cap2 : Int} {cap3 : (Int × Int × Int)} {r : Bool} (h : zD6 g1 cap2 cap3 = some r) : qE Tryz.prog 141 [.ag [Ti g1.1, Ti g1.2.1, Ti g1.2.2], .pe [Ti cap2], .pe [Ti cap3.1, Ti cap3.2.1, Ti cap3.2.2]] (Bo r) [] := by
 refine CtW [4] Tryz.func141 rfl rfl 16 ?_
 unfold zD6 at h
 refine VE ?_
 obtain ⟨y4, hy4, h⟩ := zA h
 refine VS ?_
 refine YK 2 (zGh hy4) zGZ ?_
 refine YF ?_
 obtain ⟨t5, ht5, h⟩ := zA h
 have ht5 := zB ht5
 refine zG (mb 16 16) [] (s1 := ⟨bt 4 (Bo t5 :: bt 11 []), []⟩) ?_ ?_
 ·refine XR 2 ?_
  refine L0 rfl rfl (Y0_eqg3 (a0 := y4.1.1) (b0 := cap3.1) (a1 := y4.1.2.1) (b1 := cap3.2.1) (a2 := y4.1.2.2) (b2 := cap3.2.2) eqg27 rfl kk kk) ?_
  refine XR 1 ?_
  refine zH ?_
  subst ht5
  kernel_rfl
 cases h
 exact zM VT
theorem zH6 : CfW Tryz.prog 91 := cfW Tryz.func91
theorem zIK {f1 : (Int × Int × Int)} {p2 : Int} {r : List ((Int × Int × Int))} (h : zCw f1 p2 = some r) : qE Tryz.prog 91 [.ag [Ti f1.1, Ti f1.2.1, Ti f1.2.2], I p2] (.ow 0) [(0, .arr 27 3 (r.map c27))] := by
 refine CtW [4] Tryz.func91 rfl rfl 13 ?_
 unfold zCw at h
 refine VS ?_
 refine YR 2 ?_
 refine L1 rfl rfl (zDB (e := 27) 3 (by decide) (.inl rfl)) ?_
 refine YF ?_
 refine V_freezeB 24 (cs := [Ti p2]) kk rfl ?_
 refine V_freezeB 16 (cs := [Ti f1.1, Ti f1.2.1, Ti f1.2.2]) kk rfl ?_
 obtain ⟨y3, hy3, h⟩ := zA h
 obtain ⟨y4, hy4, h⟩ := zA h
 refine VDS [0, 1, 0, 7, 0, 31, 0, 127, 255] 9 (cdm 9 [8736, 8737, 8714, 8725, 8362, 8533, 2730, 5461, 21845]) ?_
 refine EK 1 (zAq hy3) zAg ?_
 refine ER 4 ?_
 refine E0 6 rfl rfl (Y0_makeFunc (f := 141) (cs := [[Ti p2], [Ti f1.1, Ti f1.2.1, Ti f1.2.2]]) rfl kk) ?_
 refine EK 0 (zIn (fso2 := 141) (cso2 := [[Ti p2], [Ti f1.1, Ti f1.2.1, Ti f1.2.2]]) zJ0 (fun hh => zJq hh) hy4) zIa ?_
 refine EF 1 ?_
 cases h
 exact zM VT
theorem zIb : CfW Tryz.prog 31 := cfW Tryz.func31
theorem zIo {f1 : (Int × Int × Int)} {p2 : Int} {r : ((List ((Int × Int × Int))) × Bool)} (h : zA9 f1 p2 = some r) : qE Tryz.prog 31 [.ag [Ti f1.1, Ti f1.2.1, Ti f1.2.2], I p2] (.tc (.ow 0) (.tc (Bo r.2) .tn)) [(0, .arr 27 3 (r.1.map c27))] := by
 refine CtW [4, 5] Tryz.func31 rfl rfl 21 ?_
 unfold zA9 at h
 refine VS ?_
 refine YR 1 ?_
 refine L1 rfl rfl (zDB (e := 27) 3 (by decide) (.inl rfl)) ?_
 refine YF ?_
 refine zO ?_
 obtain ⟨y3, hy3, h⟩ := zA h
 obtain ⟨b7, hb7, h⟩ := zA h
 refine zG (mb 21 32774) [16] (s1 := ⟨.bot :: I p2 :: .pt 16 0 :: bt 12 (Bo b7 :: bt 5 []), [(16, .box [Ti f1.1, Ti f1.2.1, Ti f1.2.2])]⟩) ?_ ?_
 ·refine YK 1 (zEI hy3) zDr ?_
  refine YR 2 ?_
  refine zU (!y3) (fun hc4 => ?_) (fun hc4 => ?_)
  ·have hb7 := zB (zT hb7 hc4)
   refine YQ hc4 ?_
   exact YE (by rw [← hb7]; (try rw [hc4]); kernel_rfl)
  ·have hb7 := zJ hb7 hc4
   obtain ⟨y5, hy5, hb7⟩ := zA hb7
   obtain ⟨y6, hy6, hb7⟩ := zA hb7
   have hb7 := zB hb7
   refine YQ hc4 ?_
   refine YK 1 (zAq hy5) zAg ?_
   refine YK 1 (zET hy6) zEF ?_
   exact YE (by rw [← hb7]; (try rw [hc4]); kernel_rfl)
 refine VC h (fun h => ?_) (fun h => ?_)
 ·refine VS ?_
  refine L1 rfl rfl (zBr Tryz.underlying24 sz27 (by decide) rfl rfl) ?_
  refine YF ?_
  cases h
  exact zM VT
 ·refine zK ?_
  show V _ _ _ _
  obtain ⟨y9, hy9, h⟩ := zA h
  obtain ⟨y10, hy10, h⟩ := zA h
  refine VS ?_
  refine YK 1 (zES hy9) zEE ?_
  refine YK 1 (zIK hy10) zH6 ?_
  refine YF ?_
  cases h
  exact zM VT
theorem zHo : CfW Tryz.prog 155 := cfW Tryz.func155
theorem zIG {f1 : (Int × Int × Int)} {r : Bool} (h : zCY f1 = some r) : qE Tryz.prog 155 [.ag [Ti f1.1, Ti f1.2.1, Ti f1.2.2]] (Bo r) [] := by
 refine CtW [2] Tryz.func155 rfl rfl 15 ?_
 unfold zCY at h
 refine VE ?_
 obtain ⟨y2, hy2, h⟩ := zA h
 obtain ⟨b5, hb5, h⟩ := zA h
 refine zG (mb 15 4) [] (s1 := ⟨.bot :: .bot :: Bo (bif b5 then (ltI 0 f1.1) else false) :: bt 12 [], []⟩) ?_ ?_
 ·refine YK 1 (zH2 hy2) zHD ?_
  refine YR 1 ?_
  refine zU y2 (fun hc3 => ?_) (fun hc3 => ?_)
  ·have hb5 := zT hb5 hc3
   obtain ⟨y4, hy4, hb5⟩ := zA hb5
   have hb5 := zB hb5
   refine YQ hc3 ?_
   refine YK 1 (zDG hy4) zCl ?_
   refine YR 3 ?_
   refine zU b5 (fun hc6 => ?_) (fun hc6 => ?_)
   ·refine YQ hc6 ?_ (by rw [← hb5]; (try rw [hc3]); kernel_rfl)
    exact YE (by rw [hc6]; kernel_rfl)
   ·refine YQ hc6 ?_ (by rw [← hb5]; (try rw [hc3]); kernel_rfl)
    exact YE (by rw [hc6]; kernel_rfl)
  ·have hb5 := zB (zJ hb5 hc3)
   refine YQ hc3 ?_
   refine YR 5 ?_
   subst hb5
   have hc6 : false = false := rfl
   exact YE
 cases h
 exact zM VT
theorem zKP : CfW Tryz.prog 102 := cfW Tryz.func102
theorem s_spec_vaForm {f1 : (Int × Int × Int)} {r : Bool} (h : zDx f1 = some r) : qE Tryz.prog 102 [.ag [Ti f1.1, Ti f1.2.1, Ti f1.2.2]] (Bo r) [] := by
 refine CtW [2] Tryz.func102 rfl rfl 10 ?_
 unfold zDx at h
 refine VE ?_
 obtain ⟨y2, hy2, h⟩ := zA h
 obtain ⟨b5, hb5, h⟩ := zA h
 refine zG (mb 10 4) [] (s1 := ⟨.bot :: .bot :: Bo b5 :: bt 7 [], []⟩) ?_ ?_
 ·refine YK 1 (zIG hy2) zHo ?_
  refine YR 1 ?_
  refine zU y2 (fun hc3 => ?_) (fun hc3 => ?_)
  ·have hb5 := zT hb5 hc3
   obtain ⟨y4, hy4, hb5⟩ := zA hb5
   have hb5 := zB hb5
   refine YQ hc3 ?_
   refine YK 1 (zDG hy4) zCl ?_
   exact YE (by rw [← hb5]; (try rw [hc3]); kernel_rfl)
  ·have hb5 := zB (zJ hb5 hc3)
   refine YQ hc3 ?_
   exact YE (by rw [← hb5]; (try rw [hc3]); kernel_rfl)
 cases h
 exact zM VT
theorem zKS : CfW Tryz.prog 39 := cfW Tryz.func39
theorem s_spec_coGood {f1 : (Int × Int × Int)} {r : Bool} (h : zBB f1 = some r) : qE Tryz.prog 39 [.ag [Ti f1.1, Ti f1.2.1, Ti f1.2.2]] (Bo r) [] := by
 refine CtW [2] Tryz.func39 rfl rfl 10 ?_
 unfold zBB at h
 refine VE ?_
 obtain ⟨y2, hy2, h⟩ := zA h
 obtain ⟨b5, hb5, h⟩ := zA h
 refine zG (mb 10 4) [] (s1 := ⟨.bot :: .bot :: Bo b5 :: bt 7 [], []⟩) ?_ ?_
 ·refine YK 1 (s_spec_vaForm hy2) zKP ?_
  refine YR 1 ?_
  refine zU y2 (fun hc3 => ?_) (fun hc3 => ?_)
  ·have hb5 := zT hb5 hc3
   obtain ⟨y4, hy4, hb5⟩ := zA hb5
   have hb5 := zB hb5
   refine YQ hc3 ?_
   refine YK 1 (zFq hy4) zF9 ?_
   exact YE (by rw [← hb5]; (try rw [hc3]); kernel_rfl)
  ·have hb5 := zB (zJ hb5 hc3)
   refine YQ hc3 ?_
   exact YE (by rw [← hb5]; (try rw [hc3]); kernel_rfl)
 cases h
 exact zM VT
theorem zJV : CfW Tryz.prog 156 := cfW Tryz.func156
theorem zJl {vn1 : Int} {r : Bool} (h : zD1 vn1 = some r) : qE Tryz.prog 156 [I vn1] (Bo r) [] := by
 refine CtW [2] Tryz.func156 rfl rfl 17 ?_
 unfold zD1 at h
 refine VE ?_
 refine zO ?_
 refine VE ?_
 refine VC h (fun h => ?_) (fun h => ?_)
 ·refine VE ?_
  cases h
  exact zM VT
 ·refine zK ?_
  show V _ _ _ _
  refine zO ?_
  refine VE ?_
  obtain ⟨qo5, hLo5, hko5⟩ := zA h
  refine zE6 (q := qo5) (S := fun o5 => ⟨bt 17 [], []⟩) (mb 17 0) [] ?_ ?_
  ·refine zL (qT (fun n s => ∃ (d3 : Int), s.keep (mb 17 9) [] = (⟨I vn1 :: .bot :: .bot :: I d3 :: bt 13 [], []⟩ : St) ∧ zBj vn1 n d3 = some qo5) FU ⟨_,  kk, hLo5⟩ ?_)
   clear hLo5
   rintro n s ⟨d3, hs, h⟩
   refine qQ _ _ hs ?_
   clear hs
   cases n with
   | zero => cases h
   | succ n =>
    rw [zBj] at h
    refine zO ?_
    refine VE ?_
    refine VC h (fun h => ?_) (fun h => ?_)
    ·refine zK ?_
     show V _ _ _ _
     refine zO ?_
     refine zL ?_
     obtain ⟨z7, hz7, h⟩ := zA h
     refine VS ?_
     refine YR 2 ?_
     refine L0 rfl rfl (zCP (k := .i64) (a := vn1) (b := d3) rfl kk kk (jC hz7)) ?_
     refine YF ?_
     refine VC h (fun h => ?_) (fun h => ?_)
     ·refine VE ?_
      refine zM ?_
      obtain rfl := zB h
      have h := hko5
      obtain rfl := zB h
      exact VT
     ·refine zK ?_
      show V _ _ _ _
      obtain ⟨d9, hd9, h⟩ := zR h
      refine qS (mb 17 9) [] (s1 := ⟨I vn1 :: .bot :: .bot :: I d9 :: bt 13 [], []⟩) ?_ ?_
      ·refine XR 3 ?_
       refine zH ?_
       subst hd9
       kernel_rfl
      exact ⟨n, Nat.lt_succ_self n, _,  kk, h⟩
    ·refine qO ?_
     obtain rfl := zB h
     exact ⟨_, rfl, kk⟩
  rintro o5 rfl
  have h := hko5
  clear hko5
  show V _ _ _ _
  refine VE ?_
  cases h
  exact zM VT
theorem zJT : CfW Tryz.prog 103 := cfW Tryz.func103
theorem zJj {p1 : Int} {r : Bool} (h : zEW p1 = some r) : qE Tryz.prog 103 [I p1] (Bo r) [] := by
 refine CtW [2] Tryz.func103 rfl rfl 9 ?_
 unfold zEW at h
 refine VE ?_
 obtain ⟨y2, hy2, h⟩ := zA h
 obtain ⟨b5, hb5, h⟩ := zA h
 refine zG (mb 9 4) [] (s1 := ⟨.bot :: .bot :: Bo b5 :: bt 6 [], []⟩) ?_ ?_
 ·refine YK 1 (zGc hy2) zGN ?_
  refine YR 1 ?_
  refine zU y2 (fun hc3 => ?_) (fun hc3 => ?_)
  ·have hb5 := zT hb5 hc3
   obtain ⟨y4, hy4, hb5⟩ := zA hb5
   have hb5 := zB hb5
   refine YQ hc3 ?_
   refine YK 1 (zJl hy4) zJV ?_
   exact YE (by rw [← hb5]; (try rw [hc3]); kernel_rfl)
  ·have hb5 := zB (zJ hb5 hc3)
   refine YQ hc3 ?_
   exact YE (by rw [← hb5]; (try rw [hc3]); kernel_rfl)
 cases h
 exact zM VT
theorem cf_spec_odUp : CfW Tryz.prog 40 := cfW Tryz.func40
theorem s_spec_odUp {d1 : Int} {p2 : Int} {r : Bool} (h : zCA d1 p2 = some r) : qE Tryz.prog 40 [I d1, I p2] (Bo r) [] := by
 refine CtW [4] Tryz.func40 rfl rfl 19 ?_
 unfold zCA at h
 refine VE ?_
 obtain ⟨y3, hy3, h⟩ := zA h
 obtain ⟨b6, hb6, h⟩ := zA h
 obtain ⟨b9, hb9, h⟩ := zA h
 refine zG (mb 19 16) [] (s1 := ⟨bt 4 (Bo b9 :: bt 14 []), []⟩) ?_ ?_
 ·refine YK 1 (zDv hy3) zD8 ?_
  refine YR 1 ?_
  refine zU y3 (fun hc4 => ?_) (fun hc4 => ?_)
  ·have hb6 := zT hb6 hc4
   obtain ⟨y5, hy5, hb6⟩ := zA hb6
   have hb6 := zB hb6
   refine YQ hc4 ?_
   refine YK 1 (zJj hy5) zJT ?_
   refine YR 2 ?_
   refine zU b6 (fun hc7 => ?_) (fun hc7 => ?_)
   ·have hb9 := zT hb9 hc7
    obtain ⟨y8, hy8, hb9⟩ := zA hb9
    have hb9 := zB hb9
    refine YQ hc7 ?_ (by rw [← hb6]; (try rw [← hb9]); (try rw [hc4]); kernel_rfl)
    refine YK 5 (zDv hy8) zD8 ?_
    exact YE (by rw [← hb9]; (try rw [hc4]); (try rw [hc7]); kernel_rfl)
   ·have hb9 := zB (zJ hb9 hc7)
    refine YQ hc7 ?_ (by rw [← hb6]; (try rw [← hb9]); (try rw [hc4]); kernel_rfl)
    exact YE (by rw [← hb9]; (try rw [hc4]); (try rw [hc7]); kernel_rfl)
  ·have hb6 := zB (zJ hb6 hc4)
   refine YQ hc4 ?_
   refine YR 4 ?_
   subst hb6
   have hc7 : false = false := rfl
   have hb9 := zB (zJ hb9 hc7)
   exact YE (by rw [← hb9]; (try rw [hc4]); kernel_rfl)
 cases h
 exact zM VT
theorem zJB : CfW Tryz.prog 188 := cfW Tryz.func188
theorem zJN {f1 : (Int × Int × Int)} {r : Int} (h : zEC f1 = some r) : qE Tryz.prog 188 [.ag [Ti f1.1, Ti f1.2.1, Ti f1.2.2]] (I r) [] := by
 refine CtW [2] Tryz.func188 rfl rfl 22 ?_
 unfold zEC at h
 refine VE ?_
 obtain ⟨y2, hy2, h⟩ := zA h
 obtain ⟨z3, hz3, h⟩ := zA h
 obtain ⟨t4, ht4, h⟩ := zR h
 refine zHS [0, 1, 0, 4, 15, 0, 32, 0, 128, 480, 0, 1024, 3072, 8160, 16383, 0, 32768, 98304, 262143, 524287] 20 (cdm 20 [45276113056, 45276113057, 45276112906, 45276112922, 45276112981, 45141361322, 45141362346, 45141207722, 45141224106, 45141284522, 45097855658, 45098904234, 45103098538, 45119526570, 45186635093, 715827882, 1789569706, 6084537002, 22906492245, 91625968981]) (mb 22 4) [] (s1 := ⟨.bot :: .bot :: I t4 :: bt 19 [], []⟩) kk kk ?_ ?_
 ·refine DR 13 ?_
  refine DC 13 (zDd hy2) zDJ rfl rfl rfl rfl 16 rfl ?_
  refine DR 4 ?_
  refine DE_0 18 (I (w64 (Int.tdiv (w64 ((w64 (f1.1 - f1.2.1)) - y2)) (w64 (2 * f1.1))))) kk rfl rfl rfl (zAi rfl) kk (jJ (a := w64 ((w64 (f1.1 - f1.2.1)) - y2)) (b := w64 (2 * f1.1)) rfl kk kk (jC hz3)) 21 rfl ?_
  refine DA 1 ?_
  refine zH ?_
  subst ht4
  kernel_rfl
 cases h
 exact zM VT
theorem zKQ : CfW Tryz.prog 160 := cfW Tryz.func160
theorem s_spec_reMove {f1 : (Int × Int × Int)} {r : (Int × Int × Int × Int)} (h : zDH f1 = some r) : qE Tryz.prog 160 [.ag [Ti f1.1, Ti f1.2.1, Ti f1.2.2]] (.ag [Ti r.1, Ti r.2.1, Ti r.2.2.1, Ti r.2.2.2]) [] := by
 refine qI (rs := [.w 2 4]) (vs := [.cell 2 57]) Tryz.func160 rfl rfl (.cons ⟨rfl, wd57⟩ FitsL.nil) (by decide) 14 rfl ?_
 unfold zDH at h
 refine VE ?_
 refine zO ?_
 obtain ⟨y2, hy2, h⟩ := zA h
 refine VS ?_
 refine YK 1 (zJN hy2) zJB ?_
 refine YF ?_
 refine VE ?_
 refine VC h (fun h => ?_) (fun h => ?_)
 ·refine VS ?_
  refine YR 1 ?_
  refine L0 rfl rfl (qJ (cs := [Ti 1, Ti y2, Ti 0, Ti 1]) pl57 bt57 rfl rfl kk) ?_
  refine YF ?_
  cases h
  exact zM VT
 ·refine zK ?_
  show V _ _ _ _
  refine zO ?_
  obtain ⟨y4, hy4, h⟩ := zA h
  refine VS ?_
  refine YK 1 (zGb hy4) zGM ?_
  refine YF ?_
  refine VC h (fun h => ?_) (fun h => ?_)
  ·refine VS ?_
   refine L0 rfl rfl (qJ (cs := [Ti 1, Ti 0, Ti 0, Ti 1]) pl57 bt57 rfl rfl kk) ?_
   refine YF ?_
   cases h
   exact zM VT
  ·refine zK ?_
   show V _ _ _ _
   refine VS ?_
   refine L0 rfl rfl (qJ (cs := [Ti 0, Ti (-1), Ti 1, Ti 0]) pl57 bt57 rfl rfl kk) ?_
   refine YF ?_
   cases h
   exact zM VT
theorem zEh : CfW Tryz.prog 107 := cfW Tryz.func107
theorem zEt {f1 : (Int × Int × Int)} {r : (((Int × Int × Int)) × ((Int × Int × Int × Int)))} (h : jY f1 = some r) : qE Tryz.prog 107 [.ag [Ti f1.1, Ti f1.2.1, Ti f1.2.2]] (.tc (.ag [Ti r.1.1, Ti r.1.2.1, Ti r.1.2.2]) (.tc (.ag [Ti r.2.1, Ti r.2.2.1, Ti r.2.2.2.1, Ti r.2.2.2.2]) .tn)) [] := by
 refine qI (rs := [.w 2 3, .w 3 4]) (vs := [.cell 2 27, .cell 3 57]) Tryz.func107 rfl rfl (.cons ⟨rfl, wd27⟩ (.cons ⟨rfl, wd57⟩ FitsL.nil)) (by decide) 20 rfl ?_
 unfold jY at h
 refine VE ?_
 refine VS ?_
 refine L0 rfl rfl (qJ (cs := [Ti 1, Ti 0, Ti 0, Ti 1]) pl57 bt57 rfl rfl kk) ?_
 refine YF ?_
 refine zO ?_
 obtain ⟨o10, hLo10, h⟩ := zA h
 refine zAz (mb 20 30) [32, 24, 16, 8] (s1 := ⟨.bot :: .pt 8 0 :: .pt 16 0 :: .pt 24 0 :: .pt 32 0 :: bt 15 [], [(32, .box [Ti o10.1, Ti o10.2.1, Ti o10.2.2.1, Ti o10.2.2.2.1]), (24, .box [Ti 0, Ti 0, Ti 0, Ti 0]), (16, .box [Ti 0, Ti 0, Ti 0]), (8, .box [Ti o10.2.2.2.2.1, Ti o10.2.2.2.2.2.1, Ti o10.2.2.2.2.2.2])]⟩) ?_ ?_
 ·clear h
  refine zL (qT (fun n s => ∃ (f2 : Int) (f3 : Int) (f4 : Int) (f5 : Int) (f6 : Int) (f7 : Int) (f8 : Int), s.keep (mb 20 30) [32, 24, 16, 8] = (⟨.bot :: .pt 8 0 :: .pt 16 0 :: .pt 24 0 :: .pt 32 0 :: bt 15 [], [(32, .box [Ti f2, Ti f3, Ti f4, Ti f5]), (24, .box [Ti 0, Ti 0, Ti 0, Ti 0]), (16, .box [Ti 0, Ti 0, Ti 0]), (8, .box [Ti f6, Ti f7, Ti f8])]⟩ : St) ∧ zB0 n f2 f3 f4 f5 f6 f7 f8 = some o10) FU ⟨_, _, _, _, _, _, _,  kk, hLo10⟩ ?_)
  clear hLo10
  rintro n s ⟨f2, f3, f4, f5, f6, f7, f8, hs, h⟩
  refine qQ _ _ hs ?_
  clear hs
  cases n with
  | zero => cases h
  | succ n =>
   rw [zB0] at h
   refine zO ?_
   obtain ⟨y11, hy11, h⟩ := zA h
   refine VS ?_
   refine YK 1 (zGb hy11) zGM ?_
   refine YF ?_
   refine VC h (fun h => ?_) (fun h => ?_)
   ·refine zK ?_
    show V _ _ _ _
    refine zL ?_
    obtain ⟨y13, hy13, h⟩ := zA h
    refine VS ?_
    refine YK 1 (s_spec_reMove hy13) zKQ ?_
    refine YF ?_
    obtain ⟨y14, hy14, h⟩ := zA h
    obtain ⟨y15, hy15, h⟩ := zA h
    refine VDR [0, 0, 3, 0, 0, 31, 63, 127] 6 (cdm 6 [648, 642, 645, 554, 170, 341]) ?_
    refine EK 2 (zFE hy14) zEo ?_
    refine EK 2 (zCT hy15) zCB ?_
    refine EF 0 ?_
    exact ⟨n, Nat.lt_succ_self n, _, _, _, _, _, _, _,  kk, h⟩
   ·refine qO ?_
    obtain rfl := zB h
    show St.keep _ _ _ = _
    kernel_rfl
 show V _ _ _ _
 refine VDS [0, 0, 1, 7] 3 [[.z, .b, .z], [.b, .z, .r 16], [.a, .b, .z]] ?_
 refine EF 3 ?_
 cases h
 exact zM VT
theorem zJS : CfW Tryz.prog 45 := cfW Tryz.func45
theorem zJi {f1 : (Int × Int × Int)} {r : (Int × Int × Int)} (h : zCF f1 = some r) : qE Tryz.prog 45 [.ag [Ti f1.1, Ti f1.2.1, Ti f1.2.2]] (.ag [Ti r.1, Ti r.2.1, Ti r.2.2]) [] := by
 refine qI (rs := [.w 2 3]) (vs := [.cell 2 27]) Tryz.func45 rfl rfl (.cons ⟨rfl, wd27⟩ FitsL.nil) (by decide) 11 rfl ?_
 unfold zCF at h
 refine VE ?_
 obtain ⟨y2, hy2, h⟩ := zA h
 refine VS ?_
 refine YK 1 (zEt hy2) zEh ?_
 refine YF ?_
 refine VE ?_
 cases h
 exact zM VT
theorem zJW : CfW Tryz.prog 180 := cfW Tryz.func180
theorem zJm {g1 : (Int × Int × Int)} {a2 : Int} {r : (Int × Int)} (h : zD2 g1 a2 = some r) : qE Tryz.prog 180 [.ag [Ti g1.1, Ti g1.2.1, Ti g1.2.2], I a2] (.tc (I r.1) (.tc (I r.2) .tn)) [] := by
 refine CtW [4, 5] Tryz.func180 rfl rfl 45 ?_
 unfold zD2 at h
 refine VE ?_
 refine zO ?_
 refine VE ?_
 obtain ⟨qo5, hLo5, hko5⟩ := zA h
 refine zE6 (q := qo5) (S := fun o5 => ⟨bt 45 [], []⟩) (mb 45 0) [] ?_ ?_
 ·refine zL (qT (fun n s => ∃ (k3 : Int), s.keep (mb 45 70) [16] = (⟨.bot :: I a2 :: .pt 16 0 :: bt 3 (I k3 :: bt 38 []), [(16, .box [Ti g1.1, Ti g1.2.1, Ti g1.2.2])]⟩ : St) ∧ zBn a2 g1 n k3 = some qo5) FU ⟨_,  kk, hLo5⟩ ?_)
  clear hLo5
  rintro n s ⟨k3, hs, h⟩
  refine qQ _ _ hs ?_
  clear hs
  cases n with
  | zero => cases h
  | succ n =>
   rw [zBn] at h
   refine zO ?_
   refine VE ?_
   refine VC h (fun h => ?_) (fun h => ?_)
   ·refine zK ?_
    show V _ _ _ _
    refine zO ?_
    refine zL ?_
    refine VE ?_
    obtain ⟨qo9, hLo9, hko9⟩ := zA h
    refine zE6 (q := qo9) (S := fun o9 => ⟨.bot :: I a2 :: .pt 16 0 :: bt 3 (I k3 :: bt 38 []), [(16, .box [Ti g1.1, Ti g1.2.1, Ti g1.2.2])]⟩) (mb 45 70) [16] ?_ ?_
    ·refine zL (qT (fun n s => ∃ (x7 : Int), s.keep (mb 45 198) [16] = (⟨.bot :: I a2 :: .pt 16 0 :: bt 3 (I k3 :: I x7 :: bt 37 []), [(16, .box [Ti g1.1, Ti g1.2.1, Ti g1.2.2])]⟩ : St) ∧ zBm a2 g1 k3 n x7 = some qo9) FU ⟨_,  kk, hLo9⟩ ?_)
     clear hLo9
     rintro n s ⟨x7, hs, h⟩
     refine qQ _ _ hs ?_
     clear hs
     cases n with
     | zero => cases h
     | succ n =>
      rw [zBm] at h
      refine zO ?_
      refine VE ?_
      refine VC h (fun h => ?_) (fun h => ?_)
      ·refine zK ?_
       show V _ _ _ _
       refine zO ?_
       refine zL ?_
       refine VE ?_
       obtain ⟨qo13, hLo13, hko13⟩ := zA h
       refine zE6 (q := qo13) (S := fun o13 => ⟨.bot :: I a2 :: .pt 16 0 :: bt 3 (I k3 :: I x7 :: bt 37 []), [(16, .box [Ti g1.1, Ti g1.2.1, Ti g1.2.2])]⟩) (mb 45 198) [16] ?_ ?_
       ·refine zL (qT (fun n s => ∃ (y11 : Int), s.keep (mb 45 454) [16] = (⟨.bot :: I a2 :: .pt 16 0 :: bt 3 (I k3 :: I x7 :: I y11 :: bt 36 []), [(16, .box [Ti g1.1, Ti g1.2.1, Ti g1.2.2])]⟩ : St) ∧ zB1 a2 g1 k3 x7 n y11 = some qo13) FU ⟨_,  kk, hLo13⟩ ?_)
        clear hLo13
        rintro n s ⟨y11, hs, h⟩
        refine qQ _ _ hs ?_
        clear hs
        cases n with
        | zero => cases h
        | succ n =>
         rw [zB1] at h
         refine zO ?_
         refine VE ?_
         refine VC h (fun h => ?_) (fun h => ?_)
         ·refine zK ?_
          show V _ _ _ _
          refine zO ?_
          refine zL ?_
          obtain ⟨y15, hy15, h⟩ := zA h
          obtain ⟨b18, hb18, h⟩ := zA h
          obtain ⟨b22, hb22, h⟩ := zA h
          refine zG (mb 45 4398046511558) [16] (s1 := ⟨.bot :: I a2 :: .pt 16 0 :: bt 3 (I k3 :: I x7 :: I y11 :: bt 33 (Bo b22 :: .bot :: .bot :: [])), [(16, .box [Ti g1.1, Ti g1.2.1, Ti g1.2.2])]⟩) ?_ ?_
          ·refine YK 2 (zEk hy15) zEZ ?_
           refine YR 3 ?_
           refine zU (eqI y15 k3) (fun hc16 => ?_) (fun hc16 => ?_)
           ·have hb18 := zT hb18 hc16
            obtain ⟨y17, hy17, hb18⟩ := zA hb18
            have hb18 := zB hb18
            refine YQ hc16 ?_
            refine YK 2 (zEQ hy17) zDz ?_
            refine YR 3 ?_
            refine zU b18 (fun hc19 => ?_) (fun hc19 => ?_)
            ·have hb22 := zT hb22 hc19
             obtain ⟨y20, hy20, hb22⟩ := zA hb22
             obtain ⟨y21, hy21, hb22⟩ := zA hb22
             have hb22 := zB hb22
             refine YQ hc19 ?_ (by rw [← hb18]; (try rw [← hb22]); (try rw [hc16]); kernel_rfl)
             refine YK 3 (zER hy20) zED ?_
             refine YK 1 (zEQ hy21) zDz ?_
             exact YE (by rw [← hb22]; (try rw [hc16]); (try rw [hc19]); kernel_rfl)
            ·have hb22 := zB (zJ hb22 hc19)
             refine YQ hc19 ?_ (by rw [← hb18]; (try rw [← hb22]); (try rw [hc16]); kernel_rfl)
             exact YE (by rw [← hb22]; (try rw [hc16]); (try rw [hc19]); kernel_rfl)
           ·have hb18 := zB (zJ hb18 hc16)
            refine YQ hc16 ?_
            refine YR 6 ?_
            subst hb18
            have hc19 : false = false := rfl
            have hb22 := zB (zJ hb22 hc19)
            exact YE (by rw [← hb22]; (try rw [hc16]); kernel_rfl)
          refine VC h (fun h => ?_) (fun h => ?_)
          ·refine VE ?_
           refine zM ?_
           obtain rfl := zB h
           have h := hko13
           obtain rfl := zB h
           have h := hko9
           obtain rfl := zB h
           have h := hko5
           obtain rfl := zB h
           exact VT
          ·refine zK ?_
           show V _ _ _ _
           obtain ⟨y24, hy24, h⟩ := zR h
           refine qS (mb 45 454) [16] (s1 := ⟨.bot :: I a2 :: .pt 16 0 :: bt 3 (I k3 :: I x7 :: I y24 :: bt 36 []), [(16, .box [Ti g1.1, Ti g1.2.1, Ti g1.2.2])]⟩) ?_ ?_
           ·refine XR 3 ?_
            refine zH ?_
            subst hy24
            kernel_rfl
           exact ⟨n, Nat.lt_succ_self n, _,  kk, h⟩
         ·refine qO ?_
          obtain rfl := zB h
          exact ⟨_, rfl, kk⟩
       rintro o13 rfl
       have h := hko13
       clear hko13
       show V _ _ _ _
       obtain ⟨x25, hx25, h⟩ := zR h
       refine qS (mb 45 198) [16] (s1 := ⟨.bot :: I a2 :: .pt 16 0 :: bt 3 (I k3 :: I x25 :: bt 37 []), [(16, .box [Ti g1.1, Ti g1.2.1, Ti g1.2.2])]⟩) ?_ ?_
       ·refine XR 3 ?_
        refine zH ?_
        subst hx25
        kernel_rfl
       exact ⟨n, Nat.lt_succ_self n, _,  kk, h⟩
      ·refine qO ?_
       obtain rfl := zB h
       exact ⟨_, rfl, kk⟩
    rintro o9 rfl
    have h := hko9
    clear hko9
    show V _ _ _ _
    obtain ⟨k26, hk26, h⟩ := zR h
    refine qS (mb 45 70) [16] (s1 := ⟨.bot :: I a2 :: .pt 16 0 :: bt 3 (I k26 :: bt 38 []), [(16, .box [Ti g1.1, Ti g1.2.1, Ti g1.2.2])]⟩) ?_ ?_
    ·refine XR 3 ?_
     refine zH ?_
     subst hk26
     kernel_rfl
    exact ⟨n, Nat.lt_succ_self n, _,  kk, h⟩
   ·refine qO ?_
    obtain rfl := zB h
    exact ⟨_, rfl, kk⟩
 rintro o5 rfl
 have h := hko5
 clear hko5
 show V _ _ _ _
 refine VE ?_
 cases h
 exact zM VT
theorem zKR : CfW Tryz.prog 229 := cfW Tryz.func229
theorem s_spec_l1Sign {vn1 : Int} {r : Int} (h : zFh vn1 = some r) : qE Tryz.prog 229 [I vn1] (I r) [] := by
 refine CtW [2] Tryz.func229 rfl rfl 9 ?_
 unfold zFh at h
 refine VE ?_
 refine zO ?_
 refine zL ?_
 refine VE ?_
 refine VC h (fun h => ?_) (fun h => ?_)
 ·refine VE ?_
  cases h
  exact zM VT
 ·refine VE ?_
  refine VC h (fun h => ?_) (fun h => ?_)
  ·refine VE ?_
   cases h
   exact zM VT
  ·refine zK ?_
   show V _ _ _ _
   refine VE ?_
   cases h
   exact zM VT
end Go.Proofs.YtnheekadeflecaaGreat
