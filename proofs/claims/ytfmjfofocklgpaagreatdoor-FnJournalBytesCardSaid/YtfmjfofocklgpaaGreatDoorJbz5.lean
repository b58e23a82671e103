/-
  Rules of walks, plain functions and their laws, part 5.
  Conditions: none.
-/
import Derived.Test.YtfmjfofocklgpaaGreatDoorRows
import Derived.Test.YtfmjfofocklgpaaGreatDoorJbz4
set_option linter.unusedSimpArgs false
set_option linter.unusedVariables false
namespace Go.Proofs.YtfmjfofocklgpaaGreatDoor
open Go.RowKit
set_option maxRecDepth 100000
set_option maxHeartbeats 400000
def c5 (x : Int) : List Tr := [.v (.int .u8 x)]
def c3 (x : Int) : List Tr := [Ti x]
def c9 (x : ByteArray) : List Tr := [.v (.string x)]
def c38 (x : (Int × Int × Int)) : List Tr := [Ti x.1, Ti x.2.1, Ti x.2.2]
def c73 (x : (ByteArray × ((Int × Int × Int)))) : List Tr := [.v (.string x.1), Ti x.2.1, Ti x.2.2.1, Ti x.2.2.2]
def c40 (x : (Int × ByteArray × ByteArray × ByteArray × ((Int × Int × Int)))) : List Tr := [Ti x.1, .v (.string x.2.1), .v (.string x.2.2.1), .v (.string x.2.2.2.1), Ti x.2.2.2.2.1, Ti x.2.2.2.2.2.1, Ti x.2.2.2.2.2.2]
def zv3 : Value := .int .i64 0
def zv5 : Value := .int .u8 0
def zv9 : Value := .string ByteArray.empty
def zv38 : Value := .agg #[.int .i64 0, .int .i64 0, .int .i64 0]
theorem zf38 : (Tryz.prog.info? 38).bind (·.zero) = some zv38 := by kernel_rfl
def zv40 : Value := .agg #[.int .i64 0, .string ByteArray.empty, .string ByteArray.empty, .string ByteArray.empty, .int .i64 0, .int .i64 0, .int .i64 0]
def zv73 : Value := .agg #[.string ByteArray.empty, .int .i64 0, .int .i64 0, .int .i64 0]
theorem iz3 : (Tryz.prog.info? 3).map (fun i => (i.zero, i.size)) = some (some zv3, 1) := by kernel_rfl
theorem iz5 : (Tryz.prog.info? 5).map (fun i => (i.zero, i.size)) = some (some zv5, 1) := by kernel_rfl
theorem iz9 : (Tryz.prog.info? 9).map (fun i => (i.zero, i.size)) = some (some zv9, 1) := by kernel_rfl
theorem iz38 : (Tryz.prog.info? 38).map (fun i => (i.zero, i.size)) = some (some zv38, 3) := by kernel_rfl
theorem iz40 : (Tryz.prog.info? 40).map (fun i => (i.zero, i.size)) = some (some zv40, 7) := by kernel_rfl
theorem iz73 : (Tryz.prog.info? 73).map (fun i => (i.zero, i.size)) = some (some zv73, 4) := by kernel_rfl
theorem izb3 : (Tryz.prog.info? 3).map (fun i => (i.zero, i.size, i.bytes)) = some (some zv3, 1, 8) := by kernel_rfl
theorem izb9 : (Tryz.prog.info? 9).map (fun i => (i.zero, i.size, i.bytes)) = some (some zv9, 1, 16) := by kernel_rfl
theorem izb38 : (Tryz.prog.info? 38).map (fun i => (i.zero, i.size, i.bytes)) = some (some zv38, 3, 24) := by kernel_rfl
theorem izb40 : (Tryz.prog.info? 40).map (fun i => (i.zero, i.size, i.bytes)) = some (some zv40, 7, 80) := by kernel_rfl
theorem zIc : (Tryz.prog.info? 73).map (fun i => (i.zero, i.size, i.bytes)) = some (some zv73, 4, 40) := by kernel_rfl
theorem sc3 : zIk Tryz.prog 3 := ⟨_, Tryz.underlying3, rfl⟩
theorem sc5 : zIk Tryz.prog 5 := ⟨_, Tryz.underlying5, rfl⟩
theorem sc9 : zIk Tryz.prog 9 := ⟨_, Tryz.underlying9, rfl⟩
theorem sz3 : (Tryz.prog.info? 3).map (·.size) = some 1 := by kernel_rfl
theorem sz5 : (Tryz.prog.info? 5).map (·.size) = some 1 := by kernel_rfl
theorem sz9 : (Tryz.prog.info? 9).map (·.size) = some 1 := by kernel_rfl
theorem sz38 : (Tryz.prog.info? 38).map (·.size) = some 3 := by kernel_rfl
theorem sz40 : (Tryz.prog.info? 40).map (·.size) = some 7 := by kernel_rfl
theorem sz73 : (Tryz.prog.info? 73).map (·.size) = some 4 := by kernel_rfl
theorem wd38 : wide Tryz.prog 38 3 := ⟨⟨_, Tryz.underlying38, rfl⟩, by kernel_rfl⟩
theorem wd40 : wide Tryz.prog 40 7 := ⟨⟨_, Tryz.underlying40, rfl⟩, by kernel_rfl⟩
theorem wd73 : wide Tryz.prog 73 4 := ⟨⟨_, Tryz.underlying73, rfl⟩, by kernel_rfl⟩
theorem zGJ : wide Tryz.prog 109 4 := ⟨⟨_, Tryz.underlying109, rfl⟩, by kernel_rfl⟩
theorem wd178 : wide Tryz.prog 178 12 := ⟨⟨_, Tryz.underlying178, rfl⟩, by kernel_rfl⟩
def pl38 : Nat → Option (Nat × Nat) := fun i => (#[(0, 1), (1, 1), (2, 1)] : Array (Nat × Nat))[i]?
theorem bt38 : ∀ ps, Tryz.prog.built 38 ps = Instr.fill pl38 #[.int .i64 0, .int .i64 0, .int .i64 0] ps := fun ps => by kernel_rfl
def pl40 : Nat → Option (Nat × Nat) := fun i => (#[(0, 1), (1, 1), (2, 1), (3, 1), (4, 3)] : Array (Nat × Nat))[i]?
theorem bt40 : ∀ ps, Tryz.prog.built 40 ps = Instr.fill pl40 #[.int .i64 0, .string ByteArray.empty, .string ByteArray.empty, .string ByteArray.empty, .int .i64 0, .int .i64 0, .int .i64 0] ps := fun ps => by kernel_rfl
def pl73 : Nat → Option (Nat × Nat) := fun i => (#[(0, 1), (1, 3)] : Array (Nat × Nat))[i]?
theorem bt73 : ∀ ps, Tryz.prog.built 73 ps = Instr.fill pl73 #[.string ByteArray.empty, .int .i64 0, .int .i64 0, .int .i64 0] ps := fun ps => by kernel_rfl
def pl84 : Nat → Option (Nat × Nat) := fun i => (#[(0, 1), (1, 1), (2, 1)] : Array (Nat × Nat))[i]?
theorem bt84 : ∀ ps, Tryz.prog.built 84 ps = Instr.fill pl84 #[.slice none 0 0, .int .i64 0, .int .u64 0] ps := fun ps => by kernel_rfl
def zE7 : Nat → Option (Nat × Nat) := fun i => (#[(0, 1), (1, 1), (2, 1), (3, 1)] : Array (Nat × Nat))[i]?
theorem zEo : ∀ ps, Tryz.prog.built 109 ps = Instr.fill zE7 #[.int .i64 0, .int .i64 0, .int .i64 0, .int .i64 0] ps := fun ps => by kernel_rfl
def pl178 : Nat → Option (Nat × Nat) := fun i => (#[(0, 1), (1, 1), (2, 1), (3, 1), (4, 4), (8, 4)] : Array (Nat × Nat))[i]?
theorem bt178 : ∀ ps, Tryz.prog.built 178 ps = Instr.fill pl178 #[.int .i64 0, .int .i64 0, .int .i64 0, .int .i64 0, .int .i64 0, .int .i64 0, .int .i64 0, .int .i64 0, .int .i64 0, .int .i64 0, .int .i64 0, .int .i64 0] ps := fun ps => by kernel_rfl
theorem eqg38 : EqAg3 Tryz.prog .eql 38 := by
 intro a0 a1 a2 b0 b1 b2 x y w
 have hg : (eqGuard .eql 38 x y (.agg #[.int .i64 a0, .int .i64 a1, .int .i64 a2]) (.agg #[.int .i64 b0, .int .i64 b1, .int .i64 b2])).run Tryz.prog w = .ok () w := by simp [eqGuard, (by kernel_rfl : Tryz.prog.eqGuardType Tryz.prog.depth 38 = false)]
 have hf : (Tryz.prog.fieldsOf 38).toList = (match Tryz.prog.underlying 38 with | some (.struct fs) => fs.toList | _ => []) := by kernel_rfl
 refine ⟨hg, ?_⟩
 rw [run_eql_struct, run_equalIn_agg (d := 9999) (ht := by kernel_rfl) (hp := by kernel_rfl), hf, Tryz.underlying38]
 by_cases h0 : a0 = b0 <;> by_cases h1 : a1 = b1 <;> by_cases h2 : a2 = b2 <;> simp [Op.eqFields, part, go_sem, h0, h1, h2]
theorem neg38 : EqAg3 Tryz.prog .neq 38 := by
 intro a0 a1 a2 b0 b1 b2 x y w
 have hg : (eqGuard .neq 38 x y (.agg #[.int .i64 a0, .int .i64 a1, .int .i64 a2]) (.agg #[.int .i64 b0, .int .i64 b1, .int .i64 b2])).run Tryz.prog w = .ok () w := by simp [eqGuard, (by kernel_rfl : Tryz.prog.eqGuardType Tryz.prog.depth 38 = false)]
 have hf : (Tryz.prog.fieldsOf 38).toList = (match Tryz.prog.underlying 38 with | some (.struct fs) => fs.toList | _ => []) := by kernel_rfl
 refine ⟨hg, ?_⟩
 rw [run_neq_struct, run_equalIn_agg (d := 9999) (ht := by kernel_rfl) (hp := by kernel_rfl), hf, Tryz.underlying38]
 by_cases h0 : a0 = b0 <;> by_cases h1 : a1 = b1 <;> by_cases h2 : a2 = b2 <;> simp [Op.eqFields, part, go_sem, h0, h1, h2]
theorem ngS73 : EqAgS Tryz.prog .neq 73 := by
 intro n m a1 a2 a3 b1 b2 b3 x y w
 have hg : (eqGuard .neq 73 x y (.agg #[.string n, .int .i64 a1, .int .i64 a2, .int .i64 a3]) (.agg #[.string m, .int .i64 b1, .int .i64 b2, .int .i64 b3])).run Tryz.prog w = .ok () w := by simp [eqGuard, (by kernel_rfl : Tryz.prog.eqGuardType Tryz.prog.depth 73 = false)]
 have hf : (Tryz.prog.fieldsOf 73).toList = (match Tryz.prog.underlying 73 with | some (.struct fs) => fs.toList | _ => []) := by kernel_rfl
 have hf2 : (Tryz.prog.fieldsOf 38).toList = (match Tryz.prog.underlying 38 with | some (.struct fs) => fs.toList | _ => []) := by kernel_rfl
 refine ⟨hg, ?_⟩
 rw [run_neq_struct, run_equalIn_agg (d := 9999) (ht := by kernel_rfl) (hp := by kernel_rfl), hf, Tryz.underlying73]
 by_cases hn : n.toList = m.toList <;> by_cases h1 : a1 = b1 <;> by_cases h2 : a2 = b2 <;> by_cases h3 : a3 = b3 <;> simp [Op.eqFields, part, go_sem, hn, h1, h2, h3]
theorem cx_242 : ∀ args w, (callFunc 242 args).run Tryz.prog w = ((Extern.BytealgIndexByte.indexByte args).run Tryz.prog w).andThen fun v w' => .ok (.value v) w' := fun args w => run_callFunc_extern Tryz.func242 kk kk kk kk args w
def zHB (x : ByteArray) : Value := .string x
def zKb (x : Int) : Value := .int .i64 x
def kv176 (p : ByteArray × Int) : Value × Value := (zHB p.1, zKb p.2)
theorem kt176 : KeyT Tryz.prog 9 zHB := by
 refine keyT_now (.string) Tryz.underlying9 (fun b a w => ?_) (fun a b => ?_) (fun a => ?_)
 ·exact MapKept.run_checkKey Tryz.underlying9 (by simp [MapKept.IsKey, zHB]) b 9999
 ·simp [zHB, Instr.sameNow, ba_beq]
 ·simp [zHB, Instr.sameBits, ba_beq]
theorem mo176 : MpOk Tryz.prog 176 zHB zKb 0 := ⟨9, 3, Tryz.underlying176, kt176, by kernel_rfl, fun _ => rfl⟩
theorem cf_laws_big : CfW Tryz.prog 29 := cfW Tryz.func29
theorem s_laws_big {code1 : List Int} {more2 : List Int} {r : Bool} (h : zDH code1 more2 = some r) : zV Tryz.prog 29 [.c (.sl (code1.map c5)), .c (.sl (more2.map c5))] (Bo r) [] := by
 refine CtW [4] Tryz.func29 rfl rfl 16 ?_
 unfold zDH at h
 refine VE ?_
 obtain ⟨t4, ht4, h⟩ := zA h
 have ht4 := zB ht4
 refine zO (mb 16 16) [] (s1 := ⟨bt 4 (Bo t4 :: bt 11 []), []⟩) ?_ ?_
 ·refine YR 1 ?_
  refine L0 rfl rfl (qQ (c := c5) (xs := code1) Tryz.underlying48 rfl kk) ?_
  refine YR 2 ?_
  refine zE (ltI 1048576 ((code1.length : Int))) (fun hc3 => ?_) (fun hc3 => ?_)
  ·refine YQ hc3 ?_
   exact YE (by rw [← ht4]; (try rw [hc3]); kernel_rfl)
  ·refine YQ hc3 ?_
   refine YR 1 ?_
   refine YT (qB rfl (qQ (c := c5) (xs := more2) Tryz.underlying48 rfl kk)) ?_
   refine YR 1 ?_
   refine YT (qB rfl (qQ (c := c5) (xs := code1) Tryz.underlying48 rfl kk)) ?_
   exact YE (by rw [← ht4]; (try rw [hc3]); kernel_rfl)
 cases h
 exact zF VT
theorem zFj : CfW Tryz.prog 147 := cfW Tryz.func147
theorem zFn {c1 : ((List Int) × Int × Int)} {r : (Int × (((List Int) × Int × Int)))} (h : zBi c1 = some r) : zDq Tryz.prog 147 [.pt 80000 0] [(80000, .box [.sl (c1.1.map c5), Ti c1.2.1, .v (.int .u64 c1.2.2)])] (I r.1) [] [(80000, .box [.sl (r.2.1.map c5), Ti r.2.2.1, .v (.int .u64 r.2.2.2)])] := by
 refine qT (rs := [.t 2]) (vs := [.tmp 2]) Tryz.func147 rfl rfl (.cons rfl FitsL.nil) (by decide) 62 rfl rfl fun σ => ?_
 unfold zBi at h
 show V _ _ ⟨.pt 80000 0 :: bt 61 [], [(80000, .pbox (σ 80000) [.sl (c1.1.map c5), Ti c1.2.1, .v (.int .u64 c1.2.2)])]⟩ _
 refine VE ?_
 refine VE ?_
 obtain ⟨j2, hj2, h⟩ := zA h
 refine zCw (mb 62 9) [80000] (s1 := ⟨.pt 80000 0 :: .bot :: .bot :: I j2 :: bt 58 [], [(80000, .pbox (σ 80000) [.sl (c1.1.map c5), Ti c1.2.1, .v (.int .u64 c1.2.2)])]⟩) ?_ ?_
 ·clear h
  have h := hj2
  clear hj2
  refine VDS [0, 1, 3, 7, 0, 16, 48, 112, 240, 511] 10 (cdm 10 [174592, 174593, 174597, 174613, 170, 426, 1450, 5546, 21930, 87381]) ?_
  refine ER 1 ?_
  refine E0 1 rfl rfl (zIF (.pt 80000 0) rfl kk (by intro hh; cases hh)) ?_
  refine ER 3 ?_
  refine E0 5 rfl rfl (zIF (.pt 80000 0) rfl kk (by intro hh; cases hh)) ?_
  refine ER 2 ?_
  refine E0 8 rfl rfl (qQ (c := c5) (xs := c1.1) Tryz.underlying48 rfl kk) ?_
  refine EF 1 ?_
  refine VC h (fun h => ?_) (fun h => ?_)
  ·obtain ⟨e4, he4, h⟩ := zA h
   obtain ⟨b5, hb5, h⟩ := zT h
   refine zMP [0, 1, 3, 7, 0, 16, 48, 112, 255, 511, 1023, 2047] 12 (cdm 12 [43520, 43521, 43525, 43541, 170, 426, 1450, 5546, 21845, 87381, 349525, 1398101]) (mb 62 9) [80000] (s1 := ⟨.pt 80000 0 :: .bot :: .bot :: I b5 :: bt 58 [], [(80000, .pbox (σ 80000) [.sl (c1.1.map c5), Ti c1.2.1, .v (.int .u64 c1.2.2)])]⟩) kk kk ?_ ?_
   ·refine DR 1 ?_
    refine DE_0 1 (.pt 80000 0) kk rfl rfl rfl (qS rfl) kk (zIF (.pt 80000 0) rfl kk (by intro hh; cases hh)) 15 rfl ?_
    refine DR 3 ?_
    refine DE_0 5 (.pt 80000 0) kk rfl rfl rfl (qS rfl) kk (zIF (.pt 80000 0) rfl kk (by intro hh; cases hh)) 19 rfl ?_
    refine DR 2 ?_
    refine DE_0 8 (.pe [.v (.int .u8 e4)]) kk rfl rfl rfl (qS rfl) kk (zBG (c := c5) (xs := c1.1) (v := e4) (n := c1.2.1) Tryz.underlying48 sz5 rfl kk kk he4) 22 rfl ?_
    refine DR 1 ?_
    refine DE_0 10 (I (IntKind.i64.wrap e4)) kk rfl rfl rfl (qS rfl) kk (zFD (k2 := .u8) (a := e4) Tryz.underlying5 Tryz.underlying3 rfl kk) 24 rfl ?_
    refine DA 1 ?_
    refine zM ?_
    subst hb5
    kernel_rfl
   obtain rfl := zB h
   show St.keep _ _ _ = _
   kernel_rfl
  ·refine zH ?_
   obtain rfl := zB h
   show St.keep _ _ _ = _
   kernel_rfl
 obtain ⟨f6, hf6, h⟩ := zT h
 refine zO (mb 62 9) [80000] (s1 := ⟨.pt 80000 0 :: .bot :: .bot :: I j2 :: bt 58 [], [(80000, .pbox (σ 80000) [.sl (c1.1.map c5), Ti f6, .v (.int .u64 c1.2.2)])]⟩) ?_ ?_
 ·refine XR 1 ?_
  refine L0 rfl rfl (zIF (.pt 80000 0) rfl kk (by intro hh; cases hh)) ?_
  refine XR 3 ?_
  refine L0 rfl rfl (zIF (.pt 80000 0) rfl kk (by intro hh; cases hh)) ?_
  refine XR 2 ?_
  refine zM ?_
  subst hf6
  kernel_rfl
 obtain ⟨f7, hf7, h⟩ := zT h
 refine zO (mb 62 9) [80000] (s1 := ⟨.pt 80000 0 :: .bot :: .bot :: I j2 :: bt 58 [], [(80000, .pbox (σ 80000) [.sl (c1.1.map c5), Ti f6, .v (.int .u64 f7)])]⟩) ?_ ?_
 ·refine XR 2 ?_
  refine L0 rfl rfl (zIF (.pt 80000 0) rfl kk (by intro hh; cases hh)) ?_
  refine XR 2 ?_
  refine L0 rfl rfl (Y0_mul (k := .u64) (a := c1.2.2) (b := 6364136223846793005) rfl kk kk) ?_
  refine XR 1 ?_
  refine L0 rfl rfl (zFD (k2 := .i64) (a := j2) Tryz.underlying3 Tryz.underlying82 rfl kk) ?_
  refine L0 rfl rfl (Y0_add (k := .u64) (a := IntKind.u64.wrap (c1.2.2 * 6364136223846793005)) (b := IntKind.u64.wrap j2) rfl kk kk) ?_
  refine L0 rfl rfl (Y0_add (k := .u64) (a := IntKind.u64.wrap ((IntKind.u64.wrap (c1.2.2 * 6364136223846793005)) + (IntKind.u64.wrap j2))) (b := 1442695040888963407) rfl kk kk) ?_
  refine L0 rfl rfl (zIF (.pt 80000 0) rfl kk (by intro hh; cases hh)) ?_
  refine XR 2 ?_
  refine zM ?_
  subst hf7
  kernel_rfl
 refine zK ?_
 refine VDS [0, 1, 3, 7, 0, 16, 48, 112, 240, 511] 10 (cdm 10 [174592, 174593, 174597, 174613, 170, 426, 1450, 5546, 21930, 87381]) ?_
 refine ER 1 ?_
 refine E0 1 rfl rfl (zIF (.pt 80000 0) rfl kk (by intro hh; cases hh)) ?_
 refine ER 3 ?_
 refine E0 5 rfl rfl (zIF (.pt 80000 0) rfl kk (by intro hh; cases hh)) ?_
 refine ER 2 ?_
 refine E0 8 rfl rfl (qQ (c := c5) (xs := c1.1) Tryz.underlying48 rfl kk) ?_
 refine EF 1 ?_
 refine VC h (fun h => ?_) (fun h => ?_)
 ·refine VE ?_
  cases h
  exact zF VTR
 ·refine zH ?_
  show V _ _ _ _
  obtain ⟨t9, ht9, h⟩ := zT h
  refine zO (mb 62 4) [80000] (s1 := ⟨.bot :: .bot :: I t9 :: bt 59 [], [(80000, .pbox (σ 80000) [.sl (c1.1.map c5), Ti f6, .v (.int .u64 f7)])]⟩) ?_ ?_
  ·refine XR 1 ?_
   refine L0 rfl rfl (zIF (.pt 80000 0) rfl kk (by intro hh; cases hh)) ?_
   refine XR 2 ?_
   refine L0 rfl rfl (Y0_shr (k := .u64) (k2 := .u64) (a := f7) (b := 40) rfl kk kk (by decide)) ?_
   refine L0 rfl rfl (Y0_and (k := .u64) (a := shrI .u64 f7 40) (b := 255) rfl kk kk) ?_
   refine L0 rfl rfl (zFD (k2 := .u64) (a := andI .u64 (shrI .u64 f7 40) 255) Tryz.underlying82 Tryz.underlying3 rfl kk) ?_
   refine XR 1 ?_
   refine zM ?_
   subst ht9
   kernel_rfl
  cases h
  exact zF VTR
theorem zG : CfW Tryz.prog 68 := cfW Tryz.func68
theorem zI {c1 : ((List Int) × Int × Int)} {vn2 : Int} {r : (Int × (((List Int) × Int × Int)))} (h : zD c1 vn2 = some r) : zDq Tryz.prog 68 [.pt 80000 0, I vn2] [(80000, .box [.sl (c1.1.map c5), Ti c1.2.1, .v (.int .u64 c1.2.2)])] (I r.1) [] [(80000, .box [.sl (r.2.1.map c5), Ti r.2.2.1, .v (.int .u64 r.2.2.2)])] := by
 refine qT (rs := [.t 4]) (vs := [.tmp 4]) Tryz.func68 rfl rfl (.cons rfl FitsL.nil) (by decide) 20 rfl rfl fun σ => ?_
 unfold zD at h
 show V _ _ ⟨.pt 80000 0 :: I vn2 :: bt 18 [], [(80000, .pbox (σ 80000) [.sl (c1.1.map c5), Ti c1.2.1, .v (.int .u64 c1.2.2)])]⟩ _
 refine VE ?_
 refine zK ?_
 refine VE ?_
 refine VC h (fun h => ?_) (fun h => ?_)
 ·refine VE ?_
  cases h
  exact zF VTR
 ·refine zH ?_
  show V _ _ _ _
  obtain ⟨y4, hy4, h⟩ := zA h
  refine VS ?_
  refine YR 1 ?_
  refine zL rfl (zS [(80000, 80000)] 9 (zFn hy4) zFj rfl rfl kk rfl (zR kk zX) rfl kk rfl rfl rfl) ?_
  refine YF ?_
  refine zK ?_
  refine VE ?_
  refine VC h (fun h => ?_) (fun h => ?_)
  ·obtain ⟨y6, hy6, h⟩ := zA h
   obtain ⟨x7, hx7, h⟩ := zT h
   refine jC (mb 20 34) [80000] (s1 := ⟨.bot :: I vn2 :: bt 3 (I x7 :: bt 14 []), [(80000, .pbox (σ 80000) [.sl (y6.2.1.map c5), Ti y6.2.2.1, .v (.int .u64 y6.2.2.2)])]⟩) ?_ ?_
   ·refine XR 3 ?_
    refine zL rfl (zS [(80000, 80000)] 15 (zFn hy6) zFj rfl rfl kk rfl (zR kk zX) rfl kk rfl rfl rfl) ?_
    refine XR 2 ?_
    refine zM ?_
    subst hx7
    kernel_rfl
   show V _ _ _ _
   obtain ⟨z8, hz8, h⟩ := zA h
   obtain ⟨t9, ht9, h⟩ := zT h
   refine zO (mb 20 16) [80000] (s1 := ⟨bt 4 (I t9 :: bt 15 []), [(80000, .pbox (σ 80000) [.sl (y6.2.1.map c5), Ti y6.2.2.1, .v (.int .u64 y6.2.2.2)])]⟩) ?_ ?_
   ·refine XR 2 ?_
    refine L0 rfl rfl (zEy (k := .i64) (a := x7) (b := vn2) rfl kk kk (zAA hz8)) ?_
    refine XR 1 ?_
    refine zM ?_
    subst ht9
    kernel_rfl
   cases h
   exact zF VTR
  ·refine zH ?_
   show V _ _ _ _
   obtain ⟨z10, hz10, h⟩ := zA h
   obtain ⟨t11, ht11, h⟩ := zT h
   refine zO (mb 20 16) [80000] (s1 := ⟨bt 4 (I t11 :: bt 15 []), [(80000, .pbox (σ 80000) [.sl (y4.2.1.map c5), Ti y4.2.2.1, .v (.int .u64 y4.2.2.2)])]⟩) ?_ ?_
   ·refine XR 2 ?_
    refine L0 rfl rfl (zEy (k := .i64) (a := y4.1) (b := vn2) rfl kk kk (zAA hz10)) ?_
    refine XR 1 ?_
    refine zM ?_
    subst ht11
    kernel_rfl
   cases h
   exact zF VTR
theorem zBn : CfW Tryz.prog 69 := cfW Tryz.func69
theorem zCG {c1 : ((List Int) × Int × Int)} {vn2 : Int} {r : (Bool × (((List Int) × Int × Int)))} (h : jY c1 vn2 = some r) : zDq Tryz.prog 69 [.pt 80000 0, I vn2] [(80000, .box [.sl (c1.1.map c5), Ti c1.2.1, .v (.int .u64 c1.2.2)])] (Bo r.1) [] [(80000, .box [.sl (r.2.1.map c5), Ti r.2.2.1, .v (.int .u64 r.2.2.2)])] := by
 refine qT (rs := [.t 4]) (vs := [.tmp 4]) Tryz.func69 rfl rfl (.cons rfl FitsL.nil) (by decide) 9 rfl rfl fun σ => ?_
 unfold jY at h
 show V _ _ ⟨.pt 80000 0 :: I vn2 :: bt 7 [], [(80000, .pbox (σ 80000) [.sl (c1.1.map c5), Ti c1.2.1, .v (.int .u64 c1.2.2)])]⟩ _
 refine VE ?_
 obtain ⟨y3, hy3, h⟩ := zA h
 refine VS ?_
 refine YR 2 ?_
 refine zL rfl (zS [(80000, 80000)] 7 (zI hy3) zG rfl rfl kk rfl (zR kk zX) rfl kk rfl rfl rfl) ?_
 refine YF ?_
 cases h
 exact zF VTR
theorem zBR : CfW Tryz.prog 60 := cfW Tryz.func60
theorem zB2 {c1 : ((List Int) × Int × Int)} {list2 : List Int} {r : (Int × (((List Int) × Int × Int)))} (h : jJ c1 list2 = some r) : zDq Tryz.prog 60 [.pt 80000 0, .c (.sl (list2.map c3))] [(80000, .box [.sl (c1.1.map c5), Ti c1.2.1, .v (.int .u64 c1.2.2)])] (I r.1) [] [(80000, .box [.sl (r.2.1.map c5), Ti r.2.2.1, .v (.int .u64 r.2.2.2)])] := by
 refine qT (rs := [.t 4]) (vs := [.tmp 4]) Tryz.func60 rfl rfl (.cons rfl FitsL.nil) (by decide) 12 rfl rfl fun σ => ?_
 unfold jJ at h
 show V _ _ ⟨.pt 80000 0 :: .c (.sl (list2.map c3)) :: bt 10 [], [(80000, .pbox (σ 80000) [.sl (c1.1.map c5), Ti c1.2.1, .v (.int .u64 c1.2.2)])]⟩ _
 refine VE ?_
 obtain ⟨y3, hy3, h⟩ := zA h
 obtain ⟨e4, he4, h⟩ := zA h
 refine VS ?_
 refine YR 3 ?_
 refine L0 rfl rfl (qQ (c := c3) (xs := list2) Tryz.underlying24 rfl kk) ?_
 refine zL rfl (zS [(80000, 80000)] 9 (zI hy3) zG rfl rfl kk rfl (zR kk zX) rfl kk rfl rfl rfl) ?_
 refine L0 rfl rfl (zBG (c := c3) (xs := list2) (v := e4) (n := y3.1) Tryz.underlying24 sz3 rfl kk kk he4) ?_
 refine YF ?_
 cases h
 exact zF VTR
theorem zEx : CfW Tryz.prog 124 := cfW Tryz.func124
theorem zFQ {c1 : ((List Int) × Int × Int)} {list2 : List ByteArray} {r : (ByteArray × (((List Int) × Int × Int)))} (h : zBq c1 list2 = some r) : zDq Tryz.prog 124 [.pt 80000 0, .c (.sl (list2.map c9))] [(80000, .box [.sl (c1.1.map c5), Ti c1.2.1, .v (.int .u64 c1.2.2)])] (.c (.v (.string r.1))) [] [(80000, .box [.sl (r.2.1.map c5), Ti r.2.2.1, .v (.int .u64 r.2.2.2)])] := by
 refine qT (rs := [.t 4]) (vs := [.tmp 4]) Tryz.func124 rfl rfl (.cons rfl FitsL.nil) (by decide) 12 rfl rfl fun σ => ?_
 unfold zBq at h
 show V _ _ ⟨.pt 80000 0 :: .c (.sl (list2.map c9)) :: bt 10 [], [(80000, .pbox (σ 80000) [.sl (c1.1.map c5), Ti c1.2.1, .v (.int .u64 c1.2.2)])]⟩ _
 refine VE ?_
 obtain ⟨y3, hy3, h⟩ := zA h
 obtain ⟨e4, he4, h⟩ := zA h
 refine VS ?_
 refine YR 3 ?_
 refine L0 rfl rfl (qQ (c := c9) (xs := list2) Tryz.underlying66 rfl kk) ?_
 refine zL rfl (zS [(80000, 80000)] 9 (zI hy3) zG rfl rfl kk rfl (zR kk zX) rfl kk rfl rfl rfl) ?_
 refine L0 rfl rfl (zBG (c := c9) (xs := list2) (v := e4) (n := y3.1) Tryz.underlying66 sz9 rfl kk kk he4) ?_
 refine YF ?_
 cases h
 exact zF VTR
theorem zCs : CfW Tryz.prog 121 := cfW Tryz.func121
theorem zCz {c1 : ((List Int) × Int × Int)} {r : (ByteArray × (((List Int) × Int × Int)))} (h : zAH c1 = some r) : zDq Tryz.prog 121 [.pt 80000 0] [(80000, .box [.sl (c1.1.map c5), Ti c1.2.1, .v (.int .u64 c1.2.2)])] (.c (.v (.string r.1))) [] [(80000, .box [.sl (r.2.1.map c5), Ti r.2.2.1, .v (.int .u64 r.2.2.2)])] := by
 refine qT (rs := [.t 2]) (vs := [.tmp 2]) Tryz.func121 rfl rfl (.cons rfl FitsL.nil) (by decide) 11 rfl rfl fun σ => ?_
 unfold zAH at h
 show V _ _ ⟨.pt 80000 0 :: bt 10 [], [(80000, .pbox (σ 80000) [.sl (c1.1.map c5), Ti c1.2.1, .v (.int .u64 c1.2.2)])]⟩ _
 refine VE ?_
 refine zK ?_
 obtain ⟨y2, hy2, h⟩ := zA h
 refine VS ?_
 refine YR 1 ?_
 refine zL rfl (zS [(80000, 80000)] 4 (zCG hy2) zBn rfl rfl kk rfl (zR kk zX) rfl kk rfl rfl rfl) ?_
 refine YF ?_
 refine VC h (fun h => ?_) (fun h => ?_)
 ·obtain ⟨y4, hy4, h⟩ := zA h
  refine VS ?_
  refine YR 1 ?_
  refine L1 rfl rfl (qP (z := zv9) (els := [(⟨#[]⟩ : ByteArray), (⟨#[97, 98, 99, 100, 101, 102, 103, 104]⟩ : ByteArray), (⟨#[97, 98, 99, 100, 101, 102, 103, 104, 105]⟩ : ByteArray), (⟨#[65]⟩ : ByteArray), (⟨#[97, 32, 98]⟩ : ByteArray), (⟨#[122]⟩ : ByteArray)].map c9) Tryz.underlying66 iz9 rfl (by decide) rfl kk rfl (by simp [c9]) (by decide) (by decide)) ?_
  refine zDT 48 (T := 9) (sz := 1) (els := ([(⟨#[]⟩ : ByteArray), (⟨#[97, 98, 99, 100, 101, 102, 103, 104]⟩ : ByteArray), (⟨#[97, 98, 99, 100, 101, 102, 103, 104, 105]⟩ : ByteArray), (⟨#[65]⟩ : ByteArray), (⟨#[97, 32, 98]⟩ : ByteArray), (⟨#[122]⟩ : ByteArray)]).map c9) kk rfl ?_
  refine zL rfl (zS [(80000, 80000)] 7 (zFQ hy4) zEx rfl rfl kk rfl (zR kk zX) rfl kk rfl rfl rfl) ?_
  refine YF ?_
  cases h
  exact zF VTR
 ·refine zH ?_
  show V _ _ _ _
  obtain ⟨y5, hy5, h⟩ := zA h
  refine VS ?_
  refine YR 1 ?_
  refine L1 rfl rfl (qP (z := zv9) (els := [(⟨#[97]⟩ : ByteArray), (⟨#[98]⟩ : ByteArray), (⟨#[99]⟩ : ByteArray), (⟨#[100]⟩ : ByteArray), (⟨#[101]⟩ : ByteArray), (⟨#[102]⟩ : ByteArray), (⟨#[103]⟩ : ByteArray), (⟨#[97, 98]⟩ : ByteArray), (⟨#[98, 97]⟩ : ByteArray), (⟨#[120]⟩ : ByteArray)].map c9) Tryz.underlying66 iz9 rfl (by decide) rfl kk rfl (by simp [c9]) (by decide) (by decide)) ?_
  refine zDT 72 (T := 9) (sz := 1) (els := ([(⟨#[97]⟩ : ByteArray), (⟨#[98]⟩ : ByteArray), (⟨#[99]⟩ : ByteArray), (⟨#[100]⟩ : ByteArray), (⟨#[101]⟩ : ByteArray), (⟨#[102]⟩ : ByteArray), (⟨#[103]⟩ : ByteArray), (⟨#[97, 98]⟩ : ByteArray), (⟨#[98, 97]⟩ : ByteArray), (⟨#[120]⟩ : ByteArray)]).map c9) kk rfl ?_
  refine zL rfl (zS [(80000, 80000)] 10 (zFQ hy5) zEx rfl rfl kk rfl (zR kk zX) rfl kk rfl rfl rfl) ?_
  refine YF ?_
  cases h
  exact zF VTR
theorem zDe : CfW Tryz.prog 253 := cfW Tryz.func253
theorem zDs {c1 : ((List Int) × Int × Int)} {r : (Int × (((List Int) × Int × Int)))} (h : zAg c1 = some r) : zDq Tryz.prog 253 [.pt 80000 0] [(80000, .box [.sl (c1.1.map c5), Ti c1.2.1, .v (.int .u64 c1.2.2)])] (I r.1) [] [(80000, .box [.sl (r.2.1.map c5), Ti r.2.2.1, .v (.int .u64 r.2.2.2)])] := by
 refine qT (rs := [.t 2]) (vs := [.tmp 2]) Tryz.func253 rfl rfl (.cons rfl FitsL.nil) (by decide) 32 rfl rfl fun σ => ?_
 unfold zAg at h
 show V _ _ ⟨.pt 80000 0 :: bt 31 [], [(80000, .pbox (σ 80000) [.sl (c1.1.map c5), Ti c1.2.1, .v (.int .u64 c1.2.2)])]⟩ _
 refine VE ?_
 refine zK ?_
 obtain ⟨y2, hy2, h⟩ := zA h
 refine VS ?_
 refine YR 1 ?_
 refine zL rfl (zS [(80000, 80000)] 4 (zI hy2) zG rfl rfl kk rfl (zR kk zX) rfl kk rfl rfl rfl) ?_
 refine YF ?_
 refine zN ?_
 refine VE ?_
 refine VC h (fun h => ?_) (fun h => ?_)
 ·obtain ⟨y4, hy4, h⟩ := zA h
  refine VS ?_
  refine YR 1 ?_
  refine L1 rfl rfl (qP (z := zv3) (els := [0, 1, -1, 1000000, -1000000, 1000001, -1000001, -9223372036854775808, 9223372036854775807, 999983, 999999, 1000].map c3) Tryz.underlying24 iz3 rfl (by decide) rfl kk rfl (by simp [c3]) (by decide) (by decide)) ?_
  refine zDT 64 (T := 3) (sz := 1) (els := ([0, 1, -1, 1000000, -1000000, 1000001, -1000001, -9223372036854775808, 9223372036854775807, 999983, 999999, 1000]).map c3) kk rfl ?_
  refine zL rfl (zS [(80000, 80000)] 9 (zB2 hy4) zBR rfl rfl kk rfl (zR kk zX) rfl kk rfl rfl rfl) ?_
  refine YF ?_
  cases h
  exact zF VTR
 ·obtain ⟨j5, hj5, h⟩ := zA h
  refine zCw (mb 32 1041) [80000] (s1 := ⟨.pt 80000 0 :: bt 3 (I y2.1 :: bt 5 (Bo j5 :: bt 21 [])), [(80000, .pbox (σ 80000) [.sl (y2.2.1.map c5), Ti y2.2.2.1, .v (.int .u64 y2.2.2.2)])]⟩) ?_ ?_
  ·clear h
   have h := hj5
   clear hj5
   refine VE ?_
   refine VC h (fun h => ?_) (fun h => ?_)
   ·refine zH ?_
    obtain rfl := zB h
    show St.keep _ _ _ = _
    kernel_rfl
   ·refine zY ?_
    refine YF ?_
    obtain rfl := zB h
    show St.keep _ _ _ = _
    kernel_rfl
  refine VC h (fun h => ?_) (fun h => ?_)
  ·obtain ⟨y8, hy8, h⟩ := zA h
   obtain ⟨y9, hy9, h⟩ := zA h
   obtain ⟨y10, hy10, h⟩ := zA h
   obtain ⟨t11, ht11, h⟩ := zT h
   refine zO (mb 32 4) [80000] (s1 := ⟨.bot :: .bot :: I t11 :: bt 29 [], [(80000, .pbox (σ 80000) [.sl (y10.2.1.map c5), Ti y10.2.2.1, .v (.int .u64 y10.2.2.2)])]⟩) ?_ ?_
   ·refine XR 1 ?_
    refine zL rfl (zS [(80000, 80000)] 14 (zI hy8) zG rfl rfl kk rfl (zR kk zX) rfl kk rfl rfl rfl) ?_
    refine XR 1 ?_
    refine zL rfl (zS [(80000, 80000)] 16 (zI hy9) zG rfl rfl kk rfl (zR kk zX) rfl kk rfl rfl rfl) ?_
    refine XR 3 ?_
    refine zL rfl (zS [(80000, 80000)] 20 (zI hy10) zG rfl rfl kk rfl (zR kk zX) rfl kk rfl rfl rfl) ?_
    refine XR 4 ?_
    refine zM ?_
    subst ht11
    kernel_rfl
   cases h
   exact zF VTR
  ·obtain ⟨j12, hj12, h⟩ := zA h
   refine zCw (mb 32 16777217) [80000] (s1 := ⟨.pt 80000 0 :: bt 23 (Bo j12 :: bt 7 []), [(80000, .pbox (σ 80000) [.sl (y2.2.1.map c5), Ti y2.2.2.1, .v (.int .u64 y2.2.2.2)])]⟩) ?_ ?_
   ·clear h
    have h := hj12
    clear hj12
    refine VE ?_
    refine VC h (fun h => ?_) (fun h => ?_)
    ·refine zH ?_
     obtain rfl := zB h
     show St.keep _ _ _ = _
     kernel_rfl
    ·refine zY ?_
     refine YF ?_
     obtain rfl := zB h
     show St.keep _ _ _ = _
     kernel_rfl
   refine VC h (fun h => ?_) (fun h => ?_)
   ·obtain ⟨y15, hy15, h⟩ := zA h
    refine VS ?_
    refine YR 1 ?_
    refine zL rfl (zS [(80000, 80000)] 28 (zI hy15) zG rfl rfl kk rfl (zR kk zX) rfl kk rfl rfl rfl) ?_
    refine YF ?_
    cases h
    exact zF VTR
   ·refine zH ?_
    show V _ _ _ _
    obtain ⟨y16, hy16, h⟩ := zA h
    obtain ⟨t17, ht17, h⟩ := zT h
    refine zO (mb 32 4) [80000] (s1 := ⟨.bot :: .bot :: I t17 :: bt 29 [], [(80000, .pbox (σ 80000) [.sl (y16.2.1.map c5), Ti y16.2.2.1, .v (.int .u64 y16.2.2.2)])]⟩) ?_ ?_
    ·refine XR 1 ?_
     refine zL rfl (zS [(80000, 80000)] 30 (zI hy16) zG rfl rfl kk rfl (zR kk zX) rfl kk rfl rfl rfl) ?_
     refine XR 2 ?_
     refine zM ?_
     subst ht17
     kernel_rfl
    cases h
    exact zF VTR
theorem zIz : CfW Tryz.prog 201 := cfW Tryz.func201
theorem zJP {c1 : ((List Int) × Int × Int)} {r : (((Int × Int × Int)) × (((List Int) × Int × Int)))} (h : zC0 c1 = some r) : zDq Tryz.prog 201 [.pt 80000 0] [(80000, .box [.sl (c1.1.map c5), Ti c1.2.1, .v (.int .u64 c1.2.2)])] (.ag [Ti r.1.1, Ti r.1.2.1, Ti r.1.2.2]) [] [(80000, .box [.sl (r.2.1.map c5), Ti r.2.2.1, .v (.int .u64 r.2.2.2)])] := by
 refine qT (rs := [.w 2 3]) (vs := [.cell 2 38]) Tryz.func201 rfl rfl (.cons ⟨rfl, wd38⟩ FitsL.nil) (by decide) 85 rfl rfl fun σ => ?_
 unfold zC0 at h
 show V _ _ ⟨.pt 80000 0 :: bt 84 [], [(80000, .pbox (σ 80000) [.sl (c1.1.map c5), Ti c1.2.1, .v (.int .u64 c1.2.2)])]⟩ _
 refine VE ?_
 refine zK ?_
 obtain ⟨y2, hy2, h⟩ := zA h
 refine VS ?_
 refine YR 1 ?_
 refine zL rfl (zS [(80000, 80000)] 8 (zI hy2) zG rfl rfl kk rfl (zR kk zX) rfl kk rfl rfl rfl) ?_
 refine YF ?_
 refine zN ?_
 refine VE ?_
 refine VC h (fun h => ?_) (fun h => ?_)
 ·obtain ⟨y4, hy4, h⟩ := zA h
  obtain ⟨y5, hy5, h⟩ := zA h
  obtain ⟨y6, hy6, h⟩ := zA h
  refine VS ?_
  refine YR 1 ?_
  refine zL rfl (zS [(80000, 80000)] 12 (zDs hy4) zDe rfl rfl kk rfl (zR kk zX) rfl kk rfl rfl rfl) ?_
  refine YR 1 ?_
  refine zL rfl (zS [(80000, 80000)] 14 (zDs hy5) zDe rfl rfl kk rfl (zR kk zX) rfl kk rfl rfl rfl) ?_
  refine YR 1 ?_
  refine zL rfl (zS [(80000, 80000)] 16 (zDs hy6) zDe rfl rfl kk rfl (zR kk zX) rfl kk rfl rfl rfl) ?_
  refine L0 rfl rfl (zW (cs := [Ti y4.1, Ti y5.1, Ti y6.1]) pl38 bt38 rfl rfl kk) ?_
  refine YF ?_
  cases h
  exact zF VTR
 ·refine VE ?_
  refine VC h (fun h => ?_) (fun h => ?_)
  ·obtain ⟨y8, hy8, h⟩ := zA h
   refine VS ?_
   refine YR 1 ?_
   refine L1 rfl rfl (qP (z := zv3) (els := [2, 3, -1, 0, 1000].map c3) Tryz.underlying24 iz3 rfl (by decide) rfl kk rfl (by simp [c3]) (by decide) (by decide)) ?_
   refine zDT 168 (T := 3) (sz := 1) (els := ([2, 3, -1, 0, 1000]).map c3) kk rfl ?_
   refine zL rfl (zS [(80000, 80000)] 22 (zB2 hy8) zBR rfl rfl kk rfl (zR kk zX) rfl kk rfl rfl rfl) ?_
   refine YF ?_
   obtain ⟨y9, hy9, h⟩ := zA h
   obtain ⟨y10, hy10, h⟩ := zA h
   obtain ⟨y11, hy11, h⟩ := zA h
   obtain ⟨f12, hf12, h⟩ := zT h
   obtain ⟨f13, hf13, h⟩ := zT h
   obtain ⟨f14, hf14, h⟩ := zT h
   refine zO (mb 85 4) [16, 80000] (s1 := ⟨.bot :: .bot :: .pt 16 0 :: bt 82 [], [(16, .box [Ti f12, Ti f13, Ti f14]), (80000, .pbox (σ 80000) [.sl (y11.2.1.map c5), Ti y11.2.2.1, .v (.int .u64 y11.2.2.2)])]⟩) ?_ ?_
   ·refine XR 2 ?_
    refine zL rfl (zS [(80000, 80000)] 25 (zI hy9) zG rfl rfl kk rfl (zR kk zX) rfl kk rfl rfl rfl) ?_
    refine XR 3 ?_
    refine zL rfl (zS [(80000, 80000)] 29 (zI hy10) zG rfl rfl kk rfl (zR kk zX) rfl kk rfl rfl rfl) ?_
    refine XR 4 ?_
    refine zL rfl (zS [(80000, 80000)] 34 (zI hy11) zG rfl rfl kk rfl (zR kk zX) rfl kk rfl rfl rfl) ?_
    refine XR 1 ?_
    refine L0 rfl rfl (zW (cs := [Ti (w64 (y8.1 * y9.1)), Ti (w64 (y8.1 * (w64 (y10.1 - 10)))), Ti (w64 (y8.1 * y11.1))]) pl38 bt38 rfl rfl kk) ?_
    refine XR 1 ?_
    refine zM ?_
    subst hf12 hf13 hf14
    kernel_rfl
   cases h
   exact zF VTR
  ·refine VE ?_
   refine VC h (fun h => ?_) (fun h => ?_)
   ·obtain ⟨y16, hy16, h⟩ := zA h
    obtain ⟨y17, hy17, h⟩ := zA h
    obtain ⟨y18, hy18, h⟩ := zA h
    obtain ⟨f19, hf19, h⟩ := zT h
    refine zO (mb 85 4) [16, 80000] (s1 := ⟨.bot :: .bot :: .pt 16 0 :: bt 82 [], [(16, .box [Ti y16.1, Ti f19, Ti y18.1]), (80000, .pbox (σ 80000) [.sl (y18.2.1.map c5), Ti y18.2.2.1, .v (.int .u64 y18.2.2.2)])]⟩) ?_ ?_
    ·refine XR 1 ?_
     refine zL rfl (zS [(80000, 80000)] 40 (zI hy16) zG rfl rfl kk rfl (zR kk zX) rfl kk rfl rfl rfl) ?_
     refine XR 1 ?_
     refine zL rfl (zS [(80000, 80000)] 42 (zI hy17) zG rfl rfl kk rfl (zR kk zX) rfl kk rfl rfl rfl) ?_
     refine XR 2 ?_
     refine zL rfl (zS [(80000, 80000)] 45 (zI hy18) zG rfl rfl kk rfl (zR kk zX) rfl kk rfl rfl rfl) ?_
     refine L0 rfl rfl (zW (cs := [Ti y16.1, Ti (w64 (y17.1 - 1500)), Ti y18.1]) pl38 bt38 rfl rfl kk) ?_
     refine XR 1 ?_
     refine zM ?_
     subst hf19
     kernel_rfl
    cases h
    exact zF VTR
   ·refine VE ?_
    refine VC h (fun h => ?_) (fun h => ?_)
    ·obtain ⟨y21, hy21, h⟩ := zA h
     obtain ⟨y22, hy22, h⟩ := zA h
     obtain ⟨y23, hy23, h⟩ := zA h
     obtain ⟨f24, hf24, h⟩ := zT h
     obtain ⟨f25, hf25, h⟩ := zT h
     obtain ⟨f26, hf26, h⟩ := zT h
     refine zO (mb 85 4) [16, 80000] (s1 := ⟨.bot :: .bot :: .pt 16 0 :: bt 82 [], [(16, .box [Ti f24, Ti f25, Ti f26]), (80000, .pbox (σ 80000) [.sl (y23.2.1.map c5), Ti y23.2.2.1, .v (.int .u64 y23.2.2.2)])]⟩) ?_ ?_
     ·refine XR 1 ?_
      refine zL rfl (zS [(80000, 80000)] 50 (zI hy21) zG rfl rfl kk rfl (zR kk zX) rfl kk rfl rfl rfl) ?_
      refine XR 2 ?_
      refine zL rfl (zS [(80000, 80000)] 53 (zI hy22) zG rfl rfl kk rfl (zR kk zX) rfl kk rfl rfl rfl) ?_
      refine XR 2 ?_
      refine zL rfl (zS [(80000, 80000)] 56 (zI hy23) zG rfl rfl kk rfl (zR kk zX) rfl kk rfl rfl rfl) ?_
      refine XR 1 ?_
      refine L0 rfl rfl (zW (cs := [Ti (w64 (y21.1 - 10)), Ti (w64 (y22.1 - 10)), Ti (w64 (y23.1 - 10))]) pl38 bt38 rfl rfl kk) ?_
      refine XR 1 ?_
      refine zM ?_
      subst hf24 hf25 hf26
      kernel_rfl
     cases h
     exact zF VTR
    ·refine zH ?_
     show V _ _ _ _
     obtain ⟨y27, hy27, h⟩ := zA h
     obtain ⟨y28, hy28, h⟩ := zA h
     obtain ⟨a29, ha29, h⟩ := zT h
     refine zO (mb 85 53) [16, 80000] (s1 := ⟨.pt 80000 0 :: .bot :: .pt 16 0 :: .bot :: I a29 :: I y28.1 :: bt 79 [], [(16, .box [Ti 0, Ti 0, Ti 0]), (80000, .pbox (σ 80000) [.sl (y28.2.1.map c5), Ti y28.2.2.1, .v (.int .u64 y28.2.2.2)])]⟩) ?_ ?_
     ·refine XR 1 ?_
      refine zL rfl (zS [(80000, 80000)] 60 (zI hy27) zG rfl rfl kk rfl (zR kk zX) rfl kk rfl rfl rfl) ?_
      refine XR 2 ?_
      refine zL rfl (zS [(80000, 80000)] 63 (zI hy28) zG rfl rfl kk rfl (zR kk zX) rfl kk rfl rfl rfl) ?_
      refine XR 2 ?_
      refine zM ?_
      subst ha29
      kernel_rfl
     obtain ⟨y30, hy30, h⟩ := zA h
     obtain ⟨b31, hb31, h⟩ := zT h
     refine zO (mb 85 116) [16, 80000] (s1 := ⟨.bot :: .bot :: .pt 16 0 :: .bot :: I a29 :: I y28.1 :: I b31 :: bt 78 [], [(16, .box [Ti 0, Ti 0, Ti 0]), (80000, .pbox (σ 80000) [.sl (y30.2.1.map c5), Ti y30.2.2.1, .v (.int .u64 y30.2.2.2)])]⟩) ?_ ?_
     ·refine XR 3 ?_
      refine zL rfl (zS [(80000, 80000)] 67 (zI hy30) zG rfl rfl kk rfl (zR kk zX) rfl kk rfl rfl rfl) ?_
      refine XR 4 ?_
      refine zM ?_
      subst hb31
      kernel_rfl
     obtain ⟨z32, hz32, h⟩ := zA h
     obtain ⟨f33, hf33, h⟩ := zT h
     refine zO (mb 85 4) [16, 80000] (s1 := ⟨.bot :: .bot :: .pt 16 0 :: bt 82 [], [(16, .box [Ti a29, Ti b31, Ti f33]), (80000, .pbox (σ 80000) [.sl (y30.2.1.map c5), Ti y30.2.2.1, .v (.int .u64 y30.2.2.2)])]⟩) ?_ ?_
     ·refine XR 10 ?_
      refine L0 rfl rfl (zAJ (a := w64 ((w64 (b31 * b31)) + (w64 (4 * a29)))) (b := w64 (4 * a29)) rfl kk kk (zAA hz32)) ?_
      refine XR 2 ?_
      refine L0 rfl rfl (zW (cs := [Ti a29, Ti b31, Ti (w64 ((w64 (Int.tdiv (w64 ((w64 (b31 * b31)) + (w64 (4 * a29)))) (w64 (4 * a29)))) + y28.1))]) pl38 bt38 rfl rfl kk) ?_
      refine XR 1 ?_
      refine zM ?_
      subst hf33
      kernel_rfl
     cases h
     exact zF VTR
theorem zBb : CfW Tryz.prog 218 := cfW Tryz.func218
theorem zBz {a1 : Int} {vm2 : Int} {r : Int} (h : zAS a1 vm2 = some r) : zV Tryz.prog 218 [I a1, I vm2] (I r) [] := by
 refine CtW [4] Tryz.func218 rfl rfl 15 ?_
 unfold zAS at h
 refine VE ?_
 obtain ⟨z3, hz3, h⟩ := zA h
 obtain ⟨vr4, hvr4, h⟩ := zT h
 refine zO (mb 15 34) [] (s1 := ⟨.bot :: I vm2 :: bt 3 (I vr4 :: bt 9 []), []⟩) ?_ ?_
 ·refine XR 2 ?_
  refine L0 rfl rfl (zEy (k := .i64) (a := a1) (b := vm2) rfl kk kk (zAA hz3)) ?_
  refine XR 1 ?_
  refine zM ?_
  subst hvr4
  kernel_rfl
 refine zK ?_
 refine VE ?_
 refine VC h (fun h => ?_) (fun h => ?_)
 ·obtain ⟨vr6, hvr6, h⟩ := zT h
  refine jC (mb 15 32) [] (s1 := ⟨bt 5 (I vr6 :: bt 9 []), []⟩) ?_ ?_
  ·refine XR 4 ?_
   refine zM ?_
   subst hvr6
   kernel_rfl
  show V _ _ _ _
  refine VE ?_
  cases h
  exact zF VT
 ·refine zH ?_
  show V _ _ _ _
  refine VE ?_
  cases h
  exact zF VT
theorem zFi : CfW Tryz.prog 225 := cfW Tryz.func225
theorem zFz {a1 : Int} {b2 : Int} {r : Int} (h : zB8 a1 b2 = some r) : zV Tryz.prog 225 [I a1, I b2] (I r) [] := by
 refine CtW [4] Tryz.func225 rfl rfl 10 ?_
 unfold zB8 at h
 refine VE ?_
 refine zK ?_
 refine VE ?_
 refine VC h (fun h => ?_) (fun h => ?_)
 ·refine VE ?_
  cases h
  exact zF VT
 ·refine zH ?_
  show V _ _ _ _
  refine VE ?_
  cases h
  exact zF VT
theorem zJA : CfW Tryz.prog 206 := cfW Tryz.func206
theorem zJQ {c1 : ((List Int) × Int × Int)} {r : (Int × (((List Int) × Int × Int)))} (h : zC1 c1 = some r) : zDq Tryz.prog 206 [.pt 80000 0] [(80000, .box [.sl (c1.1.map c5), Ti c1.2.1, .v (.int .u64 c1.2.2)])] (I r.1) [] [(80000, .box [.sl (r.2.1.map c5), Ti r.2.2.1, .v (.int .u64 r.2.2.2)])] := by
 refine qT (rs := [.t 2]) (vs := [.tmp 2]) Tryz.func206 rfl rfl (.cons rfl FitsL.nil) (by decide) 42 rfl rfl fun σ => ?_
 unfold zC1 at h
 show V _ _ ⟨.pt 80000 0 :: bt 41 [], [(80000, .pbox (σ 80000) [.sl (c1.1.map c5), Ti c1.2.1, .v (.int .u64 c1.2.2)])]⟩ _
 refine VE ?_
 refine zK ?_
 obtain ⟨y2, hy2, h⟩ := zA h
 refine VS ?_
 refine YR 1 ?_
 refine zL rfl (zS [(80000, 80000)] 5 (zI hy2) zG rfl rfl kk rfl (zR kk zX) rfl kk rfl rfl rfl) ?_
 refine YF ?_
 refine zN ?_
 refine VE ?_
 refine VC h (fun h => ?_) (fun h => ?_)
 ·obtain ⟨y4, hy4, h⟩ := zA h
  refine VS ?_
  refine YR 1 ?_
  refine L1 rfl rfl (qP (z := zv3) (els := [-3, -4, -2000, -1999, -1996, -1995, -163, -2001, -2003, -2004, 0, 1, 5, -1, -2, -5, -9223372036854775808].map c3) Tryz.underlying24 iz3 rfl (by decide) rfl kk rfl (by simp [c3]) (by decide) (by decide)) ?_
  refine zDT 72 (T := 3) (sz := 1) (els := ([-3, -4, -2000, -1999, -1996, -1995, -163, -2001, -2003, -2004, 0, 1, 5, -1, -2, -5, -9223372036854775808]).map c3) kk rfl ?_
  refine zL rfl (zS [(80000, 80000)] 10 (zB2 hy4) zBR rfl rfl kk rfl (zR kk zX) rfl kk rfl rfl rfl) ?_
  refine YF ?_
  cases h
  exact zF VTR
 ·obtain ⟨j5, hj5, h⟩ := zA h
  refine zCw (mb 42 2081) [80000] (s1 := ⟨.pt 80000 0 :: bt 4 (I y2.1 :: bt 5 (Bo j5 :: bt 30 [])), [(80000, .pbox (σ 80000) [.sl (y2.2.1.map c5), Ti y2.2.2.1, .v (.int .u64 y2.2.2.2)])]⟩) ?_ ?_
  ·clear h
   have h := hj5
   clear hj5
   refine VE ?_
   refine VC h (fun h => ?_) (fun h => ?_)
   ·refine zH ?_
    obtain rfl := zB h
    show St.keep _ _ _ = _
    kernel_rfl
   ·refine zY ?_
    refine YF ?_
    obtain rfl := zB h
    show St.keep _ _ _ = _
    kernel_rfl
  refine VC h (fun h => ?_) (fun h => ?_)
  ·obtain ⟨y8, hy8, h⟩ := zA h
   obtain ⟨d9, hd9, h⟩ := zT h
   refine zO (mb 42 8) [80000] (s1 := ⟨bt 3 (I d9 :: bt 38 []), [(80000, .pbox (σ 80000) [.sl (y8.2.1.map c5), Ti y8.2.2.1, .v (.int .u64 y8.2.2.2)])]⟩) ?_ ?_
   ·refine XR 1 ?_
    refine zL rfl (zS [(80000, 80000)] 15 (zI hy8) zG rfl rfl kk rfl (zR kk zX) rfl kk rfl rfl rfl) ?_
    refine XR 2 ?_
    refine zM ?_
    subst hd9
    kernel_rfl
   refine zK ?_
   obtain ⟨y10, hy10, h⟩ := zA h
   refine VS ?_
   refine YK 1 (zBz hy10) zBb ?_
   refine YF ?_
   refine VC h (fun h => ?_) (fun h => ?_)
   ·obtain ⟨y12, hy12, h⟩ := zA h
    refine zY ?_
    refine YK 2 (zFz hy12) zFi ?_
    refine YF ?_
    show V _ _ _ _
    refine VE ?_
    cases h
    exact zF VTR
   ·refine zH ?_
    show V _ _ _ _
    refine VE ?_
    cases h
    exact zF VTR
  ·obtain ⟨j13, hj13, h⟩ := zA h
   refine zCw (mb 42 16777249) [80000] (s1 := ⟨.pt 80000 0 :: bt 4 (I y2.1 :: bt 18 (Bo j13 :: bt 17 [])), [(80000, .pbox (σ 80000) [.sl (y2.2.1.map c5), Ti y2.2.2.1, .v (.int .u64 y2.2.2.2)])]⟩) ?_ ?_
   ·clear h
    have h := hj13
    clear hj13
    refine VE ?_
    refine VC h (fun h => ?_) (fun h => ?_)
    ·refine zH ?_
     obtain rfl := zB h
     show St.keep _ _ _ = _
     kernel_rfl
    ·refine VE ?_
     refine VC h (fun h => ?_) (fun h => ?_)
     ·refine zH ?_
      obtain rfl := zB h
      show St.keep _ _ _ = _
      kernel_rfl
     ·refine zY ?_
      refine YF ?_
      obtain rfl := zB h
      show St.keep _ _ _ = _
      kernel_rfl
   refine VC h (fun h => ?_) (fun h => ?_)
   ·obtain ⟨y17, hy17, h⟩ := zA h
    refine VS ?_
    refine YR 1 ?_
    refine L1 rfl rfl (qP (z := zv3) (els := [-84, -420, -231, -260, -455, -520, -660, -1155, -1320, -1380, -1428, -1540, -399, -1092, -1560, -1785].map c3) Tryz.underlying24 iz3 rfl (by decide) rfl kk rfl (by simp [c3]) (by decide) (by decide)) ?_
    refine zDT 232 (T := 3) (sz := 1) (els := ([-84, -420, -231, -260, -455, -520, -660, -1155, -1320, -1380, -1428, -1540, -399, -1092, -1560, -1785]).map c3) kk rfl ?_
    refine zL rfl (zS [(80000, 80000)] 30 (zB2 hy17) zBR rfl rfl kk rfl (zR kk zX) rfl kk rfl rfl rfl) ?_
    refine YF ?_
    cases h
    exact zF VTR
   ·obtain ⟨j18, hj18, h⟩ := zA h
    refine zCw (mb 42 2147483649) [80000] (s1 := ⟨.pt 80000 0 :: bt 30 (Bo j18 :: bt 10 []), [(80000, .pbox (σ 80000) [.sl (y2.2.1.map c5), Ti y2.2.2.1, .v (.int .u64 y2.2.2.2)])]⟩) ?_ ?_
    ·clear h
     have h := hj18
     clear hj18
     refine VE ?_
     refine VC h (fun h => ?_) (fun h => ?_)
     ·refine zH ?_
      obtain rfl := zB h
      show St.keep _ _ _ = _
      kernel_rfl
     ·refine zY ?_
      refine YF ?_
      obtain rfl := zB h
      show St.keep _ _ _ = _
      kernel_rfl
    refine VC h (fun h => ?_) (fun h => ?_)
    ·obtain ⟨y21, hy21, h⟩ := zA h
     obtain ⟨t22, ht22, h⟩ := zT h
     refine zO (mb 42 4) [80000] (s1 := ⟨.bot :: .bot :: I t22 :: bt 39 [], [(80000, .pbox (σ 80000) [.sl (y21.2.1.map c5), Ti y21.2.2.1, .v (.int .u64 y21.2.2.2)])]⟩) ?_ ?_
     ·refine XR 1 ?_
      refine zL rfl (zS [(80000, 80000)] 35 (zI hy21) zG rfl rfl kk rfl (zR kk zX) rfl kk rfl rfl rfl) ?_
      refine XR 3 ?_
      refine zM ?_
      subst ht22
      kernel_rfl
     cases h
     exact zF VTR
    ·refine zH ?_
     show V _ _ _ _
     obtain ⟨y23, hy23, h⟩ := zA h
     obtain ⟨t24, ht24, h⟩ := zT h
     refine zO (mb 42 4) [80000] (s1 := ⟨.bot :: .bot :: I t24 :: bt 39 [], [(80000, .pbox (σ 80000) [.sl (y23.2.1.map c5), Ti y23.2.2.1, .v (.int .u64 y23.2.2.2)])]⟩) ?_ ?_
     ·refine XR 1 ?_
      refine zL rfl (zS [(80000, 80000)] 39 (zI hy23) zG rfl rfl kk rfl (zR kk zX) rfl kk rfl rfl rfl) ?_
      refine XR 3 ?_
      refine zM ?_
      subst ht24
      kernel_rfl
     cases h
     exact zF VTR
theorem zDp : CfW Tryz.prog 91 := cfW Tryz.func91
theorem zET {vn1 : Int} {lo2 : Int} {hi3 : Int} {r : Bool} (h : jQ vn1 lo2 hi3 = some r) : zV Tryz.prog 91 [I vn1, I lo2, I hi3] (Bo r) [] := by
 refine CtW [6] Tryz.func91 rfl rfl 15 ?_
 unfold jQ at h
 refine VE ?_
 refine zO (mb 15 64) [] (s1 := ⟨bt 6 (Bo (bif (leI lo2 vn1) then (leI vn1 hi3) else false) :: bt 8 []), []⟩) ?_ ?_
 ·refine YR 4 ?_
  refine zE (leI lo2 vn1) (fun hc4 => ?_) (fun hc4 => ?_)
  ·refine YQ hc4 ?_
   exact YE (by rw [hc4]; kernel_rfl)
  ·refine YQ hc4 ?_
   exact YE (by rw [hc4]; kernel_rfl)
 cases h
 exact zF VT
theorem zLy : CfW Tryz.prog 152 := cfW Tryz.func152
theorem s_spec_reDisc {d1 : Int} {r : Bool} (h : zDx d1 = some r) : zV Tryz.prog 152 [I d1] (Bo r) [] := by
 refine CtW [2] Tryz.func152 rfl rfl 10 ?_
 unfold zDx at h
 refine VE ?_
 obtain ⟨y2, hy2, h⟩ := zA h
 obtain ⟨b5, hb5, h⟩ := zA h
 refine zO (mb 10 4) [] (s1 := ⟨.bot :: .bot :: Bo b5 :: bt 7 [], []⟩) ?_ ?_
 ·refine YK 1 (zET hy2) zDp ?_
  refine YR 1 ?_
  refine zE y2 (fun hc3 => ?_) (fun hc3 => ?_)
  ·have hb5 := qH hb5 hc3
   obtain ⟨y4, hy4, hb5⟩ := zA hb5
   have hb5 := zB hb5
   refine YQ hc3 ?_
   refine YK 1 (zBz hy4) zBb ?_
   exact YE (by rw [← hb5]; (try rw [hc3]); kernel_rfl)
  ·have hb5 := zB (z7 hb5 hc3)
   refine YQ hc3 ?_
   exact YE (by rw [← hb5]; (try rw [hc3]); kernel_rfl)
 cases h
 exact zF VT
theorem zDJ : CfW Tryz.prog 132 := cfW Tryz.func132
theorem zDU {c1 : ((List Int) × Int × Int)} {r : (Int × (((List Int) × Int × Int)))} (h : zAR c1 = some r) : zDq Tryz.prog 132 [.pt 80000 0] [(80000, .box [.sl (c1.1.map c5), Ti c1.2.1, .v (.int .u64 c1.2.2)])] (I r.1) [] [(80000, .box [.sl (r.2.1.map c5), Ti r.2.2.1, .v (.int .u64 r.2.2.2)])] := by
 refine qT (rs := [.t 2]) (vs := [.tmp 2]) Tryz.func132 rfl rfl (.cons rfl FitsL.nil) (by decide) 10 rfl rfl fun σ => ?_
 unfold zAR at h
 show V _ _ ⟨.pt 80000 0 :: bt 9 [], [(80000, .pbox (σ 80000) [.sl (c1.1.map c5), Ti c1.2.1, .v (.int .u64 c1.2.2)])]⟩ _
 refine VE ?_
 obtain ⟨y2, hy2, h⟩ := zA h
 refine VS ?_
 refine YR 1 ?_
 refine zL rfl (zS [(80000, 80000)] 5 (zJQ hy2) zJA rfl rfl kk rfl (zR kk zX) rfl kk rfl rfl rfl) ?_
 refine YF ?_
 refine zK ?_
 obtain ⟨y3, hy3, h⟩ := zA h
 refine VS ?_
 refine YK 1 (s_spec_reDisc hy3) zLy ?_
 refine YF ?_
 refine VC h (fun h => ?_) (fun h => ?_)
 ·refine VE ?_
  cases h
  exact zF VTR
 ·refine zH ?_
  show V _ _ _ _
  refine VE ?_
  cases h
  exact zF VTR
theorem zCR : CfW Tryz.prog 99 := cfW Tryz.func99
theorem zCa {f1 : (Int × Int × Int)} {r : Int} (h : zAM f1 = some r) : zV Tryz.prog 99 [.ag [Ti f1.1, Ti f1.2.1, Ti f1.2.2]] (I r) [] := by
 refine CtW [2] Tryz.func99 rfl rfl 15 ?_
 unfold zAM at h
 refine VE ?_
 obtain ⟨t2, ht2, h⟩ := zT h
 refine zO (mb 15 4) [] (s1 := ⟨.bot :: .bot :: I t2 :: bt 12 [], []⟩) ?_ ?_
 ·refine XR 13 ?_
  refine zM ?_
  subst ht2
  kernel_rfl
 cases h
 exact zF VT
theorem zGr : CfW Tryz.prog 149 := cfW Tryz.func149
theorem zHW {f1 : (Int × Int × Int)} {r : Bool} (h : zCx f1 = some r) : zV Tryz.prog 149 [.ag [Ti f1.1, Ti f1.2.1, Ti f1.2.2]] (Bo r) [] := by
 refine CtW [2] Tryz.func149 rfl rfl 35 ?_
 unfold zCx at h
 refine VE ?_
 obtain ⟨t6, ht6, h⟩ := zA h
 have ht6 := zB ht6
 refine zO (mb 35 4) [] (s1 := ⟨.bot :: .bot :: Bo t6 :: bt 32 [], []⟩) ?_ ?_
 ·refine YR 7 ?_
  refine zE (ltI (w64 (0 - f1.1)) f1.2.1) (fun hc2 => ?_) (fun hc2 => ?_)
  ·refine YQ hc2 ?_
   refine YR 7 ?_
   refine zE (bif (ltI (w64 (0 - f1.1)) f1.2.1) then (leI f1.2.1 f1.1) else false) (fun hc3 => ?_) (fun hc3 => ?_)
   ·refine YQ hc3 ?_ (by rw [hc2]; kernel_rfl)
    refine YR 6 ?_
    refine zE (ltI f1.1 f1.2.2) (fun hc4 => ?_) (fun hc4 => ?_)
    ·refine YQ hc4 ?_
     exact YE (by rw [← ht6]; (try rw [hc3]); (try rw [hc2]); (try rw [hc4]); kernel_rfl)
    ·refine YQ hc4 ?_
     refine YR 6 ?_
     refine zE (eqI f1.1 f1.2.2) (fun hc5 => ?_) (fun hc5 => ?_)
     ·refine YQ hc5 ?_
      exact YE (by rw [← ht6]; (try rw [hc3]); (try rw [hc2]); (try rw [hc4]); (try rw [hc5]); kernel_rfl)
     ·refine YQ hc5 ?_
      exact YE (by rw [← ht6]; (try rw [hc3]); (try rw [hc2]); (try rw [hc4]); (try rw [hc5]); kernel_rfl)
   ·refine YQ hc3 ?_ (by rw [hc2]; kernel_rfl)
    exact YE (by rw [← ht6]; (try rw [hc3]); (try rw [hc2]); kernel_rfl)
  ·refine YQ hc2 ?_
   refine YR 7 ?_
   refine zE (bif (ltI (w64 (0 - f1.1)) f1.2.1) then (leI f1.2.1 f1.1) else false) (fun hc3 => ?_) (fun hc3 => ?_)
   ·refine YQ hc3 ?_ (by rw [hc2]; kernel_rfl)
    refine YR 6 ?_
    refine zE (ltI f1.1 f1.2.2) (fun hc4 => ?_) (fun hc4 => ?_)
    ·refine YQ hc4 ?_
     exact YE (by rw [← ht6]; (try rw [hc3]); (try rw [hc2]); (try rw [hc4]); kernel_rfl)
    ·refine YQ hc4 ?_
     refine YR 6 ?_
     refine zE (eqI f1.1 f1.2.2) (fun hc5 => ?_) (fun hc5 => ?_)
     ·refine YQ hc5 ?_
      exact YE (by rw [← ht6]; (try rw [hc3]); (try rw [hc2]); (try rw [hc4]); (try rw [hc5]); kernel_rfl)
     ·refine YQ hc5 ?_
      exact YE (by rw [← ht6]; (try rw [hc3]); (try rw [hc2]); (try rw [hc4]); (try rw [hc5]); kernel_rfl)
   ·refine YQ hc3 ?_ (by rw [hc2]; kernel_rfl)
    exact YE (by rw [← ht6]; (try rw [hc3]); (try rw [hc2]); kernel_rfl)
 cases h
 exact zF VT
theorem cf_spec_reAll : CfW Tryz.prog 287 := cfW Tryz.func287
theorem s_spec_reAll {d1 : Int} {r : List ((Int × Int × Int))} (h : zFX d1 = some r) : zV Tryz.prog 287 [I d1] (.ow 0) [(0, .arr 38 3 (r.map c38))] := by
 refine CtW [2] Tryz.func287 rfl rfl 47 ?_
 unfold zFX at h
 refine VS ?_
 refine L1 rfl rfl (zAc (e := 38) 3 (by decide) (.inl rfl)) ?_
 refine YF ?_
 refine VS ?_
 refine L1 rfl rfl (zAc (e := 38) 3 (by decide) (.inl rfl)) ?_
 refine YF ?_
 refine zK ?_
 refine VE ?_
 obtain ⟨o5, hLo5, h⟩ := zA h
 refine zCS (mb 47 8) [24] (s1 := ⟨bt 3 (.ow 24 :: bt 43 []), [(24, .arr 38 3 (o5.map c38))]⟩) ?_ ?_
 ·clear h
  refine zN (jM (fun n s => ∃ (a2 : Int) (l3 : List ((Int × Int × Int))), s.keep (mb 47 25) [24] = (⟨I d1 :: .bot :: .bot :: .ow 24 :: I a2 :: bt 42 [], [(24, .arr 38 3 (l3.map c38))]⟩ : St) ∧ zCU d1 n a2 l3 = some o5) FU ⟨_, _,  kk, hLo5⟩ ?_)
  clear hLo5
  rintro n s ⟨a2, l3, hs, h⟩
  refine jF _ _ hs ?_
  clear hs
  cases n with
  | zero => cases h
  | succ n =>
   rw [zCU] at h
   refine zK ?_
   refine VE ?_
   refine VC h (fun h => ?_) (fun h => ?_)
   ·refine zH ?_
    show V _ _ _ _
    refine zK ?_
    refine zN ?_
    obtain ⟨b7, hb7, h⟩ := zT h
    refine zO (mb 47 57) [24] (s1 := ⟨I d1 :: .bot :: .bot :: .ow 24 :: I a2 :: I b7 :: bt 41 [], [(24, .arr 38 3 (l3.map c38))]⟩) ?_ ?_
    ·refine XR 3 ?_
     refine zM ?_
     subst hb7
     kernel_rfl
    obtain ⟨o11, hLo11, h⟩ := zA h
    refine zCS (mb 47 25) [24] (s1 := ⟨I d1 :: .bot :: .bot :: .ow 24 :: I a2 :: bt 42 [], [(24, .arr 38 3 (o11.map c38))]⟩) ?_ ?_
    ·clear h
     refine zN (jM (fun n s => ∃ (b8 : Int) (l9 : List ((Int × Int × Int))), s.keep (mb 47 57) [24] = (⟨I d1 :: .bot :: .bot :: .ow 24 :: I a2 :: I b8 :: bt 41 [], [(24, .arr 38 3 (l9.map c38))]⟩ : St) ∧ zAz a2 d1 n b8 l9 = some o11) FU ⟨_, _,  kk, hLo11⟩ ?_)
     clear hLo11
     rintro n s ⟨b8, l9, hs, h⟩
     refine jF _ _ hs ?_
     clear hs
     cases n with
     | zero => cases h
     | succ n =>
      rw [zAz] at h
      refine zK ?_
      refine VE ?_
      refine VC h (fun h => ?_) (fun h => ?_)
      ·refine zH ?_
       show V _ _ _ _
       refine zK ?_
       refine zN ?_
       obtain ⟨z13, hz13, h⟩ := zA h
       obtain ⟨f14, hf14, h⟩ := zT h
       refine zO (mb 47 121) [48, 24] (s1 := ⟨I d1 :: .bot :: .bot :: .ow 24 :: I a2 :: I b8 :: .pt 48 0 :: bt 40 [], [(48, .box [Ti a2, Ti b8, Ti f14]), (24, .arr 38 3 (l9.map c38))]⟩) ?_ ?_
       ·refine XR 9 ?_
        refine L0 rfl rfl (zAJ (a := w64 ((w64 (b8 * b8)) - d1)) (b := w64 (4 * a2)) rfl kk kk (zAA hz13)) ?_
        refine L0 rfl rfl (zW (cs := [Ti a2, Ti b8, Ti (w64 (Int.tdiv (w64 ((w64 (b8 * b8)) - d1)) (w64 (4 * a2))))]) pl38 bt38 rfl rfl kk) ?_
        refine XR 2 ?_
        refine zM ?_
        subst hf14
        kernel_rfl
       obtain ⟨y15, hy15, h⟩ := zA h
       obtain ⟨b18, hb18, h⟩ := zA h
       refine zO (mb 47 2199023255673) [48, 24] (s1 := ⟨I d1 :: .bot :: .bot :: .ow 24 :: I a2 :: I b8 :: .pt 48 0 :: bt 34 (Bo b18 :: bt 5 []), [(48, .box [Ti a2, Ti b8, Ti f14]), (24, .arr 38 3 (l9.map c38))]⟩) ?_ ?_
       ·refine YK 1 (zCa hy15) zCR ?_
        refine YR 3 ?_
        refine zE (eqI y15 d1) (fun hc16 => ?_) (fun hc16 => ?_)
        ·have hb18 := qH hb18 hc16
         obtain ⟨y17, hy17, hb18⟩ := zA hb18
         have hb18 := zB hb18
         refine YQ hc16 ?_
         refine YK 1 (zHW hy17) zGr ?_
         exact YE (by rw [← hb18]; (try rw [hc16]); kernel_rfl)
        ·have hb18 := zB (z7 hb18 hc16)
         refine YQ hc16 ?_
         exact YE (by rw [← hb18]; (try rw [hc16]); kernel_rfl)
       refine VC h (fun h => ?_) (fun h => ?_)
       ·obtain ⟨u20, hu20, h⟩ := zA h
        refine zY ?_
        refine YR 2 ?_
        refine L1 rfl rfl (qP (z := zv38) (els := [(a2, b8, f14)].map c38) Tryz.underlying59 iz38 rfl (by decide) rfl kk rfl (by simp [c38]) (by decide) (by decide)) ?_
        refine zL rfl (zAn (c := c38) (xs := l9) (ys := [(a2, b8, f14)]) (id := 24) (z := zv38) rfl rfl Tryz.underlying59 izb38 rfl kk kk kk (fun _ => rfl) (by simp) (zAK hu20) (by decide)) ?_
        refine YF ?_
        show V _ _ _ _
        obtain ⟨b21, hb21, h⟩ := zT h
        refine jC (mb 47 57) [24] (s1 := ⟨I d1 :: .bot :: .bot :: .ow 24 :: I a2 :: I b21 :: bt 41 [], [(24, .arr 38 3 ((l9 ++ ([(a2, b8, f14)])).map c38))]⟩) ?_ ?_
        ·refine XR 3 ?_
         refine zM ?_
         subst hb21
         kernel_rfl
        exact ⟨n, Nat.lt_succ_self n, _, _,  kk, h⟩
       ·refine zH ?_
        show V _ _ _ _
        obtain ⟨b22, hb22, h⟩ := zT h
        refine jC (mb 47 57) [24] (s1 := ⟨I d1 :: .bot :: .bot :: .ow 24 :: I a2 :: I b22 :: bt 41 [], [(24, .arr 38 3 (l9.map c38))]⟩) ?_ ?_
        ·refine XR 3 ?_
         refine zM ?_
         subst hb22
         kernel_rfl
        exact ⟨n, Nat.lt_succ_self n, _, _,  kk, h⟩
      ·refine jE ?_
       obtain rfl := zB h
       show St.keep _ _ _ = _
       kernel_rfl
    show V _ _ _ _
    obtain ⟨a23, ha23, h⟩ := zT h
    refine jC (mb 47 25) [24] (s1 := ⟨I d1 :: .bot :: .bot :: .ow 24 :: I a23 :: bt 42 [], [(24, .arr 38 3 (o11.map c38))]⟩) ?_ ?_
    ·refine XR 3 ?_
     refine zM ?_
     subst ha23
     kernel_rfl
    exact ⟨n, Nat.lt_succ_self n, _, _,  kk, h⟩
   ·refine jE ?_
    obtain rfl := zB h
    show St.keep _ _ _ = _
    kernel_rfl
 show V _ _ _ _
 refine VE ?_
 cases h
 exact zF VT
theorem zGG : CfW Tryz.prog 158 := cfW Tryz.func158
theorem zGc {vn1 : Int} {r : Int} (h : zDE vn1 = some r) : zV Tryz.prog 158 [I vn1] (I r) [] := by
 refine CtW [2] Tryz.func158 rfl rfl 7 ?_
 unfold zDE at h
 refine VE ?_
 obtain ⟨y2, hy2, h⟩ := zA h
 refine VS ?_
 refine YK 3 (zFz hy2) zFi ?_
 refine YF ?_
 cases h
 exact zF VT
theorem zDS : CfW Tryz.prog 151 := cfW Tryz.func151
theorem zDh {a1 : Int} {b2 : Int} {r : Int} (h : zAv a1 b2 = some r) : zV Tryz.prog 151 [I a1, I b2] (I r) [] := by
 refine CtW [4] Tryz.func151 rfl rfl 16 ?_
 unfold zAv at h
 refine VE ?_
 obtain ⟨y3, hy3, h⟩ := zA h
 obtain ⟨y4, hy4, h⟩ := zA h
 refine VS ?_
 refine YK 1 (zGc hy3) zGG ?_
 refine YK 1 (zGc hy4) zGG ?_
 refine YF ?_
 refine zK ?_
 obtain ⟨o8, hLo8, h⟩ := zA h
 refine zCS (mb 16 1) [] (s1 := ⟨I o8 :: bt 15 [], []⟩) ?_ ?_
 ·clear h
  refine zN (jM (fun n s => ∃ (a5 : Int) (b6 : Int), s.keep (mb 16 3) [] = (⟨I a5 :: I b6 :: bt 14 [], []⟩ : St) ∧ zA3 n a5 b6 = some o8) FU ⟨_, _,  kk, hLo8⟩ ?_)
  clear hLo8
  rintro n s ⟨a5, b6, hs, h⟩
  refine jF _ _ hs ?_
  clear hs
  cases n with
  | zero => cases h
  | succ n =>
   rw [zA3] at h
   refine zK ?_
   refine VE ?_
   refine VC h (fun h => ?_) (fun h => ?_)
   ·refine zH ?_
    show V _ _ _ _
    refine zN ?_
    obtain ⟨z10, hz10, h⟩ := zA h
    obtain ⟨b11, hb11, h⟩ := zT h
    refine zMP [0, 0, 0, 6, 3, 31] 6 (cdm 6 [168, 34, 522, 534, 165, 341]) (mb 16 3) [] (s1 := ⟨I b6 :: I b11 :: bt 14 [], []⟩) kk kk ?_ ?_
    ·refine DR 3 ?_
     refine DE_0 3 (I (Int.tmod a5 b6)) kk rfl rfl rfl (qS rfl) kk (zEy (k := .i64) (a := a5) (b := b6) rfl kk kk (zAA hz10)) 14 rfl ?_
     refine DA 2 ?_
     refine zM ?_
     subst hb11
     kernel_rfl
    exact ⟨n, Nat.lt_succ_self n, _, _,  kk, h⟩
   ·refine jE ?_
    obtain rfl := zB h
    show St.keep _ _ _ = _
    kernel_rfl
 show V _ _ _ _
 refine VE ?_
 cases h
 exact zF VT
theorem zFs : CfW Tryz.prog 182 := cfW Tryz.func182
theorem zGO {f1 : (Int × Int × Int)} {r : Int} (h : zA9 f1 = some r) : zV Tryz.prog 182 [.ag [Ti f1.1, Ti f1.2.1, Ti f1.2.2]] (I r) [] := by
 refine CtW [2] Tryz.func182 rfl rfl 11 ?_
 unfold zA9 at h
 refine VE ?_
 obtain ⟨y2, hy2, h⟩ := zA h
 obtain ⟨y3, hy3, h⟩ := zA h
 refine VDS [0, 1, 0, 4, 15, 0, 32, 127, 255] 9 (cdm 9 [10400, 10401, 10250, 10266, 10325, 682, 1706, 5461, 21845]) ?_
 refine EK 4 (zDh hy2) zDS ?_
 refine EK 2 (zDh hy3) zDS ?_
 refine EF 1 ?_
 cases h
 exact zF VT
theorem zLx : CfW Tryz.prog 251 := cfW Tryz.func251
theorem s_spec_reList {d1 : Int} {r : List ((Int × Int × Int))} (h : zDw d1 = some r) : zV Tryz.prog 251 [I d1] (.ow 0) [(0, .arr 38 3 (r.map c38))] := by
 refine CtW [2] Tryz.func251 rfl rfl 22 ?_
 unfold zDw at h
 refine VS ?_
 refine L1 rfl rfl (zAc (e := 38) 3 (by decide) (.inl rfl)) ?_
 refine YF ?_
 refine VS ?_
 refine L1 rfl rfl (zAc (e := 38) 3 (by decide) (.inl rfl)) ?_
 refine YF ?_
 refine zK ?_
 obtain ⟨y2, hy2, h⟩ := zA h
 refine VS ?_
 refine YK 1 (s_spec_reAll hy2) cf_spec_reAll ?_
 refine L0 rfl rfl (qQ (c := c38) (xs := y2) Tryz.underlying59 rfl kk) ?_
 refine YF ?_
 obtain ⟨o6, hLo6, h⟩ := zA h
 refine zCS (mb 22 8) [24] (s1 := ⟨bt 3 (.ow 24 :: bt 18 []), [(24, .arr 38 3 (o6.map c38))]⟩) ?_ ?_
 ·clear h
  refine zN (jM (fun n s => ∃ (t3 : Int) (l4 : List ((Int × Int × Int))), s.keep (mb 22 904) [56, 24] = (⟨bt 3 (.ow 24 :: bt 3 (.ow 56 :: I ((y2.length : Int)) :: I t3 :: bt 12 [])), [(56, .arr 38 3 (y2.map c38)), (24, .arr 38 3 (l4.map c38))]⟩ : St) ∧ zB4 y2 n t3 l4 = some o6) FU ⟨_, _,  kk, hLo6⟩ ?_)
  clear hLo6
  rintro n s ⟨t3, l4, hs, h⟩
  refine jF _ _ hs ?_
  clear hs
  cases n with
  | zero => cases h
  | succ n =>
   rw [zB4] at h
   refine VE ?_
   refine zK ?_
   refine VC h (fun h => ?_) (fun h => ?_)
   ·refine zH ?_
    show V _ _ _ _
    refine zK ?_
    refine zN ?_
    obtain ⟨e8, he8, h⟩ := zA h
    obtain ⟨e9, he9, h⟩ := zA h
    refine VS ?_
    refine L0 rfl rfl (zAV (c := c38) (xs := y2) (v := e8) (id := 56) (T := 38) (sz := 3) (n := t3) Tryz.underlying59 sz38 rfl kk kk kk he8) ?_
    refine L0 rfl rfl (zIG (c := c38) (xs := y2) (v := e9) (id := 56) (sz := 3) (T := 38) (off := 0) (n := t3) [Ti e9.1, Ti e9.2.1, Ti e9.2.2] wd38 rfl kk kk he9 (Nat.le_of_ble_eq_true rfl) kk) ?_
    refine YF ?_
    obtain ⟨y10, hy10, h⟩ := zA h
    refine VS ?_
    refine YK 1 (zGO hy10) zFs ?_
    refine YF ?_
    refine VC h (fun h => ?_) (fun h => ?_)
    ·obtain ⟨u12, hu12, h⟩ := zA h
     refine zY ?_
     refine YR 2 ?_
     refine L1 rfl rfl (qP (z := zv38) (els := [e9].map c38) Tryz.underlying59 iz38 rfl (by decide) rfl kk rfl (by simp [c38]) (by decide) (by decide)) ?_
     refine zL rfl (zAn (c := c38) (xs := l4) (ys := [e9]) (id := 24) (z := zv38) rfl rfl Tryz.underlying59 izb38 rfl kk kk kk (fun _ => rfl) (by simp) (zAK hu12) (by decide)) ?_
     refine YF ?_
     show V _ _ _ _
     obtain ⟨t13, ht13, h⟩ := zT h
     refine jC (mb 22 904) [56, 24] (s1 := ⟨bt 3 (.ow 24 :: bt 3 (.ow 56 :: I ((y2.length : Int)) :: I t13 :: bt 12 [])), [(56, .arr 38 3 (y2.map c38)), (24, .arr 38 3 ((l4 ++ ([e9])).map c38))]⟩) ?_ ?_
     ·refine XR 2 ?_
      refine zM ?_
      subst ht13
      kernel_rfl
     exact ⟨n, Nat.lt_succ_self n, _, _,  kk, h⟩
    ·refine zH ?_
     show V _ _ _ _
     obtain ⟨t14, ht14, h⟩ := zT h
     refine jC (mb 22 904) [56, 24] (s1 := ⟨bt 3 (.ow 24 :: bt 3 (.ow 56 :: I ((y2.length : Int)) :: I t14 :: bt 12 [])), [(56, .arr 38 3 (y2.map c38)), (24, .arr 38 3 (l4.map c38))]⟩) ?_ ?_
     ·refine XR 2 ?_
      refine zM ?_
      subst ht14
      kernel_rfl
     exact ⟨n, Nat.lt_succ_self n, _, _,  kk, h⟩
   ·refine jE ?_
    obtain rfl := zB h
    show St.keep _ _ _ = _
    kernel_rfl
 show V _ _ _ _
 refine VE ?_
 cases h
 exact zF VT
theorem zDW : CfW Tryz.prog 197 := cfW Tryz.func197
theorem zD4 {c1 : ((List Int) × Int × Int)} {d2 : Int} {r : (((Int × Int × Int)) × (((List Int) × Int × Int)))} (h : zAZ c1 d2 = some r) : zDq Tryz.prog 197 [.pt 80000 0, I d2] [(80000, .box [.sl (c1.1.map c5), Ti c1.2.1, .v (.int .u64 c1.2.2)])] (.ag [Ti r.1.1, Ti r.1.2.1, Ti r.1.2.2]) [] [(80000, .box [.sl (r.2.1.map c5), Ti r.2.2.1, .v (.int .u64 r.2.2.2)])] := by
 refine qT (rs := [.w 4 3]) (vs := [.cell 4 38]) Tryz.func197 rfl rfl (.cons ⟨rfl, wd38⟩ FitsL.nil) (by decide) 15 rfl rfl fun σ => ?_
 unfold zAZ at h
 show V _ _ ⟨.pt 80000 0 :: I d2 :: bt 13 [], [(80000, .pbox (σ 80000) [.sl (c1.1.map c5), Ti c1.2.1, .v (.int .u64 c1.2.2)])]⟩ _
 refine VE ?_
 obtain ⟨y3, hy3, h⟩ := zA h
 refine VS ?_
 refine YK 1 (s_spec_reList hy3) zLx ?_
 refine YF ?_
 obtain ⟨y4, hy4, h⟩ := zA h
 obtain ⟨e5, he5, h⟩ := zA h
 obtain ⟨e6, he6, h⟩ := zA h
 refine VS ?_
 refine YR 3 ?_
 refine L0 rfl rfl (qQ (c := c38) (xs := y3) Tryz.underlying59 rfl kk) ?_
 refine zL rfl (zS [(80000, 80000)] 12 (zI hy4) zG rfl rfl kk rfl (zR kk zX) rfl kk rfl rfl rfl) ?_
 refine L0 rfl rfl (zAV (c := c38) (xs := y3) (v := e5) (id := 56) (T := 38) (sz := 3) (n := y4.1) Tryz.underlying59 sz38 rfl kk kk kk he5) ?_
 refine L0 rfl rfl (zIG (c := c38) (xs := y3) (v := e6) (id := 56) (sz := 3) (T := 38) (off := 0) (n := y4.1) [Ti e6.1, Ti e6.2.1, Ti e6.2.2] wd38 rfl kk kk he6 (Nat.le_of_ble_eq_true rfl) kk) ?_
 refine YF ?_
 cases h
 exact zF VTR
theorem zCe : CfW Tryz.prog 237 := cfW Tryz.func237
theorem zDA {vm1 : (Int × Int × Int × Int)} {vn2 : (Int × Int × Int × Int)} {r : (Int × Int × Int × Int)} (h : qO vm1 vn2 = some r) : zV Tryz.prog 237 [.ag [Ti vm1.1, Ti vm1.2.1, Ti vm1.2.2.1, Ti vm1.2.2.2], .ag [Ti vn2.1, Ti vn2.2.1, Ti vn2.2.2.1, Ti vn2.2.2.2]] (.ag [Ti r.1, Ti r.2.1, Ti r.2.2.1, Ti r.2.2.2]) [] := by
 refine zZ (rs := [.w 4 4]) (vs := [.cell 4 109]) Tryz.func237 rfl rfl (.cons ⟨rfl, zGJ⟩ FitsL.nil) (by decide) 50 rfl ?_
 unfold qO at h
 refine VE ?_
 obtain ⟨f3, hf3, h⟩ := zT h
 obtain ⟨f4, hf4, h⟩ := zT h
 obtain ⟨f5, hf5, h⟩ := zT h
 obtain ⟨f6, hf6, h⟩ := zT h
 refine zO (mb 50 16) [32] (s1 := ⟨bt 4 (.pt 32 0 :: bt 45 []), [(32, .box [Ti f3, Ti f4, Ti f5, Ti f6])]⟩) ?_ ?_
 ·refine XR 44 ?_
  refine L0 rfl rfl (zW (cs := [Ti (w64 ((w64 (vm1.1 * vn2.1)) + (w64 (vm1.2.1 * vn2.2.2.1)))), Ti (w64 ((w64 (vm1.1 * vn2.2.1)) + (w64 (vm1.2.1 * vn2.2.2.2)))), Ti (w64 ((w64 (vm1.2.2.1 * vn2.1)) + (w64 (vm1.2.2.2 * vn2.2.2.1)))), Ti (w64 ((w64 (vm1.2.2.1 * vn2.2.1)) + (w64 (vm1.2.2.2 * vn2.2.2.2))))]) zE7 zEo rfl rfl kk) ?_
  refine XR 1 ?_
  refine zM ?_
  subst hf3 hf4 hf5 hf6
  kernel_rfl
 cases h
 exact zF VT
theorem zC7 : CfW Tryz.prog 199 := cfW Tryz.func199
theorem zCh {c1 : ((List Int) × Int × Int)} {r : (((Int × Int × Int × Int)) × (((List Int) × Int × Int)))} (h : zBw c1 = some r) : zDq Tryz.prog 199 [.pt 80000 0] [(80000, .box [.sl (c1.1.map c5), Ti c1.2.1, .v (.int .u64 c1.2.2)])] (.ag [Ti r.1.1, Ti r.1.2.1, Ti r.1.2.2.1, Ti r.1.2.2.2]) [] [(80000, .box [.sl (r.2.1.map c5), Ti r.2.2.1, .v (.int .u64 r.2.2.2)])] := by
 refine qT (rs := [.w 2 4]) (vs := [.cell 2 109]) Tryz.func199 rfl rfl (.cons ⟨rfl, zGJ⟩ FitsL.nil) (by decide) 34 rfl rfl fun σ => ?_
 unfold zBw at h
 show V _ _ ⟨.pt 80000 0 :: bt 33 [], [(80000, .pbox (σ 80000) [.sl (c1.1.map c5), Ti c1.2.1, .v (.int .u64 c1.2.2)])]⟩ _
 refine VE ?_
 refine VS ?_
 refine L0 rfl rfl (zW (cs := [Ti 1, Ti 0, Ti 0, Ti 1]) zE7 zEo rfl rfl kk) ?_
 refine YF ?_
 refine zK ?_
 obtain ⟨y2, hy2, h⟩ := zA h
 refine VS ?_
 refine YR 1 ?_
 refine zL rfl (zS [(80000, 80000)] 8 (zI hy2) zG rfl rfl kk rfl (zR kk zX) rfl kk rfl rfl rfl) ?_
 refine YF ?_
 obtain ⟨o12, hLo12, h⟩ := zA h
 refine zCS (mb 34 12) [24, 16, 80000] (s1 := ⟨.bot :: .bot :: .pt 16 0 :: .pt 24 0 :: bt 30 [], [(24, .box [Ti o12.1, Ti o12.2.1, Ti o12.2.2.1, Ti o12.2.2.2.1]), (16, .box [Ti 0, Ti 0, Ti 0, Ti 0]), (80000, .pbox (σ 80000) [.sl (o12.2.2.2.2.1.map c5), Ti o12.2.2.2.2.2.1, .v (.int .u64 o12.2.2.2.2.2.2)])]⟩) ?_ ?_
 ·clear h
  refine zN (jM (fun n s => ∃ (k3 : Int) (f4 : Int) (f5 : Int) (f6 : Int) (f7 : Int) (f8 : List Int) (f9 : Int) (f10 : Int), s.keep (mb 34 29) [24, 16, 80000] = (⟨.pt 80000 0 :: .bot :: .pt 16 0 :: .pt 24 0 :: I k3 :: bt 29 [], [(24, .box [Ti f4, Ti f5, Ti f6, Ti f7]), (16, .box [Ti 0, Ti 0, Ti 0, Ti 0]), (80000, .pbox (σ 80000) [.sl (f8.map c5), Ti f9, .v (.int .u64 f10)])]⟩ : St) ∧ jB n k3 f4 f5 f6 f7 f8 f9 f10 = some o12) FU ⟨_, _, _, _, _, _, _, _,  kk, hLo12⟩ ?_)
  clear hLo12
  rintro n s ⟨k3, f4, f5, f6, f7, f8, f9, f10, hs, h⟩
  refine jF _ _ hs ?_
  clear hs
  cases n with
  | zero => cases h
  | succ n =>
   rw [jB] at h
   refine zK ?_
   refine VE ?_
   refine VC h (fun h => ?_) (fun h => ?_)
   ·refine zH ?_
    show V _ _ _ _
    refine zK ?_
    refine zN ?_
    obtain ⟨y14, hy14, h⟩ := zA h
    obtain ⟨t15, ht15, h⟩ := zT h
    refine zO (mb 34 61) [24, 16, 80000] (s1 := ⟨.pt 80000 0 :: .bot :: .pt 16 0 :: .pt 24 0 :: I k3 :: I t15 :: bt 28 [], [(24, .box [Ti f4, Ti f5, Ti f6, Ti f7]), (16, .box [Ti 0, Ti 0, Ti 0, Ti 0]), (80000, .pbox (σ 80000) [.sl (y14.2.1.map c5), Ti y14.2.2.1, .v (.int .u64 y14.2.2.2)])]⟩) ?_ ?_
    ·refine XR 1 ?_
     refine zL rfl (zS [(80000, 80000)] 14 (zI hy14) zG rfl rfl kk rfl (zR kk zX) rfl kk rfl rfl rfl) ?_
     refine XR 2 ?_
     refine zM ?_
     subst ht15
     kernel_rfl
    obtain ⟨y16, hy16, h⟩ := zA h
    refine VS ?_
    refine YR 1 ?_
    refine zL rfl (zS [(80000, 80000)] 17 (zI hy16) zG rfl rfl kk rfl (zR kk zX) rfl kk rfl rfl rfl) ?_
    refine YF ?_
    refine zN ?_
    refine VE ?_
    refine VC h (fun h => ?_) (fun h => ?_)
    ·obtain ⟨y18, hy18, h⟩ := zA h
     refine zY ?_
     refine YR 2 ?_
     refine L0 rfl rfl (zW (cs := [Ti 1, Ti t15, Ti 0, Ti 1]) zE7 zEo rfl rfl kk) ?_
     refine YK 0 (zDA hy18) zCe ?_
     refine YF ?_
     show V _ _ _ _
     obtain ⟨k19, hk19, h⟩ := zT h
     refine jC (mb 34 29) [24, 16, 80000] (s1 := ⟨.pt 80000 0 :: .bot :: .pt 16 0 :: .pt 24 0 :: I k19 :: bt 29 [], [(24, .box [Ti y18.1, Ti y18.2.1, Ti y18.2.2.1, Ti y18.2.2.2]), (16, .box [Ti 0, Ti 0, Ti 0, Ti 0]), (80000, .pbox (σ 80000) [.sl (y16.2.1.map c5), Ti y16.2.2.1, .v (.int .u64 y16.2.2.2)])]⟩) ?_ ?_
     ·refine XR 3 ?_
      refine zM ?_
      subst hk19
      kernel_rfl
     exact ⟨n, Nat.lt_succ_self n, _, _, _, _, _, _, _, _,  kk, h⟩
    ·refine VE ?_
     refine VC h (fun h => ?_) (fun h => ?_)
     ·obtain ⟨y21, hy21, h⟩ := zA h
      refine zY ?_
      refine YR 2 ?_
      refine L0 rfl rfl (zW (cs := [Ti 1, Ti 0, Ti t15, Ti 1]) zE7 zEo rfl rfl kk) ?_
      refine YK 0 (zDA hy21) zCe ?_
      refine YF ?_
      show V _ _ _ _
      obtain ⟨k22, hk22, h⟩ := zT h
      refine jC (mb 34 29) [24, 16, 80000] (s1 := ⟨.pt 80000 0 :: .bot :: .pt 16 0 :: .pt 24 0 :: I k22 :: bt 29 [], [(24, .box [Ti y21.1, Ti y21.2.1, Ti y21.2.2.1, Ti y21.2.2.2]), (16, .box [Ti 0, Ti 0, Ti 0, Ti 0]), (80000, .pbox (σ 80000) [.sl (y16.2.1.map c5), Ti y16.2.2.1, .v (.int .u64 y16.2.2.2)])]⟩) ?_ ?_
      ·refine XR 3 ?_
       refine zM ?_
       subst hk22
       kernel_rfl
      exact ⟨n, Nat.lt_succ_self n, _, _, _, _, _, _, _, _,  kk, h⟩
     ·obtain ⟨y23, hy23, h⟩ := zA h
      refine zY ?_
      refine YR 1 ?_
      refine L0 rfl rfl (zW (cs := [Ti 0, Ti (-1), Ti 1, Ti 0]) zE7 zEo rfl rfl kk) ?_
      refine YK 0 (zDA hy23) zCe ?_
      refine YF ?_
      show V _ _ _ _
      obtain ⟨k24, hk24, h⟩ := zT h
      refine jC (mb 34 29) [24, 16, 80000] (s1 := ⟨.pt 80000 0 :: .bot :: .pt 16 0 :: .pt 24 0 :: I k24 :: bt 29 [], [(24, .box [Ti y23.1, Ti y23.2.1, Ti y23.2.2.1, Ti y23.2.2.2]), (16, .box [Ti 0, Ti 0, Ti 0, Ti 0]), (80000, .pbox (σ 80000) [.sl (y16.2.1.map c5), Ti y16.2.2.1, .v (.int .u64 y16.2.2.2)])]⟩) ?_ ?_
      ·refine XR 3 ?_
       refine zM ?_
       subst hk24
       kernel_rfl
      exact ⟨n, Nat.lt_succ_self n, _, _, _, _, _, _, _, _,  kk, h⟩
   ·refine jE ?_
    obtain rfl := zB h
    show St.keep _ _ _ = _
    kernel_rfl
 show V _ _ _ _
 refine VE ?_
 cases h
 exact zF VTR
theorem zEM : CfW Tryz.prog 150 := cfW Tryz.func150
theorem zE2 {f1 : (Int × Int × Int)} {x2 : Int} {y3 : Int} {r : Int} (h : zBK f1 x2 y3 = some r) : zV Tryz.prog 150 [.ag [Ti f1.1, Ti f1.2.1, Ti f1.2.2], I x2, I y3] (I r) [] := by
 refine CtW [6] Tryz.func150 rfl rfl 27 ?_
 unfold zBK at h
 refine VE ?_
 obtain ⟨t4, ht4, h⟩ := zT h
 refine zO (mb 27 64) [] (s1 := ⟨bt 6 (I t4 :: bt 20 []), []⟩) ?_ ?_
 ·refine XR 21 ?_
  refine zM ?_
  subst ht4
  kernel_rfl
 cases h
 exact zF VT
theorem zHE : CfW Tryz.prog 252 := cfW Tryz.func252
theorem zH0 {f1 : (Int × Int × Int)} {x2 : Int} {y3 : Int} {u4 : Int} {v5 : Int} {r : Int} (h : zCp f1 x2 y3 u4 v5 = some r) : zV Tryz.prog 252 [.ag [Ti f1.1, Ti f1.2.1, Ti f1.2.2], I x2, I y3, I u4, I v5] (I r) [] := by
 refine CtW [10] Tryz.func252 rfl rfl 37 ?_
 unfold zCp at h
 refine VE ?_
 obtain ⟨t6, ht6, h⟩ := zT h
 refine zO (mb 37 1024) [] (s1 := ⟨bt 10 (I t6 :: bt 26 []), []⟩) ?_ ?_
 ·refine XR 27 ?_
  refine zM ?_
  subst ht6
  kernel_rfl
 cases h
 exact zF VT
theorem zGH : CfW Tryz.prog 198 := cfW Tryz.func198
theorem zGd {f1 : (Int × Int × Int)} {vm2 : (Int × Int × Int × Int)} {r : (Int × Int × Int)} (h : zDG f1 vm2 = some r) : zV Tryz.prog 198 [.ag [Ti f1.1, Ti f1.2.1, Ti f1.2.2], .ag [Ti vm2.1, Ti vm2.2.1, Ti vm2.2.2.1, Ti vm2.2.2.2]] (.ag [Ti r.1, Ti r.2.1, Ti r.2.2]) [] := by
 refine zZ (rs := [.w 4 3]) (vs := [.cell 4 38]) Tryz.func198 rfl rfl (.cons ⟨rfl, wd38⟩ FitsL.nil) (by decide) 28 rfl ?_
 unfold zDG at h
 refine VE ?_
 obtain ⟨y3, hy3, h⟩ := zA h
 obtain ⟨y4, hy4, h⟩ := zA h
 obtain ⟨y5, hy5, h⟩ := zA h
 refine VDS [0, 0, 2, 0, 8, 31, 0, 0, 128, 0, 512, 0, 2048, 0, 8192, 32767, 0, 0, 131072, 0, 524288, 2097151, 4194303, 8388607] 23 (cdm 23 [2929883521704, 2929883521666, 2929883521670, 2929883521066, 2929883521130, 2929883521365, 2929883515562, 2929883359914, 2929883376298, 2929880902314, 2929881164458, 2929841580714, 2929845775018, 2929212435114, 2929279543978, 2929525609813, 2923441072810, 2760232315562, 2777412184746, 183251937962, 458129844906, 1466015503701, 5864062014805]) ?_
 refine EK 5 (zE2 hy3) zEM ?_
 refine EK 9 (zH0 hy4) zHE ?_
 refine EK 5 (zE2 hy5) zEM ?_
 refine E0 22 rfl rfl (zW (cs := [Ti y3, Ti y4, Ti y5]) pl38 bt38 rfl rfl kk) ?_
 refine EF 0 ?_
 cases h
 exact zF VT
theorem zFf : CfW Tryz.prog 211 := cfW Tryz.func211
theorem zFw {vn1 : Int} {r : Bool} (h : zCb vn1 = some r) : zV Tryz.prog 211 [I vn1] (Bo r) [] := by
 refine CtW [2] Tryz.func211 rfl rfl 5 ?_
 unfold zCb at h
 refine VE ?_
 obtain ⟨y2, hy2, h⟩ := zA h
 refine VS ?_
 refine YK 1 (zET hy2) zDp ?_
 refine YF ?_
 cases h
 exact zF VT
theorem zHu : CfW Tryz.prog 200 := cfW Tryz.func200
theorem zI6 {f1 : (Int × Int × Int)} {r : Bool} (h : zDQ f1 = some r) : zV Tryz.prog 200 [.ag [Ti f1.1, Ti f1.2.1, Ti f1.2.2]] (Bo r) [] := by
 refine CtW [2] Tryz.func200 rfl rfl 16 ?_
 unfold zDQ at h
 refine VE ?_
 obtain ⟨y2, hy2, h⟩ := zA h
 obtain ⟨b5, hb5, h⟩ := zA h
 obtain ⟨b8, hb8, h⟩ := zA h
 refine zO (mb 16 4) [] (s1 := ⟨.bot :: .bot :: Bo b8 :: bt 13 [], []⟩) ?_ ?_
 ·refine YK 2 (zFw hy2) zFf ?_
  refine YR 1 ?_
  refine zE y2 (fun hc3 => ?_) (fun hc3 => ?_)
  ·have hb5 := qH hb5 hc3
   obtain ⟨y4, hy4, hb5⟩ := zA hb5
   have hb5 := zB hb5
   refine YQ hc3 ?_
   refine YK 2 (zFw hy4) zFf ?_
   refine YR 2 ?_
   refine zE b5 (fun hc6 => ?_) (fun hc6 => ?_)
   ·have hb8 := qH hb8 hc6
    obtain ⟨y7, hy7, hb8⟩ := zA hb8
    have hb8 := zB hb8
    refine YQ hc6 ?_ (by rw [← hb5]; (try rw [← hb8]); (try rw [hc3]); kernel_rfl)
    refine YK 2 (zFw hy7) zFf ?_
    exact YE (by rw [← hb8]; (try rw [hc3]); (try rw [hc6]); kernel_rfl)
   ·have hb8 := zB (z7 hb8 hc6)
    refine YQ hc6 ?_ (by rw [← hb5]; (try rw [← hb8]); (try rw [hc3]); kernel_rfl)
    exact YE (by rw [← hb8]; (try rw [hc3]); (try rw [hc6]); kernel_rfl)
  ·have hb5 := zB (z7 hb5 hc3)
   refine YQ hc3 ?_
   refine YR 5 ?_
   subst hb5
   have hc6 : false = false := rfl
   have hb8 := zB (z7 hb8 hc6)
   exact YE (by rw [← hb8]; (try rw [hc3]); kernel_rfl)
 cases h
 exact zF VT
theorem zCi : CfW Tryz.prog 123 := cfW Tryz.func123
theorem zCy {c1 : ((List Int) × Int × Int)} {f2 : (Int × Int × Int)} {r : (((Int × Int × Int)) × (((List Int) × Int × Int)))} (h : zAG c1 f2 = some r) : zDq Tryz.prog 123 [.pt 80000 0, .ag [Ti f2.1, Ti f2.2.1, Ti f2.2.2]] [(80000, .box [.sl (c1.1.map c5), Ti c1.2.1, .v (.int .u64 c1.2.2)])] (.ag [Ti r.1.1, Ti r.1.2.1, Ti r.1.2.2]) [] [(80000, .box [.sl (r.2.1.map c5), Ti r.2.2.1, .v (.int .u64 r.2.2.2)])] := by
 refine qT (rs := [.w 4 3]) (vs := [.cell 4 38]) Tryz.func123 rfl rfl (.cons ⟨rfl, wd38⟩ FitsL.nil) (by decide) 15 rfl rfl fun σ => ?_
 unfold zAG at h
 show V _ _ ⟨.pt 80000 0 :: .ag [Ti f2.1, Ti f2.2.1, Ti f2.2.2] :: bt 13 [], [(80000, .pbox (σ 80000) [.sl (c1.1.map c5), Ti c1.2.1, .v (.int .u64 c1.2.2)])]⟩ _
 refine VE ?_
 obtain ⟨y3, hy3, h⟩ := zA h
 obtain ⟨y4, hy4, h⟩ := zA h
 refine jF (mb 15 25) [32, 24, 80000] (s' := ⟨.pt 80000 0 :: .bot :: .bot :: .pt 24 0 :: .pt 32 0 :: bt 10 [], [(32, .box [Ti 0, Ti 0, Ti 0]), (24, .box [Ti f2.1, Ti f2.2.1, Ti f2.2.2]), (80000, .pbox (σ 80000) [.sl (c1.1.map c5), Ti c1.2.1, .v (.int .u64 c1.2.2)])]⟩) kk ?_
 refine V_sdagK (mb 15 56) [40, 32, 24, 80000] [0, 0, 2, 7, 0, 31] [(0, ⟨.pt 80000 0 :: .bot :: .bot :: .pt 24 0 :: .pt 32 0 :: bt 10 [], [(32, .box [Ti 0, Ti 0, Ti 0]), (24, .box [Ti f2.1, Ti f2.2.1, Ti f2.2.2]), (80000, .pbox (σ 80000) [.sl (c1.1.map c5), Ti c1.2.1, .v (.int .u64 c1.2.2)])]⟩), (1, ⟨.pt 80000 0 :: .bot :: .bot :: .pt 24 0 :: .pt 32 0 :: .bot :: .ag [Ti f2.1, Ti f2.2.1, Ti f2.2.2] :: bt 8 [], [(32, .box [Ti 0, Ti 0, Ti 0]), (24, .box [Ti f2.1, Ti f2.2.1, Ti f2.2.2]), (80000, .pbox (σ 80000) [.sl (c1.1.map c5), Ti c1.2.1, .v (.int .u64 c1.2.2)])]⟩), (2, ⟨.pt 80000 0 :: .bot :: .bot :: .pt 24 0 :: .pt 32 0 :: .bot :: .bot :: .pt 80000 0 :: bt 7 [], [(32, .box [Ti 0, Ti 0, Ti 0]), (24, .box [Ti f2.1, Ti f2.2.1, Ti f2.2.2]), (80000, .pbox (σ 80000) [.sl (c1.1.map c5), Ti c1.2.1, .v (.int .u64 c1.2.2)])]⟩), (3, ⟨.pt 80000 0 :: .bot :: .bot :: .pt 24 0 :: .pt 32 0 :: .bot :: .ag [Ti f2.1, Ti f2.2.1, Ti f2.2.2] :: .pt 80000 0 :: bt 7 [], [(32, .box [Ti 0, Ti 0, Ti 0]), (24, .box [Ti f2.1, Ti f2.2.1, Ti f2.2.2]), (80000, .pbox (σ 80000) [.sl (c1.1.map c5), Ti c1.2.1, .v (.int .u64 c1.2.2)])]⟩), (6, ⟨.pt 80000 0 :: .bot :: .bot :: .pt 24 0 :: .pt 32 0 :: .bot :: .bot :: .pt 80000 0 :: .ag [Ti y3.1.1, Ti y3.1.2.1, Ti y3.1.2.2.1, Ti y3.1.2.2.2] :: bt 6 [], [(32, .box [Ti 0, Ti 0, Ti 0]), (24, .box [Ti f2.1, Ti f2.2.1, Ti f2.2.2]), (80000, .pbox (σ 80000) [.sl (y3.2.1.map c5), Ti y3.2.2.1, .v (.int .u64 y3.2.2.2)])]⟩), (7, ⟨.pt 80000 0 :: .bot :: .bot :: .pt 24 0 :: .pt 32 0 :: .bot :: .ag [Ti f2.1, Ti f2.2.1, Ti f2.2.2] :: .pt 80000 0 :: .ag [Ti y3.1.1, Ti y3.1.2.1, Ti y3.1.2.2.1, Ti y3.1.2.2.2] :: bt 6 [], [(32, .box [Ti 0, Ti 0, Ti 0]), (24, .box [Ti f2.1, Ti f2.2.1, Ti f2.2.2]), (80000, .pbox (σ 80000) [.sl (y3.2.1.map c5), Ti y3.2.2.1, .v (.int .u64 y3.2.2.2)])]⟩), (15, ⟨.pt 80000 0 :: .bot :: .bot :: .pt 24 0 :: .pt 32 0 :: .bot :: .ag [Ti f2.1, Ti f2.2.1, Ti f2.2.2] :: .pt 80000 0 :: .ag [Ti y3.1.1, Ti y3.1.2.1, Ti y3.1.2.2.1, Ti y3.1.2.2.2] :: .ag [Ti y4.1, Ti y4.2.1, Ti y4.2.2] :: bt 5 [], [(32, .box [Ti 0, Ti 0, Ti 0]), (24, .box [Ti f2.1, Ti f2.2.1, Ti f2.2.2]), (80000, .pbox (σ 80000) [.sl (y3.2.1.map c5), Ti y3.2.2.1, .v (.int .u64 y3.2.2.2)])]⟩), (16, ⟨.pt 80000 0 :: .bot :: .bot :: .pt 24 0 :: .pt 32 0 :: .pt 40 0 :: bt 9 [], [(40, .box [Ti 0, Ti 0, Ti 0]), (32, .box [Ti 0, Ti 0, Ti 0]), (24, .box [Ti f2.1, Ti f2.2.1, Ti f2.2.2]), (80000, .pbox (σ 80000) [.sl (c1.1.map c5), Ti c1.2.1, .v (.int .u64 c1.2.2)])]⟩), (17, ⟨.pt 80000 0 :: .bot :: .bot :: .pt 24 0 :: .pt 32 0 :: .pt 40 0 :: .ag [Ti f2.1, Ti f2.2.1, Ti f2.2.2] :: bt 8 [], [(40, .box [Ti 0, Ti 0, Ti 0]), (32, .box [Ti 0, Ti 0, Ti 0]), (24, .box [Ti f2.1, Ti f2.2.1, Ti f2.2.2]), (80000, .pbox (σ 80000) [.sl (c1.1.map c5), Ti c1.2.1, .v (.int .u64 c1.2.2)])]⟩), (18, ⟨.pt 80000 0 :: .bot :: .bot :: .pt 24 0 :: .pt 32 0 :: .pt 40 0 :: .bot :: .pt 80000 0 :: bt 7 [], [(40, .box [Ti 0, Ti 0, Ti 0]), (32, .box [Ti 0, Ti 0, Ti 0]), (24, .box [Ti f2.1, Ti f2.2.1, Ti f2.2.2]), (80000, .pbox (σ 80000) [.sl (c1.1.map c5), Ti c1.2.1, .v (.int .u64 c1.2.2)])]⟩), (19, ⟨.pt 80000 0 :: .bot :: .bot :: .pt 24 0 :: .pt 32 0 :: .pt 40 0 :: .ag [Ti f2.1, Ti f2.2.1, Ti f2.2.2] :: .pt 80000 0 :: bt 7 [], [(40, .box [Ti 0, Ti 0, Ti 0]), (32, .box [Ti 0, Ti 0, Ti 0]), (24, .box [Ti f2.1, Ti f2.2.1, Ti f2.2.2]), (80000, .pbox (σ 80000) [.sl (c1.1.map c5), Ti c1.2.1, .v (.int .u64 c1.2.2)])]⟩), (22, ⟨.pt 80000 0 :: .bot :: .bot :: .pt 24 0 :: .pt 32 0 :: .pt 40 0 :: .bot :: .pt 80000 0 :: .ag [Ti y3.1.1, Ti y3.1.2.1, Ti y3.1.2.2.1, Ti y3.1.2.2.2] :: bt 6 [], [(40, .box [Ti 0, Ti 0, Ti 0]), (32, .box [Ti 0, Ti 0, Ti 0]), (24, .box [Ti f2.1, Ti f2.2.1, Ti f2.2.2]), (80000, .pbox (σ 80000) [.sl (y3.2.1.map c5), Ti y3.2.2.1, .v (.int .u64 y3.2.2.2)])]⟩), (23, ⟨.pt 80000 0 :: .bot :: .bot :: .pt 24 0 :: .pt 32 0 :: .pt 40 0 :: .ag [Ti f2.1, Ti f2.2.1, Ti f2.2.2] :: .pt 80000 0 :: .ag [Ti y3.1.1, Ti y3.1.2.1, Ti y3.1.2.2.1, Ti y3.1.2.2.2] :: bt 6 [], [(40, .box [Ti 0, Ti 0, Ti 0]), (32, .box [Ti 0, Ti 0, Ti 0]), (24, .box [Ti f2.1, Ti f2.2.1, Ti f2.2.2]), (80000, .pbox (σ 80000) [.sl (y3.2.1.map c5), Ti y3.2.2.1, .v (.int .u64 y3.2.2.2)])]⟩), (31, ⟨.pt 80000 0 :: .bot :: .bot :: .pt 24 0 :: .pt 32 0 :: .pt 40 0 :: .ag [Ti f2.1, Ti f2.2.1, Ti f2.2.2] :: .pt 80000 0 :: .ag [Ti y3.1.1, Ti y3.1.2.1, Ti y3.1.2.2.1, Ti y3.1.2.2.2] :: .ag [Ti y4.1, Ti y4.2.1, Ti y4.2.2] :: bt 5 [], [(40, .box [Ti 0, Ti 0, Ti 0]), (32, .box [Ti 0, Ti 0, Ti 0]), (24, .box [Ti f2.1, Ti f2.2.1, Ti f2.2.2]), (80000, .pbox (σ 80000) [.sl (y3.2.1.map c5), Ti y3.2.2.1, .v (.int .u64 y3.2.2.2)])]⟩), (63, ⟨.pt 80000 0 :: .bot :: .bot :: .pt 24 0 :: .pt 32 0 :: .pt 40 0 :: .ag [Ti f2.1, Ti f2.2.1, Ti f2.2.2] :: .pt 80000 0 :: .ag [Ti y3.1.1, Ti y3.1.2.1, Ti y3.1.2.2.1, Ti y3.1.2.2.2] :: .ag [Ti y4.1, Ti y4.2.1, Ti y4.2.2] :: bt 5 [], [(40, .box [Ti y4.1, Ti y4.2.1, Ti y4.2.2]), (32, .box [Ti 0, Ti 0, Ti 0]), (24, .box [Ti f2.1, Ti f2.2.1, Ti f2.2.2]), (80000, .pbox (σ 80000) [.sl (y3.2.1.map c5), Ti y3.2.2.1, .v (.int .u64 y3.2.2.2)])]⟩)] (s1 := ⟨bt 3 (.pt 24 0 :: .pt 32 0 :: .pt 40 0 :: bt 9 []), [(40, .box [Ti y4.1, Ti y4.2.1, Ti y4.2.2]), (32, .box [Ti 0, Ti 0, Ti 0]), (24, .box [Ti f2.1, Ti f2.2.1, Ti f2.2.2]), (80000, .pbox (σ 80000) [.sl (y3.2.1.map c5), Ti y3.2.2.1, .v (.int .u64 y3.2.2.2)])]⟩) kk kk kk ?_ ?_
 ·refine zDY [4, 1, 0] kk kk ?_ ?_
  ·refine jU (s2 := ⟨.pt 80000 0 :: .bot :: .bot :: .pt 24 0 :: .pt 32 0 :: .pt 40 0 :: bt 9 [], [(40, .box [Ti 0, Ti 0, Ti 0]), (32, .box [Ti 0, Ti 0, Ti 0]), (24, .box [Ti f2.1, Ti f2.2.1, Ti f2.2.2]), (80000, .pbox (σ 80000) [.sl (c1.1.map c5), Ti c1.2.1, .v (.int .u64 c1.2.2)])]⟩) rfl rfl (zBo rfl (zFM (z := zv38) rfl zf38 rfl)) kk rfl (zU kk (zU kk (zU kk (zU kk zCB)))) ?_
   refine jU (s2 := ⟨.pt 80000 0 :: .bot :: .bot :: .pt 24 0 :: .pt 32 0 :: .bot :: .bot :: .pt 80000 0 :: bt 7 [], [(32, .box [Ti 0, Ti 0, Ti 0]), (24, .box [Ti f2.1, Ti f2.2.1, Ti f2.2.2]), (80000, .pbox (σ 80000) [.sl (c1.1.map c5), Ti c1.2.1, .v (.int .u64 c1.2.2)])]⟩) rfl rfl (qB rfl (zK3 (.pt 80000 0) rfl kk)) kk rfl (zU kk (zU kk (zU kk zCB))) ?_
   refine jU (s2 := ⟨.pt 80000 0 :: .bot :: .bot :: .pt 24 0 :: .pt 32 0 :: .bot :: .ag [Ti f2.1, Ti f2.2.1, Ti f2.2.2] :: bt 8 [], [(32, .box [Ti 0, Ti 0, Ti 0]), (24, .box [Ti f2.1, Ti f2.2.1, Ti f2.2.2]), (80000, .pbox (σ 80000) [.sl (c1.1.map c5), Ti c1.2.1, .v (.int .u64 c1.2.2)])]⟩) rfl rfl (qB rfl (zGx (cs := [Ti f2.1, Ti f2.2.1, Ti f2.2.2]) [Ti f2.1, Ti f2.2.1, Ti f2.2.2] wd38 rfl kk (Nat.le_of_ble_eq_true rfl) kk)) kk rfl (zU kk (zU kk (zU kk zCB))) ?_
   exact zCZ
  refine zDY [4, 1] kk kk ?_ ?_
  ·refine jU (s2 := ⟨.pt 80000 0 :: .bot :: .bot :: .pt 24 0 :: .pt 32 0 :: .pt 40 0 :: .ag [Ti f2.1, Ti f2.2.1, Ti f2.2.2] :: bt 8 [], [(40, .box [Ti 0, Ti 0, Ti 0]), (32, .box [Ti 0, Ti 0, Ti 0]), (24, .box [Ti f2.1, Ti f2.2.1, Ti f2.2.2]), (80000, .pbox (σ 80000) [.sl (c1.1.map c5), Ti c1.2.1, .v (.int .u64 c1.2.2)])]⟩) rfl rfl (zBo rfl (zFM (z := zv38) rfl zf38 rfl)) kk rfl (zU kk (zU kk (zU kk (zU kk zCB)))) ?_
   refine jU (s2 := ⟨.pt 80000 0 :: .bot :: .bot :: .pt 24 0 :: .pt 32 0 :: .bot :: .ag [Ti f2.1, Ti f2.2.1, Ti f2.2.2] :: .pt 80000 0 :: bt 7 [], [(32, .box [Ti 0, Ti 0, Ti 0]), (24, .box [Ti f2.1, Ti f2.2.1, Ti f2.2.2]), (80000, .pbox (σ 80000) [.sl (c1.1.map c5), Ti c1.2.1, .v (.int .u64 c1.2.2)])]⟩) rfl rfl (qB rfl (zK3 (.pt 80000 0) rfl kk)) kk rfl (zU kk (zU kk (zU kk zCB))) ?_
   exact zCZ
  refine zDY [4, 2, 0] kk kk ?_ ?_
  ·refine jU (s2 := ⟨.pt 80000 0 :: .bot :: .bot :: .pt 24 0 :: .pt 32 0 :: .pt 40 0 :: .bot :: .pt 80000 0 :: bt 7 [], [(40, .box [Ti 0, Ti 0, Ti 0]), (32, .box [Ti 0, Ti 0, Ti 0]), (24, .box [Ti f2.1, Ti f2.2.1, Ti f2.2.2]), (80000, .pbox (σ 80000) [.sl (c1.1.map c5), Ti c1.2.1, .v (.int .u64 c1.2.2)])]⟩) rfl rfl (zBo rfl (zFM (z := zv38) rfl zf38 rfl)) kk rfl (zU kk (zU kk (zU kk (zU kk zCB)))) ?_
   refine jU (s2 := ⟨.pt 80000 0 :: .bot :: .bot :: .pt 24 0 :: .pt 32 0 :: .bot :: .bot :: .pt 80000 0 :: .ag [Ti y3.1.1, Ti y3.1.2.1, Ti y3.1.2.2.1, Ti y3.1.2.2.2] :: bt 6 [], [(32, .box [Ti 0, Ti 0, Ti 0]), (24, .box [Ti f2.1, Ti f2.2.1, Ti f2.2.2]), (80000, .pbox (σ 80000) [.sl (y3.2.1.map c5), Ti y3.2.2.1, .v (.int .u64 y3.2.2.2)])]⟩) rfl rfl (zS (E' := [(32, .box [Ti 0, Ti 0, Ti 0]), (24, .box [Ti f2.1, Ti f2.2.1, Ti f2.2.2]), (80000, .pbox (σ 80000) [.sl (y3.2.1.map c5), Ti y3.2.2.1, .v (.int .u64 y3.2.2.2)])]) [(80000, 80000)] 8 (zCh hy3) zC7 rfl rfl kk rfl (zR kk zX) rfl kk rfl rfl kk) kk rfl (zU kk (zU kk (zU kk zCB))) ?_
   refine jU (s2 := ⟨.pt 80000 0 :: .bot :: .bot :: .pt 24 0 :: .pt 32 0 :: .bot :: .ag [Ti f2.1, Ti f2.2.1, Ti f2.2.2] :: .pt 80000 0 :: bt 7 [], [(32, .box [Ti 0, Ti 0, Ti 0]), (24, .box [Ti f2.1, Ti f2.2.1, Ti f2.2.2]), (80000, .pbox (σ 80000) [.sl (c1.1.map c5), Ti c1.2.1, .v (.int .u64 c1.2.2)])]⟩) rfl rfl (qB rfl (zGx (cs := [Ti f2.1, Ti f2.2.1, Ti f2.2.2]) [Ti f2.1, Ti f2.2.1, Ti f2.2.2] wd38 rfl kk (Nat.le_of_ble_eq_true rfl) kk)) kk rfl (zU kk (zU kk (zU kk zCB))) ?_
   exact zCZ
  refine zDY [4, 2] kk kk ?_ ?_
  ·refine jU (s2 := ⟨.pt 80000 0 :: .bot :: .bot :: .pt 24 0 :: .pt 32 0 :: .pt 40 0 :: .ag [Ti f2.1, Ti f2.2.1, Ti f2.2.2] :: .pt 80000 0 :: bt 7 [], [(40, .box [Ti 0, Ti 0, Ti 0]), (32, .box [Ti 0, Ti 0, Ti 0]), (24, .box [Ti f2.1, Ti f2.2.1, Ti f2.2.2]), (80000, .pbox (σ 80000) [.sl (c1.1.map c5), Ti c1.2.1, .v (.int .u64 c1.2.2)])]⟩) rfl rfl (zBo rfl (zFM (z := zv38) rfl zf38 rfl)) kk rfl (zU kk (zU kk (zU kk (zU kk zCB)))) ?_
   refine jU (s2 := ⟨.pt 80000 0 :: .bot :: .bot :: .pt 24 0 :: .pt 32 0 :: .bot :: .ag [Ti f2.1, Ti f2.2.1, Ti f2.2.2] :: .pt 80000 0 :: .ag [Ti y3.1.1, Ti y3.1.2.1, Ti y3.1.2.2.1, Ti y3.1.2.2.2] :: bt 6 [], [(32, .box [Ti 0, Ti 0, Ti 0]), (24, .box [Ti f2.1, Ti f2.2.1, Ti f2.2.2]), (80000, .pbox (σ 80000) [.sl (y3.2.1.map c5), Ti y3.2.2.1, .v (.int .u64 y3.2.2.2)])]⟩) rfl rfl (zS (E' := [(32, .box [Ti 0, Ti 0, Ti 0]), (24, .box [Ti f2.1, Ti f2.2.1, Ti f2.2.2]), (80000, .pbox (σ 80000) [.sl (y3.2.1.map c5), Ti y3.2.2.1, .v (.int .u64 y3.2.2.2)])]) [(80000, 80000)] 8 (zCh hy3) zC7 rfl rfl kk rfl (zR kk zX) rfl kk rfl rfl kk) kk rfl (zU kk (zU kk (zU kk zCB))) ?_
   exact zCZ
  refine zDY [4, 0] kk kk ?_ ?_
  ·refine jU (s2 := ⟨.pt 80000 0 :: .bot :: .bot :: .pt 24 0 :: .pt 32 0 :: .pt 40 0 :: .bot :: .pt 80000 0 :: .ag [Ti y3.1.1, Ti y3.1.2.1, Ti y3.1.2.2.1, Ti y3.1.2.2.2] :: bt 6 [], [(40, .box [Ti 0, Ti 0, Ti 0]), (32, .box [Ti 0, Ti 0, Ti 0]), (24, .box [Ti f2.1, Ti f2.2.1, Ti f2.2.2]), (80000, .pbox (σ 80000) [.sl (y3.2.1.map c5), Ti y3.2.2.1, .v (.int .u64 y3.2.2.2)])]⟩) rfl rfl (zBo rfl (zFM (z := zv38) rfl zf38 rfl)) kk rfl (zU kk (zU kk (zU kk (zU kk zCB)))) ?_
   refine jU (s2 := ⟨.pt 80000 0 :: .bot :: .bot :: .pt 24 0 :: .pt 32 0 :: .bot :: .ag [Ti f2.1, Ti f2.2.1, Ti f2.2.2] :: .pt 80000 0 :: .ag [Ti y3.1.1, Ti y3.1.2.1, Ti y3.1.2.2.1, Ti y3.1.2.2.2] :: bt 6 [], [(32, .box [Ti 0, Ti 0, Ti 0]), (24, .box [Ti f2.1, Ti f2.2.1, Ti f2.2.2]), (80000, .pbox (σ 80000) [.sl (y3.2.1.map c5), Ti y3.2.2.1, .v (.int .u64 y3.2.2.2)])]⟩) rfl rfl (qB rfl (zGx (cs := [Ti f2.1, Ti f2.2.1, Ti f2.2.2]) [Ti f2.1, Ti f2.2.1, Ti f2.2.2] wd38 rfl kk (Nat.le_of_ble_eq_true rfl) kk)) kk rfl (zU kk (zU kk (zU kk zCB))) ?_
   exact zCZ
  refine zDY [4, 3] kk kk ?_ ?_
  ·refine jU (s2 := ⟨.pt 80000 0 :: .bot :: .bot :: .pt 24 0 :: .pt 32 0 :: .pt 40 0 :: .ag [Ti f2.1, Ti f2.2.1, Ti f2.2.2] :: .pt 80000 0 :: .ag [Ti y3.1.1, Ti y3.1.2.1, Ti y3.1.2.2.1, Ti y3.1.2.2.2] :: bt 6 [], [(40, .box [Ti 0, Ti 0, Ti 0]), (32, .box [Ti 0, Ti 0, Ti 0]), (24, .box [Ti f2.1, Ti f2.2.1, Ti f2.2.2]), (80000, .pbox (σ 80000) [.sl (y3.2.1.map c5), Ti y3.2.2.1, .v (.int .u64 y3.2.2.2)])]⟩) rfl rfl (zBo rfl (zFM (z := zv38) rfl zf38 rfl)) kk rfl (zU kk (zU kk (zU kk (zU kk zCB)))) ?_
   refine jU (s2 := ⟨.pt 80000 0 :: .bot :: .bot :: .pt 24 0 :: .pt 32 0 :: .bot :: .ag [Ti f2.1, Ti f2.2.1, Ti f2.2.2] :: .pt 80000 0 :: .ag [Ti y3.1.1, Ti y3.1.2.1, Ti y3.1.2.2.1, Ti y3.1.2.2.2] :: .ag [Ti y4.1, Ti y4.2.1, Ti y4.2.2] :: bt 5 [], [(32, .box [Ti 0, Ti 0, Ti 0]), (24, .box [Ti f2.1, Ti f2.2.1, Ti f2.2.2]), (80000, .pbox (σ 80000) [.sl (y3.2.1.map c5), Ti y3.2.2.1, .v (.int .u64 y3.2.2.2)])]⟩) rfl rfl (zBo rfl (zIU (zGd hy4) zGH rfl kk)) kk rfl (zU kk (zU kk (zU kk zCB))) ?_
   exact zCZ
  refine zDY [4] kk kk ?_ ?_
  ·refine jU (s2 := ⟨.pt 80000 0 :: .bot :: .bot :: .pt 24 0 :: .pt 32 0 :: .pt 40 0 :: .ag [Ti f2.1, Ti f2.2.1, Ti f2.2.2] :: .pt 80000 0 :: .ag [Ti y3.1.1, Ti y3.1.2.1, Ti y3.1.2.2.1, Ti y3.1.2.2.2] :: .ag [Ti y4.1, Ti y4.2.1, Ti y4.2.2] :: bt 5 [], [(40, .box [Ti 0, Ti 0, Ti 0]), (32, .box [Ti 0, Ti 0, Ti 0]), (24, .box [Ti f2.1, Ti f2.2.1, Ti f2.2.2]), (80000, .pbox (σ 80000) [.sl (y3.2.1.map c5), Ti y3.2.2.1, .v (.int .u64 y3.2.2.2)])]⟩) rfl rfl (zBo rfl (zFM (z := zv38) rfl zf38 rfl)) kk rfl (zU kk (zU kk (zU kk (zU kk zCB)))) ?_
   exact zCZ
  refine zDY [1, 0] kk kk ?_ ?_
  ·refine jU (s2 := ⟨.pt 80000 0 :: .bot :: .bot :: .pt 24 0 :: .pt 32 0 :: .pt 40 0 :: .bot :: .pt 80000 0 :: bt 7 [], [(40, .box [Ti 0, Ti 0, Ti 0]), (32, .box [Ti 0, Ti 0, Ti 0]), (24, .box [Ti f2.1, Ti f2.2.1, Ti f2.2.2]), (80000, .pbox (σ 80000) [.sl (c1.1.map c5), Ti c1.2.1, .v (.int .u64 c1.2.2)])]⟩) rfl rfl (qB rfl (zK3 (.pt 80000 0) rfl kk)) kk rfl (zU kk (zU kk (zU kk (zU kk zCB)))) ?_
   refine jU (s2 := ⟨.pt 80000 0 :: .bot :: .bot :: .pt 24 0 :: .pt 32 0 :: .pt 40 0 :: .ag [Ti f2.1, Ti f2.2.1, Ti f2.2.2] :: bt 8 [], [(40, .box [Ti 0, Ti 0, Ti 0]), (32, .box [Ti 0, Ti 0, Ti 0]), (24, .box [Ti f2.1, Ti f2.2.1, Ti f2.2.2]), (80000, .pbox (σ 80000) [.sl (c1.1.map c5), Ti c1.2.1, .v (.int .u64 c1.2.2)])]⟩) rfl rfl (qB rfl (zGx (cs := [Ti f2.1, Ti f2.2.1, Ti f2.2.2]) [Ti f2.1, Ti f2.2.1, Ti f2.2.2] wd38 rfl kk (Nat.le_of_ble_eq_true rfl) kk)) kk rfl (zU kk (zU kk (zU kk (zU kk zCB)))) ?_
   exact zCZ
  refine zDY [1] kk kk ?_ ?_
  ·refine jU (s2 := ⟨.pt 80000 0 :: .bot :: .bot :: .pt 24 0 :: .pt 32 0 :: .pt 40 0 :: .ag [Ti f2.1, Ti f2.2.1, Ti f2.2.2] :: .pt 80000 0 :: bt 7 [], [(40, .box [Ti 0, Ti 0, Ti 0]), (32, .box [Ti 0, Ti 0, Ti 0]), (24, .box [Ti f2.1, Ti f2.2.1, Ti f2.2.2]), (80000, .pbox (σ 80000) [.sl (c1.1.map c5), Ti c1.2.1, .v (.int .u64 c1.2.2)])]⟩) rfl rfl (qB rfl (zK3 (.pt 80000 0) rfl kk)) kk rfl (zU kk (zU kk (zU kk (zU kk zCB)))) ?_
   exact zCZ
  refine zDY [2, 0] kk kk ?_ ?_
  ·refine jU (s2 := ⟨.pt 80000 0 :: .bot :: .bot :: .pt 24 0 :: .pt 32 0 :: .pt 40 0 :: .bot :: .pt 80000 0 :: .ag [Ti y3.1.1, Ti y3.1.2.1, Ti y3.1.2.2.1, Ti y3.1.2.2.2] :: bt 6 [], [(40, .box [Ti 0, Ti 0, Ti 0]), (32, .box [Ti 0, Ti 0, Ti 0]), (24, .box [Ti f2.1, Ti f2.2.1, Ti f2.2.2]), (80000, .pbox (σ 80000) [.sl (y3.2.1.map c5), Ti y3.2.2.1, .v (.int .u64 y3.2.2.2)])]⟩) rfl rfl (zS (E' := [(40, .box [Ti 0, Ti 0, Ti 0]), (32, .box [Ti 0, Ti 0, Ti 0]), (24, .box [Ti f2.1, Ti f2.2.1, Ti f2.2.2]), (80000, .pbox (σ 80000) [.sl (y3.2.1.map c5), Ti y3.2.2.1, .v (.int .u64 y3.2.2.2)])]) [(80000, 80000)] 8 (zCh hy3) zC7 rfl rfl kk rfl (zR kk zX) rfl kk rfl rfl kk) kk rfl (zU kk (zU kk (zU kk (zU kk zCB)))) ?_
   refine jU (s2 := ⟨.pt 80000 0 :: .bot :: .bot :: .pt 24 0 :: .pt 32 0 :: .pt 40 0 :: .ag [Ti f2.1, Ti f2.2.1, Ti f2.2.2] :: .pt 80000 0 :: bt 7 [], [(40, .box [Ti 0, Ti 0, Ti 0]), (32, .box [Ti 0, Ti 0, Ti 0]), (24, .box [Ti f2.1, Ti f2.2.1, Ti f2.2.2]), (80000, .pbox (σ 80000) [.sl (c1.1.map c5), Ti c1.2.1, .v (.int .u64 c1.2.2)])]⟩) rfl rfl (qB rfl (zGx (cs := [Ti f2.1, Ti f2.2.1, Ti f2.2.2]) [Ti f2.1, Ti f2.2.1, Ti f2.2.2] wd38 rfl kk (Nat.le_of_ble_eq_true rfl) kk)) kk rfl (zU kk (zU kk (zU kk (zU kk zCB)))) ?_
   exact zCZ
  refine zDY [2] kk kk ?_ ?_
  ·refine jU (s2 := ⟨.pt 80000 0 :: .bot :: .bot :: .pt 24 0 :: .pt 32 0 :: .pt 40 0 :: .ag [Ti f2.1, Ti f2.2.1, Ti f2.2.2] :: .pt 80000 0 :: .ag [Ti y3.1.1, Ti y3.1.2.1, Ti y3.1.2.2.1, Ti y3.1.2.2.2] :: bt 6 [], [(40, .box [Ti 0, Ti 0, Ti 0]), (32, .box [Ti 0, Ti 0, Ti 0]), (24, .box [Ti f2.1, Ti f2.2.1, Ti f2.2.2]), (80000, .pbox (σ 80000) [.sl (y3.2.1.map c5), Ti y3.2.2.1, .v (.int .u64 y3.2.2.2)])]⟩) rfl rfl (zS (E' := [(40, .box [Ti 0, Ti 0, Ti 0]), (32, .box [Ti 0, Ti 0, Ti 0]), (24, .box [Ti f2.1, Ti f2.2.1, Ti f2.2.2]), (80000, .pbox (σ 80000) [.sl (y3.2.1.map c5), Ti y3.2.2.1, .v (.int .u64 y3.2.2.2)])]) [(80000, 80000)] 8 (zCh hy3) zC7 rfl rfl kk rfl (zR kk zX) rfl kk rfl rfl kk) kk rfl (zU kk (zU kk (zU kk (zU kk zCB)))) ?_
   exact zCZ
  refine zDY [0] kk kk ?_ ?_
  ·refine jU (s2 := ⟨.pt 80000 0 :: .bot :: .bot :: .pt 24 0 :: .pt 32 0 :: .pt 40 0 :: .ag [Ti f2.1, Ti f2.2.1, Ti f2.2.2] :: .pt 80000 0 :: .ag [Ti y3.1.1, Ti y3.1.2.1, Ti y3.1.2.2.1, Ti y3.1.2.2.2] :: bt 6 [], [(40, .box [Ti 0, Ti 0, Ti 0]), (32, .box [Ti 0, Ti 0, Ti 0]), (24, .box [Ti f2.1, Ti f2.2.1, Ti f2.2.2]), (80000, .pbox (σ 80000) [.sl (y3.2.1.map c5), Ti y3.2.2.1, .v (.int .u64 y3.2.2.2)])]⟩) rfl rfl (qB rfl (zGx (cs := [Ti f2.1, Ti f2.2.1, Ti f2.2.2]) [Ti f2.1, Ti f2.2.1, Ti f2.2.2] wd38 rfl kk (Nat.le_of_ble_eq_true rfl) kk)) kk rfl (zU kk (zU kk (zU kk (zU kk zCB)))) ?_
   exact zCZ
  refine zDY [3] kk kk ?_ ?_
  ·refine jU (s2 := ⟨.pt 80000 0 :: .bot :: .bot :: .pt 24 0 :: .pt 32 0 :: .pt 40 0 :: .ag [Ti f2.1, Ti f2.2.1, Ti f2.2.2] :: .pt 80000 0 :: .ag [Ti y3.1.1, Ti y3.1.2.1, Ti y3.1.2.2.1, Ti y3.1.2.2.2] :: .ag [Ti y4.1, Ti y4.2.1, Ti y4.2.2] :: bt 5 [], [(40, .box [Ti 0, Ti 0, Ti 0]), (32, .box [Ti 0, Ti 0, Ti 0]), (24, .box [Ti f2.1, Ti f2.2.1, Ti f2.2.2]), (80000, .pbox (σ 80000) [.sl (y3.2.1.map c5), Ti y3.2.2.1, .v (.int .u64 y3.2.2.2)])]⟩) rfl rfl (zBo rfl (zIU (zGd hy4) zGH rfl kk)) kk rfl (zU kk (zU kk (zU kk (zU kk zCB)))) ?_
   exact zCZ
  refine zDY [5] kk kk ?_ ?_
  ·refine jU (s2 := ⟨.pt 80000 0 :: .bot :: .bot :: .pt 24 0 :: .pt 32 0 :: .pt 40 0 :: .ag [Ti f2.1, Ti f2.2.1, Ti f2.2.2] :: .pt 80000 0 :: .ag [Ti y3.1.1, Ti y3.1.2.1, Ti y3.1.2.2.1, Ti y3.1.2.2.2] :: .ag [Ti y4.1, Ti y4.2.1, Ti y4.2.2] :: bt 5 [], [(40, .box [Ti y4.1, Ti y4.2.1, Ti y4.2.2]), (32, .box [Ti 0, Ti 0, Ti 0]), (24, .box [Ti f2.1, Ti f2.2.1, Ti f2.2.2]), (80000, .pbox (σ 80000) [.sl (y3.2.1.map c5), Ti y3.2.2.1, .v (.int .u64 y3.2.2.2)])]⟩) rfl rfl (E_store (id := 40) (off := 0) (cs := [Ti 0, Ti 0, Ti 0]) (vc := [Ti y4.1, Ti y4.2.1, Ti y4.2.2]) [Ti y4.1, Ti y4.2.1, Ti y4.2.2] rfl rfl kk kk kk sz38 (Nat.le_of_ble_eq_true rfl) kk) kk rfl (zU kk (zU kk (zU kk (zU kk zCB)))) ?_
   exact zCZ
  refine tab_last kk ?_ tab_nil
  kernel_rfl
 refine zK ?_
 obtain ⟨y5, hy5, h⟩ := zA h
 refine VS ?_
 refine YK 1 (zI6 hy5) zHu ?_
 refine YF ?_
 refine VC h (fun h => ?_) (fun h => ?_)
 ·refine VE ?_
  cases h
  exact zF VTR
 ·refine zH ?_
  show V _ _ _ _
  refine VE ?_
  cases h
  exact zF VTR
theorem zGs : CfW Tryz.prog 125 := cfW Tryz.func125
theorem zHH {c1 : ((List Int) × Int × Int)} {r : (((Int × Int × Int)) × (((List Int) × Int × Int)))} (h : zBY c1 = some r) : zDq Tryz.prog 125 [.pt 80000 0] [(80000, .box [.sl (c1.1.map c5), Ti c1.2.1, .v (.int .u64 c1.2.2)])] (.ag [Ti r.1.1, Ti r.1.2.1, Ti r.1.2.2]) [] [(80000, .box [.sl (r.2.1.map c5), Ti r.2.2.1, .v (.int .u64 r.2.2.2)])] := by
 refine qT (rs := [.w 2 3]) (vs := [.cell 2 38]) Tryz.func125 rfl rfl (.cons ⟨rfl, wd38⟩ FitsL.nil) (by decide) 52 rfl rfl fun σ => ?_
 unfold zBY at h
 show V _ _ ⟨.pt 80000 0 :: bt 51 [], [(80000, .pbox (σ 80000) [.sl (c1.1.map c5), Ti c1.2.1, .v (.int .u64 c1.2.2)])]⟩ _
 refine VE ?_
 refine zK ?_
 obtain ⟨y2, hy2, h⟩ := zA h
 refine VS ?_
 refine YR 1 ?_
 refine zL rfl (zS [(80000, 80000)] 6 (zI hy2) zG rfl rfl kk rfl (zR kk zX) rfl kk rfl rfl rfl) ?_
 refine YF ?_
 refine zN ?_
 refine VE ?_
 refine VC h (fun h => ?_) (fun h => ?_)
 ·obtain ⟨y4, hy4, h⟩ := zA h
  refine VS ?_
  refine YR 1 ?_
  refine zL rfl (zS [(80000, 80000)] 10 (zJP hy4) zIz rfl rfl kk rfl (zR kk zX) rfl kk rfl rfl rfl) ?_
  refine YF ?_
  cases h
  exact zF VTR
 ·refine VE ?_
  refine VC h (fun h => ?_) (fun h => ?_)
  ·obtain ⟨y6, hy6, h⟩ := zA h
   obtain ⟨y7, hy7, h⟩ := zA h
   refine VS ?_
   refine YR 2 ?_
   refine zL rfl (zS [(80000, 80000)] 15 (zDU hy6) zDJ rfl rfl kk rfl (zR kk zX) rfl kk rfl rfl rfl) ?_
   refine zL rfl (zS [(80000, 80000)] 16 (zD4 hy7) zDW rfl rfl kk rfl (zR kk zX) rfl kk rfl rfl rfl) ?_
   refine YF ?_
   obtain ⟨y8, hy8, h⟩ := zA h
   obtain ⟨k9, hk9, h⟩ := zT h
   refine zO (mb 52 29) [24, 16, 80000] (s1 := ⟨.pt 80000 0 :: .bot :: .pt 16 0 :: .pt 24 0 :: I k9 :: bt 47 [], [(24, .box [Ti y7.1.1, Ti y7.1.2.1, Ti y7.1.2.2]), (16, .box [Ti 0, Ti 0, Ti 0]), (80000, .pbox (σ 80000) [.sl (y8.2.1.map c5), Ti y8.2.2.1, .v (.int .u64 y8.2.2.2)])]⟩) ?_ ?_
   ·refine XR 1 ?_
    refine zL rfl (zS [(80000, 80000)] 18 (zI hy8) zG rfl rfl kk rfl (zR kk zX) rfl kk rfl rfl rfl) ?_
    refine XR 2 ?_
    refine zM ?_
    subst hk9
    kernel_rfl
   obtain ⟨y10, hy10, h⟩ := zA h
   refine VS ?_
   refine YR 13 ?_
   refine L0 rfl rfl (zW (cs := [Ti (w64 (k9 * y7.1.1)), Ti (w64 (k9 * y7.1.2.1)), Ti (w64 (k9 * y7.1.2.2))]) pl38 bt38 rfl rfl kk) ?_
   refine zL rfl (zS [(80000, 80000)] 34 (zCy hy10) zCi rfl rfl kk rfl (zR kk zX) rfl kk rfl rfl rfl) ?_
   refine YF ?_
   cases h
   exact zF VTR
  ·refine VE ?_
   refine VC h (fun h => ?_) (fun h => ?_)
   ·obtain ⟨y12, hy12, h⟩ := zA h
    obtain ⟨y13, hy13, h⟩ := zA h
    obtain ⟨y14, hy14, h⟩ := zA h
    obtain ⟨f15, hf15, h⟩ := zT h
    obtain ⟨f16, hf16, h⟩ := zT h
    refine zO (mb 52 4) [16, 80000] (s1 := ⟨.bot :: .bot :: .pt 16 0 :: bt 49 [], [(16, .box [Ti f15, Ti y13.1, Ti f16]), (80000, .pbox (σ 80000) [.sl (y14.2.1.map c5), Ti y14.2.2.1, .v (.int .u64 y14.2.2.2)])]⟩) ?_ ?_
    ·refine XR 1 ?_
     refine zL rfl (zS [(80000, 80000)] 38 (zI hy12) zG rfl rfl kk rfl (zR kk zX) rfl kk rfl rfl rfl) ?_
     refine XR 2 ?_
     refine zL rfl (zS [(80000, 80000)] 41 (zI hy13) zG rfl rfl kk rfl (zR kk zX) rfl kk rfl rfl rfl) ?_
     refine XR 1 ?_
     refine zL rfl (zS [(80000, 80000)] 43 (zI hy14) zG rfl rfl kk rfl (zR kk zX) rfl kk rfl rfl rfl) ?_
     refine XR 1 ?_
     refine L0 rfl rfl (zW (cs := [Ti (w64 (1 + y12.1)), Ti y13.1, Ti (w64 (250000 + y14.1))]) pl38 bt38 rfl rfl kk) ?_
     refine XR 1 ?_
     refine zM ?_
     subst hf15 hf16
     kernel_rfl
    cases h
    exact zF VTR
   ·refine zH ?_
    show V _ _ _ _
    obtain ⟨y17, hy17, h⟩ := zA h
    obtain ⟨y18, hy18, h⟩ := zA h
    obtain ⟨y19, hy19, h⟩ := zA h
    refine VS ?_
    refine YR 3 ?_
    refine zL rfl (zS [(80000, 80000)] 49 (zDU hy17) zDJ rfl rfl kk rfl (zR kk zX) rfl kk rfl rfl rfl) ?_
    refine zL rfl (zS [(80000, 80000)] 50 (zD4 hy18) zDW rfl rfl kk rfl (zR kk zX) rfl kk rfl rfl rfl) ?_
    refine zL rfl (zS [(80000, 80000)] 51 (zCy hy19) zCi rfl rfl kk rfl (zR kk zX) rfl kk rfl rfl rfl) ?_
    refine YF ?_
    cases h
    exact zF VTR
theorem zGX : CfW Tryz.prog 122 := cfW Tryz.func122
theorem zGb {c1 : ((List Int) × Int × Int)} {r : (((Int × Int × Int)) × (((List Int) × Int × Int)))} (h : zA8 c1 = some r) : zDq Tryz.prog 122 [.pt 80000 0] [(80000, .box [.sl (c1.1.map c5), Ti c1.2.1, .v (.int .u64 c1.2.2)])] (.ag [Ti r.1.1, Ti r.1.2.1, Ti r.1.2.2]) [] [(80000, .box [.sl (r.2.1.map c5), Ti r.2.2.1, .v (.int .u64 r.2.2.2)])] := by
 refine qT (rs := [.w 2 3]) (vs := [.cell 2 38]) Tryz.func122 rfl rfl (.cons ⟨rfl, wd38⟩ FitsL.nil) (by decide) 18 rfl rfl fun σ => ?_
 unfold zA8 at h
 show V _ _ ⟨.pt 80000 0 :: bt 17 [], [(80000, .pbox (σ 80000) [.sl (c1.1.map c5), Ti c1.2.1, .v (.int .u64 c1.2.2)])]⟩ _
 refine VE ?_
 refine zK ?_
 obtain ⟨y2, hy2, h⟩ := zA h
 refine VS ?_
 refine YR 1 ?_
 refine zL rfl (zS [(80000, 80000)] 5 (zCG hy2) zBn rfl rfl kk rfl (zR kk zX) rfl kk rfl rfl rfl) ?_
 refine YF ?_
 refine VC h (fun h => ?_) (fun h => ?_)
 ·obtain ⟨y4, hy4, h⟩ := zA h
  refine VS ?_
  refine YR 1 ?_
  refine zL rfl (zS [(80000, 80000)] 7 (zHH hy4) zGs rfl rfl kk rfl (zR kk zX) rfl kk rfl rfl rfl) ?_
  refine YF ?_
  cases h
  exact zF VTR
 ·refine zH ?_
  show V _ _ _ _
  obtain ⟨y5, hy5, h⟩ := zA h
  obtain ⟨y6, hy6, h⟩ := zA h
  refine VS ?_
  refine YR 2 ?_
  refine zL rfl (zS [(80000, 80000)] 10 (zDU hy5) zDJ rfl rfl kk rfl (zR kk zX) rfl kk rfl rfl rfl) ?_
  refine zL rfl (zS [(80000, 80000)] 11 (zD4 hy6) zDW rfl rfl kk rfl (zR kk zX) rfl kk rfl rfl rfl) ?_
  refine YF ?_
  refine zK ?_
  obtain ⟨y7, hy7, h⟩ := zA h
  refine VS ?_
  refine YR 1 ?_
  refine zL rfl (zS [(80000, 80000)] 13 (zCG hy7) zBn rfl rfl kk rfl (zR kk zX) rfl kk rfl rfl rfl) ?_
  refine YF ?_
  refine VC h (fun h => ?_) (fun h => ?_)
  ·obtain ⟨y9, hy9, h⟩ := zA h
   refine VS ?_
   refine YR 2 ?_
   refine zL rfl (zS [(80000, 80000)] 16 (zCy hy9) zCi rfl rfl kk rfl (zR kk zX) rfl kk rfl rfl rfl) ?_
   refine YF ?_
   cases h
   exact zF VTR
  ·refine zH ?_
   show V _ _ _ _
   refine VE ?_
   cases h
   exact zF VTR
theorem zJC : CfW Tryz.prog 137 := cfW Tryz.func137
theorem zJS {f1 : (Int × Int × Int)} {r : Bool} (h : zC2 f1 = some r) : zV Tryz.prog 137 [.ag [Ti f1.1, Ti f1.2.1, Ti f1.2.2]] (Bo r) [] := by
 refine CtW [2] Tryz.func137 rfl rfl 15 ?_
 unfold zC2 at h
 refine VE ?_
 obtain ⟨y2, hy2, h⟩ := zA h
 obtain ⟨b5, hb5, h⟩ := zA h
 refine zO (mb 15 4) [] (s1 := ⟨.bot :: .bot :: Bo (bif b5 then (ltI 0 f1.1) else false) :: bt 12 [], []⟩) ?_ ?_
 ·refine YK 1 (zI6 hy2) zHu ?_
  refine YR 1 ?_
  refine zE y2 (fun hc3 => ?_) (fun hc3 => ?_)
  ·have hb5 := qH hb5 hc3
   obtain ⟨y4, hy4, hb5⟩ := zA hb5
   have hb5 := zB hb5
   refine YQ hc3 ?_
   refine YK 1 (zCa hy4) zCR ?_
   refine YR 3 ?_
   refine zE b5 (fun hc6 => ?_) (fun hc6 => ?_)
   ·refine YQ hc6 ?_ (by rw [← hb5]; (try rw [hc3]); kernel_rfl)
    exact YE (by rw [hc6]; kernel_rfl)
   ·refine YQ hc6 ?_ (by rw [← hb5]; (try rw [hc3]); kernel_rfl)
    exact YE (by rw [hc6]; kernel_rfl)
  ·have hb5 := zB (z7 hb5 hc3)
   refine YQ hc3 ?_
   refine YR 5 ?_
   subst hb5
   have hc6 : false = false := rfl
   exact YE
 cases h
 exact zF VT
theorem zLv : CfW Tryz.prog 181 := cfW Tryz.func181
theorem s_spec_vaForm {f1 : (Int × Int × Int)} {r : Bool} (h : zDv f1 = some r) : zV Tryz.prog 181 [.ag [Ti f1.1, Ti f1.2.1, Ti f1.2.2]] (Bo r) [] := by
 refine CtW [2] Tryz.func181 rfl rfl 10 ?_
 unfold zDv at h
 refine VE ?_
 obtain ⟨y2, hy2, h⟩ := zA h
 obtain ⟨b5, hb5, h⟩ := zA h
 refine zO (mb 10 4) [] (s1 := ⟨.bot :: .bot :: Bo b5 :: bt 7 [], []⟩) ?_ ?_
 ·refine YK 1 (zJS hy2) zJC ?_
  refine YR 1 ?_
  refine zE y2 (fun hc3 => ?_) (fun hc3 => ?_)
  ·have hb5 := qH hb5 hc3
   obtain ⟨y4, hy4, hb5⟩ := zA hb5
   have hb5 := zB hb5
   refine YQ hc3 ?_
   refine YK 1 (zCa hy4) zCR ?_
   exact YE (by rw [← hb5]; (try rw [hc3]); kernel_rfl)
  ·have hb5 := zB (z7 hb5 hc3)
   refine YQ hc3 ?_
   exact YE (by rw [← hb5]; (try rw [hc3]); kernel_rfl)
 cases h
 exact zF VT
theorem zHv : CfW Tryz.prog 94 := cfW Tryz.func94
theorem zI7 {f1 : (Int × Int × Int)} {r : Bool} (h : zCc f1 = some r) : zV Tryz.prog 94 [.ag [Ti f1.1, Ti f1.2.1, Ti f1.2.2]] (Bo r) [] := by
 refine CtW [2] Tryz.func94 rfl rfl 10 ?_
 unfold zCc at h
 refine VE ?_
 obtain ⟨y2, hy2, h⟩ := zA h
 obtain ⟨b5, hb5, h⟩ := zA h
 refine zO (mb 10 4) [] (s1 := ⟨.bot :: .bot :: Bo b5 :: bt 7 [], []⟩) ?_ ?_
 ·refine YK 1 (s_spec_vaForm hy2) zLv ?_
  refine YR 1 ?_
  refine zE y2 (fun hc3 => ?_) (fun hc3 => ?_)
  ·have hb5 := qH hb5 hc3
   obtain ⟨y4, hy4, hb5⟩ := zA hb5
   have hb5 := zB hb5
   refine YQ hc3 ?_
   refine YK 1 (zGO hy4) zFs ?_
   exact YE (by rw [← hb5]; (try rw [hc3]); kernel_rfl)
  ·have hb5 := zB (z7 hb5 hc3)
   refine YQ hc3 ?_
   exact YE (by rw [← hb5]; (try rw [hc3]); kernel_rfl)
 cases h
 exact zF VT
theorem zEm : CfW Tryz.prog 65 := cfW Tryz.func65
theorem zFE {c1 : ((List Int) × Int × Int)} {l2 : List ((ByteArray × ((Int × Int × Int))))} {r : (((Int × ByteArray × ByteArray × ByteArray × ((Int × Int × Int)))) × (((List Int) × Int × Int)))} (h : zBB c1 l2 = some r) : zDq Tryz.prog 65 [.pt 80000 0, .c (.sl (l2.map c73))] [(80000, .box [.sl (c1.1.map c5), Ti c1.2.1, .v (.int .u64 c1.2.2)])] (.ag [Ti r.1.1, .v (.string r.1.2.1), .v (.string r.1.2.2.1), .v (.string r.1.2.2.2.1), Ti r.1.2.2.2.2.1, Ti r.1.2.2.2.2.2.1, Ti r.1.2.2.2.2.2.2]) [] [(80000, .box [.sl (r.2.1.map c5), Ti r.2.2.1, .v (.int .u64 r.2.2.2)])] := by
 refine qT (rs := [.w 4 7]) (vs := [.cell 4 40]) Tryz.func65 rfl rfl (.cons ⟨rfl, wd40⟩ FitsL.nil) (by decide) 115 rfl rfl fun σ => ?_
 unfold zBB at h
 show V _ _ ⟨.pt 80000 0 :: .c (.sl (l2.map c73)) :: bt 113 [], [(80000, .pbox (σ 80000) [.sl (c1.1.map c5), Ti c1.2.1, .v (.int .u64 c1.2.2)])]⟩ _
 refine VE ?_
 obtain ⟨y3, hy3, h⟩ := zA h
 obtain ⟨y4, hy4, h⟩ := zA h
 refine VS ?_
 refine YR 1 ?_
 refine L1 rfl rfl (qP (z := zv3) (els := [1, 1, 1, 3, 3, 4, 5, 5, 2].map c3) Tryz.underlying24 iz3 rfl (by decide) rfl kk rfl (by simp [c3]) (by decide) (by decide)) ?_
 refine zDT 88 (T := 3) (sz := 1) (els := ([1, 1, 1, 3, 3, 4, 5, 5, 2]).map c3) kk rfl ?_
 refine zL rfl (zS [(80000, 80000)] 12 (zB2 hy3) zBR rfl rfl kk rfl (zR kk zX) rfl kk rfl rfl rfl) ?_
 refine YR 1 ?_
 refine zL rfl (zS [(80000, 80000)] 14 (zCz hy4) zCs rfl rfl kk rfl (zR kk zX) rfl kk rfl rfl rfl) ?_
 refine L0 rfl rfl (zW (cs := [Ti y3.1, .v (.string y4.1), .v (.string ByteArray.empty), .v (.string ByteArray.empty), Ti 0, Ti 0, Ti 0]) pl40 bt40 rfl rfl kk) ?_
 refine YF ?_
 obtain ⟨y5, hy5, h⟩ := zA h
 obtain ⟨y6, hy6, h⟩ := zA h
 refine VS ?_
 refine YR 1 ?_
 refine zL rfl (zS [(80000, 80000)] 17 (zCz hy5) zCs rfl rfl kk rfl (zR kk zX) rfl kk rfl rfl rfl) ?_
 refine YR 1 ?_
 refine zL rfl (zS [(80000, 80000)] 19 (zCz hy6) zCs rfl rfl kk rfl (zR kk zX) rfl kk rfl rfl rfl) ?_
 refine YF ?_
 obtain ⟨y7, hy7, h⟩ := zA h
 refine VS ?_
 refine YR 1 ?_
 refine zL rfl (zS [(80000, 80000)] 21 (zGb hy7) zGX rfl rfl kk rfl (zR kk zX) rfl kk rfl rfl rfl) ?_
 refine YF ?_
 obtain ⟨j8, hj8, h⟩ := zA h
 refine zCw (mb 115 499) [64, 40, 32, 80000] (s1 := ⟨.pt 80000 0 :: .c (.sl (l2.map c73)) :: .bot :: .bot :: .pt 32 0 :: .pt 40 0 :: .c (.v (.string j8.1)) :: .c (.v (.string j8.2.1)) :: .pt 64 0 :: bt 106 [], [(64, .box [Ti j8.2.2.1, Ti j8.2.2.2.1, Ti j8.2.2.2.2.1]), (40, .box [Ti y3.1, .v (.string j8.2.2.2.2.2.1), .v (.string ByteArray.empty), .v (.string ByteArray.empty), Ti 0, Ti 0, Ti 0]), (32, .box [Ti 0, .v (.string ByteArray.empty), .v (.string ByteArray.empty), .v (.string ByteArray.empty), Ti 0, Ti 0, Ti 0]), (80000, .pbox (σ 80000) [.sl (j8.2.2.2.2.2.2.1.map c5), Ti j8.2.2.2.2.2.2.2.1, .v (.int .u64 j8.2.2.2.2.2.2.2.2)])]⟩) ?_ ?_
 ·clear h
  have h := hj8
  clear hj8
  obtain ⟨b11, hb11, h⟩ := zA h
  refine zO (mb 115 536871411) [64, 40, 32, 80000] (s1 := ⟨.pt 80000 0 :: .c (.sl (l2.map c73)) :: .bot :: .bot :: .pt 32 0 :: .pt 40 0 :: .c (.v (.string y5.1)) :: .c (.v (.string y6.1)) :: .pt 64 0 :: bt 20 (Bo b11.1 :: bt 85 []), [(64, .box [Ti y7.1.1, Ti y7.1.2.1, Ti y7.1.2.2]), (40, .box [Ti y3.1, .v (.string y4.1), .v (.string ByteArray.empty), .v (.string ByteArray.empty), Ti 0, Ti 0, Ti 0]), (32, .box [Ti 0, .v (.string ByteArray.empty), .v (.string ByteArray.empty), .v (.string ByteArray.empty), Ti 0, Ti 0, Ti 0]), (80000, .pbox (σ 80000) [.sl (b11.2.1.map c5), Ti b11.2.2.1, .v (.int .u64 b11.2.2.2)])]⟩) ?_ ?_
  ·refine YR 1 ?_
   refine L0 rfl rfl (qQ (c := c73) (xs := l2) Tryz.underlying43 rfl kk) ?_
   refine YR 2 ?_
   refine zE (ltI 0 ((l2.length : Int))) (fun hc9 => ?_) (fun hc9 => ?_)
   ·have hb11 := qH hb11 hc9
    obtain ⟨y10, hy10, hb11⟩ := zA hb11
    have hb11 := zB hb11
    subst hb11
    refine YQ hc9 ?_
    refine YR 1 ?_
    refine YT (zS (E' := [(64, .box [Ti y7.1.1, Ti y7.1.2.1, Ti y7.1.2.2]), (40, .box [Ti y3.1, .v (.string y4.1), .v (.string ByteArray.empty), .v (.string ByteArray.empty), Ti 0, Ti 0, Ti 0]), (32, .box [Ti 0, .v (.string ByteArray.empty), .v (.string ByteArray.empty), .v (.string ByteArray.empty), Ti 0, Ti 0, Ti 0]), (80000, .pbox (σ 80000) [.sl (y10.2.1.map c5), Ti y10.2.2.1, .v (.int .u64 y10.2.2.2)])]) [(80000, 80000)] 27 (zCG hy10) zBn rfl rfl kk rfl (zR kk zX) rfl kk rfl rfl kk) ?_
    exact YE
   ·have hb11 := zB (z7 hb11 hc9)
    subst hb11
    refine YQ hc9 ?_
    exact YE
  refine VC h (fun h => ?_) (fun h => ?_)
  ·obtain ⟨y13, hy13, h⟩ := zA h
   obtain ⟨e14, he14, h⟩ := zA h
   refine VS ?_
   refine YR 3 ?_
   refine L0 rfl rfl (qQ (c := c73) (xs := l2) Tryz.underlying43 rfl kk) ?_
   refine zL rfl (zS [(80000, 80000)] 34 (zI hy13) zG rfl rfl kk rfl (zR kk zX) rfl kk rfl rfl rfl) ?_
   refine L0 rfl rfl (zBG (c := c73) (xs := l2) (v := e14) (n := y13.1) Tryz.underlying43 sz73 rfl kk kk he14) ?_
   refine YF ?_
   refine VE ?_
   obtain ⟨y15, hy15, h⟩ := zA h
   obtain ⟨e16, he16, h⟩ := zA h
   refine VS ?_
   refine YR 3 ?_
   refine L0 rfl rfl (qQ (c := c73) (xs := l2) Tryz.underlying43 rfl kk) ?_
   refine zL rfl (zS [(80000, 80000)] 43 (zI hy15) zG rfl rfl kk rfl (zR kk zX) rfl kk rfl rfl rfl) ?_
   refine L0 rfl rfl (zBG (c := c73) (xs := l2) (v := e16) (n := y15.1) Tryz.underlying43 sz73 rfl kk kk he16) ?_
   refine YF ?_
   obtain ⟨j17, hj17, h⟩ := zA h
   refine zCw (mb 115 1011) [72, 64, 40, 32, 80000] (s1 := ⟨.pt 80000 0 :: .c (.sl (l2.map c73)) :: .bot :: .bot :: .pt 32 0 :: .pt 40 0 :: .c (.v (.string e14.1)) :: .c (.v (.string e16.1)) :: .pt 64 0 :: .pt 72 0 :: bt 105 [], [(72, .box [.v (.string e14.1), Ti e14.2.1, Ti e14.2.2.1, Ti e14.2.2.2]), (64, .box [Ti y7.1.1, Ti y7.1.2.1, Ti y7.1.2.2]), (40, .box [Ti y3.1, .v (.string j17), .v (.string ByteArray.empty), .v (.string ByteArray.empty), Ti 0, Ti 0, Ti 0]), (32, .box [Ti 0, .v (.string ByteArray.empty), .v (.string ByteArray.empty), .v (.string ByteArray.empty), Ti 0, Ti 0, Ti 0]), (80000, .pbox (σ 80000) [.sl (y15.2.1.map c5), Ti y15.2.2.1, .v (.int .u64 y15.2.2.2)])]⟩) ?_ ?_
   ·clear h
    have h := hj17
    clear hj17
    refine zO (mb 115 18014398509482995) [72, 64, 40, 32, 80000] (s1 := ⟨.pt 80000 0 :: .c (.sl (l2.map c73)) :: .bot :: .bot :: .pt 32 0 :: .pt 40 0 :: .c (.v (.string e14.1)) :: .c (.v (.string e16.1)) :: .pt 64 0 :: .pt 72 0 :: bt 44 (Bo (bif (eqI y3.1 2) then true else (eqI y3.1 5)) :: bt 60 []), [(72, .box [.v (.string e14.1), Ti e14.2.1, Ti e14.2.2.1, Ti e14.2.2.2]), (64, .box [Ti y7.1.1, Ti y7.1.2.1, Ti y7.1.2.2]), (40, .box [Ti y3.1, .v (.string y4.1), .v (.string ByteArray.empty), .v (.string ByteArray.empty), Ti 0, Ti 0, Ti 0]), (32, .box [Ti 0, .v (.string ByteArray.empty), .v (.string ByteArray.empty), .v (.string ByteArray.empty), Ti 0, Ti 0, Ti 0]), (80000, .pbox (σ 80000) [.sl (y15.2.1.map c5), Ti y15.2.2.1, .v (.int .u64 y15.2.2.2)])]⟩) ?_ ?_
    ·refine YR 4 ?_
     refine zE (eqI y3.1 2) (fun hc18 => ?_) (fun hc18 => ?_)
     ·refine YQ hc18 ?_
      exact YE (by rw [hc18]; kernel_rfl)
     ·refine YQ hc18 ?_
      exact YE (by rw [hc18]; kernel_rfl)
    refine VC h (fun h => ?_) (fun h => ?_)
    ·refine zY ?_
     refine YF ?_
     obtain rfl := zB h
     show St.keep _ _ _ = _
     kernel_rfl
    ·refine zH ?_
     obtain rfl := zB h
     show St.keep _ _ _ = _
     kernel_rfl
   obtain ⟨y20, hy20, h⟩ := zA h
   refine VS ?_
   refine YK 2 (zI7 hy20) zHv ?_
   refine YF ?_
   refine VC h (fun h => ?_) (fun h => ?_)
   ·obtain ⟨y22, hy22, h⟩ := zA h
    refine zY ?_
    refine YR 3 ?_
    refine zL rfl (zS [(80000, 80000)] 64 (zCy hy22) zCi rfl rfl kk rfl (zR kk zX) rfl kk rfl rfl rfl) ?_
    refine YF ?_
    obtain rfl := zB h
    show St.keep _ _ _ = _
    kernel_rfl
   ·refine zH ?_
    obtain rfl := zB h
    show St.keep _ _ _ = _
    kernel_rfl
  ·refine zH ?_
   obtain rfl := zB h
   show St.keep _ _ _ = _
   kernel_rfl
 obtain ⟨j23, hj23, h⟩ := zA h
 refine zCw (mb 115 497) [64, 40, 32, 80000] (s1 := ⟨.pt 80000 0 :: bt 3 (.pt 32 0 :: .pt 40 0 :: .c (.v (.string j8.1)) :: .c (.v (.string j8.2.1)) :: .pt 64 0 :: bt 106 []), [(64, .box [Ti j8.2.2.1, Ti j8.2.2.2.1, Ti j8.2.2.2.2.1]), (40, .box [Ti y3.1, .v (.string j23.1), .v (.string ByteArray.empty), .v (.string ByteArray.empty), Ti 0, Ti 0, Ti 0]), (32, .box [Ti 0, .v (.string ByteArray.empty), .v (.string ByteArray.empty), .v (.string ByteArray.empty), Ti 0, Ti 0, Ti 0]), (80000, .pbox (σ 80000) [.sl (j23.2.1.map c5), Ti j23.2.2.1, .v (.int .u64 j23.2.2.2)])]⟩) ?_ ?_
 ·clear h
  have h := hj23
  clear hj23
  obtain ⟨t26, ht26, h⟩ := zA h
  have ht26 := zB ht26
  refine zO (mb 115 151115727451828646838769) [64, 40, 32, 80000] (s1 := ⟨.pt 80000 0 :: bt 3 (.pt 32 0 :: .pt 40 0 :: .c (.v (.string j8.1)) :: .c (.v (.string j8.2.1)) :: .pt 64 0 :: bt 68 (Bo t26 :: bt 37 [])), [(64, .box [Ti j8.2.2.1, Ti j8.2.2.2.1, Ti j8.2.2.2.2.1]), (40, .box [Ti y3.1, .v (.string j8.2.2.2.2.2.1), .v (.string ByteArray.empty), .v (.string ByteArray.empty), Ti 0, Ti 0, Ti 0]), (32, .box [Ti 0, .v (.string ByteArray.empty), .v (.string ByteArray.empty), .v (.string ByteArray.empty), Ti 0, Ti 0, Ti 0]), (80000, .pbox (σ 80000) [.sl (j8.2.2.2.2.2.2.1.map c5), Ti j8.2.2.2.2.2.2.2.1, .v (.int .u64 j8.2.2.2.2.2.2.2.2)])]⟩) ?_ ?_
  ·refine YR 1 ?_
   refine L0 rfl rfl (qQ (c := c73) (xs := l2) Tryz.underlying43 rfl kk) ?_
   refine YR 2 ?_
   refine zE (ltI 10 ((l2.length : Int))) (fun hc24 => ?_) (fun hc24 => ?_)
   ·refine YQ hc24 ?_
    refine YR 4 ?_
    refine zE (eqI y3.1 1) (fun hc25 => ?_) (fun hc25 => ?_)
    ·refine YQ hc25 ?_
     exact YE (by rw [← ht26]; (try rw [hc24]); (try rw [hc25]); kernel_rfl)
    ·refine YQ hc25 ?_
     exact YE (by rw [← ht26]; (try rw [hc24]); (try rw [hc25]); kernel_rfl)
   ·refine YQ hc24 ?_
    exact YE (by rw [← ht26]; (try rw [hc24]); kernel_rfl)
  refine VC h (fun h => ?_) (fun h => ?_)
  ·obtain ⟨y28, hy28, h⟩ := zA h
   refine zY ?_
   refine YR 1 ?_
   refine L1 rfl rfl (qP (z := zv9) (els := [(⟨#[122, 122]⟩ : ByteArray), (⟨#[122, 121]⟩ : ByteArray), (⟨#[97]⟩ : ByteArray), (⟨#[122, 120]⟩ : ByteArray)].map c9) Tryz.underlying66 iz9 rfl (by decide) rfl kk rfl (by simp [c9]) (by decide) (by decide)) ?_
   refine zDT 632 (T := 9) (sz := 1) (els := ([(⟨#[122, 122]⟩ : ByteArray), (⟨#[122, 121]⟩ : ByteArray), (⟨#[97]⟩ : ByteArray), (⟨#[122, 120]⟩ : ByteArray)]).map c9) kk rfl ?_
   refine zL rfl (zS [(80000, 80000)] 80 (zFQ hy28) zEx rfl rfl kk rfl (zR kk zX) rfl kk rfl rfl rfl) ?_
   refine YF ?_
   obtain rfl := zB h
   show St.keep _ _ _ = _
   kernel_rfl
  ·refine zH ?_
   obtain rfl := zB h
   show St.keep _ _ _ = _
   kernel_rfl
 obtain ⟨j29, hj29, h⟩ := zA h
 refine zCw (mb 115 49) [40, 32, 80000] (s1 := ⟨.pt 80000 0 :: bt 3 (.pt 32 0 :: .pt 40 0 :: bt 109 []), [(40, .box [Ti y3.1, .v (.string j23.1), .v (.string j29.1), .v (.string j29.2.1), Ti j29.2.2.1, Ti j29.2.2.2.1, Ti j29.2.2.2.2]), (32, .box [Ti 0, .v (.string ByteArray.empty), .v (.string ByteArray.empty), .v (.string ByteArray.empty), Ti 0, Ti 0, Ti 0]), (80000, .pbox (σ 80000) [.sl (j23.2.1.map c5), Ti j23.2.2.1, .v (.int .u64 j23.2.2.2)])]⟩) ?_ ?_
 ·clear h
  have h := hj29
  clear hj29
  refine VE ?_
  refine zN ?_
  obtain ⟨j30, hj30, h⟩ := zA h
  refine zCw (mb 115 29014219670751100192948721) [64, 40, 32, 80000] (s1 := ⟨.pt 80000 0 :: bt 3 (.pt 32 0 :: .pt 40 0 :: .c (.v (.string j8.1)) :: .c (.v (.string j8.2.1)) :: .pt 64 0 :: bt 74 (I y3.1 :: Bo j30 :: bt 30 [])), [(64, .box [Ti j8.2.2.1, Ti j8.2.2.2.1, Ti j8.2.2.2.2.1]), (40, .box [Ti y3.1, .v (.string j23.1), .v (.string ByteArray.empty), .v (.string ByteArray.empty), Ti 0, Ti 0, Ti 0]), (32, .box [Ti 0, .v (.string ByteArray.empty), .v (.string ByteArray.empty), .v (.string ByteArray.empty), Ti 0, Ti 0, Ti 0]), (80000, .pbox (σ 80000) [.sl (j23.2.1.map c5), Ti j23.2.2.1, .v (.int .u64 j23.2.2.2)])]⟩) ?_ ?_
  ·clear h
   have h := hj30
   clear hj30
   refine VE ?_
   refine VC h (fun h => ?_) (fun h => ?_)
   ·refine zH ?_
    obtain rfl := zB h
    show St.keep _ _ _ = _
    kernel_rfl
   ·refine zY ?_
    refine YF ?_
    obtain rfl := zB h
    show St.keep _ _ _ = _
    kernel_rfl
  refine VC h (fun h => ?_) (fun h => ?_)
  ·refine zY ?_
   refine YF ?_
   obtain rfl := zB h
   show St.keep _ _ _ = _
   kernel_rfl
  ·refine VE ?_
   refine VC h (fun h => ?_) (fun h => ?_)
   ·refine VE ?_
    refine zY ?_
    refine YF ?_
    obtain rfl := zB h
    show St.keep _ _ _ = _
    kernel_rfl
   ·refine VE ?_
    refine VC h (fun h => ?_) (fun h => ?_)
    ·refine zY ?_
     refine YF ?_
     obtain rfl := zB h
     show St.keep _ _ _ = _
     kernel_rfl
    ·refine zH ?_
     obtain rfl := zB h
     show St.keep _ _ _ = _
     kernel_rfl
 refine zK ?_
 obtain ⟨y35, hy35, h⟩ := zA h
 refine VS ?_
 refine YR 1 ?_
 refine zL rfl (zS [(80000, 80000)] 100 (zI hy35) zG rfl rfl kk rfl (zR kk zX) rfl kk rfl rfl rfl) ?_
 refine YF ?_
 refine zN ?_
 refine VE ?_
 refine VC h (fun h => ?_) (fun h => ?_)
 ·obtain ⟨y37, hy37, h⟩ := zA h
  refine zY ?_
  refine YR 1 ?_
  refine L1 rfl rfl (qP (z := zv3) (els := [0, 6, -1, 2].map c3) Tryz.underlying24 iz3 rfl (by decide) rfl kk rfl (by simp [c3]) (by decide) (by decide)) ?_
  refine zDT 832 (T := 3) (sz := 1) (els := ([0, 6, -1, 2]).map c3) kk rfl ?_
  refine zL rfl (zS [(80000, 80000)] 105 (zB2 hy37) zBR rfl rfl kk rfl (zR kk zX) rfl kk rfl rfl rfl) ?_
  refine YF ?_
  show V _ _ _ _
  refine VE ?_
  cases h
  exact zF VTR
 ·refine VE ?_
  refine VC h (fun h => ?_) (fun h => ?_)
  ·refine zY ?_
   refine YF ?_
   show V _ _ _ _
   refine VE ?_
   cases h
   exact zF VTR
  ·refine VE ?_
   refine VC h (fun h => ?_) (fun h => ?_)
   ·refine zY ?_
    refine L0 rfl rfl (zW (cs := [Ti 1, Ti 0, Ti 1]) pl38 bt38 rfl rfl kk) ?_
    refine YF ?_
    show V _ _ _ _
    refine VE ?_
    cases h
    exact zF VTR
   ·refine zH ?_
    show V _ _ _ _
    refine VE ?_
    cases h
    exact zF VTR
theorem zEc : CfW Tryz.prog 92 := cfW Tryz.func92
theorem zEz {vs1 : ByteArray} {r : Bool} (h : zCE vs1 = some r) : zV Tryz.prog 92 [.c (.v (.string vs1))] (Bo r) [] := by
 refine CtW [2] Tryz.func92 rfl rfl 23 ?_
 unfold zCE at h
 refine VE ?_
 refine zK ?_
 refine VE ?_
 obtain ⟨qo4, hLo4, hko4⟩ := zA h
 refine zFN (q := qo4) (S := fun o4 => ⟨.c (.v (.string vs1)) :: bt 22 [], []⟩) (mb 23 1) [] ?_ ?_
 ·refine zN (jM (fun n s => ∃ (i2 : Int), s.keep (mb 23 9) [] = (⟨.c (.v (.string vs1)) :: .bot :: .bot :: I i2 :: bt 19 [], []⟩ : St) ∧ zCI vs1 n i2 = some qo4) FU ⟨_,  kk, hLo4⟩ ?_)
  clear hLo4
  rintro n s ⟨i2, hs, h⟩
  refine jF _ _ hs ?_
  clear hs
  cases n with
  | zero => cases h
  | succ n =>
   rw [zCI] at h
   refine zK ?_
   refine VS ?_
   refine YF ?_
   refine VC h (fun h => ?_) (fun h => ?_)
   ·refine zH ?_
    show V _ _ _ _
    refine zK ?_
    refine zN ?_
    obtain ⟨e6, he6, h⟩ := zA h
    obtain ⟨b9, hb9, h⟩ := zA h
    refine zO (mb 23 524297) [] (s1 := ⟨.c (.v (.string vs1)) :: .bot :: .bot :: I i2 :: bt 15 (Bo b9 :: bt 3 []), []⟩) ?_ ?_
    ·refine YR 2 ?_
     refine L0 rfl rfl (zC9 (b := vs1) (k := .i64) (n := i2) (v := e6) Tryz.underlying9 rfl kk kk he6) ?_
     refine YR 2 ?_
     refine zE (ltI e6 97) (fun hc7 => ?_) (fun hc7 => ?_)
     ·have hb9 := zB (qH hb9 hc7)
      refine YQ hc7 ?_
      exact YE (by rw [← hb9]; (try rw [hc7]); kernel_rfl)
     ·have hb9 := z7 hb9 hc7
      obtain ⟨e8, he8, hb9⟩ := zA hb9
      have hb9 := zB hb9
      refine YQ hc7 ?_
      refine YR 2 ?_
      refine YT (qB rfl (zC9 (b := vs1) (k := .i64) (n := i2) (v := e8) Tryz.underlying9 rfl kk kk he8)) ?_
      exact YE (by rw [← hb9]; (try rw [hc7]); kernel_rfl)
    refine VC h (fun h => ?_) (fun h => ?_)
    ·refine VE ?_
     refine zF ?_
     obtain rfl := zB h
     have h := hko4
     obtain rfl := zB h
     exact VT
    ·refine zH ?_
     show V _ _ _ _
     obtain ⟨i11, hi11, h⟩ := zT h
     refine jC (mb 23 9) [] (s1 := ⟨.c (.v (.string vs1)) :: .bot :: .bot :: I i11 :: bt 19 [], []⟩) ?_ ?_
     ·refine XR 3 ?_
      refine zM ?_
      subst hi11
      kernel_rfl
     exact ⟨n, Nat.lt_succ_self n, _,  kk, h⟩
   ·refine jE ?_
    obtain rfl := zB h
    exact ⟨_, rfl, kk⟩
 rintro o4 rfl
 have h := hko4
 clear hko4
 show V _ _ _ _
 obtain ⟨y12, hy12, h⟩ := zA h
 refine VS ?_
 refine YK 2 (zET hy12) zDp ?_
 refine YF ?_
 cases h
 exact zF VT
theorem zEd : CfW Tryz.prog 93 := cfW Tryz.func93
theorem zEp {kind1 : Int} {r : Bool} (h : zA7 kind1 = some r) : zV Tryz.prog 93 [I kind1] (Bo r) [] := by
 refine CtW [2] Tryz.func93 rfl rfl 9 ?_
 unfold zA7 at h
 refine VE ?_
 refine zO (mb 9 4) [] (s1 := ⟨.bot :: .bot :: Bo (bif (eqI kind1 1) then true else (eqI kind1 5)) :: bt 6 [], []⟩) ?_ ?_
 ·refine YR 3 ?_
  refine zE (eqI kind1 1) (fun hc2 => ?_) (fun hc2 => ?_)
  ·refine YQ hc2 ?_
   exact YE (by rw [hc2]; kernel_rfl)
  ·refine YQ hc2 ?_
   exact YE (by rw [hc2]; kernel_rfl)
 cases h
 exact zF VT
theorem zD2 : CfW Tryz.prog 49 := cfW Tryz.func49
theorem zDi {c1 : (Int × ByteArray × ByteArray × ByteArray × ((Int × Int × Int)))} {r : Bool} (h : jX c1 = some r) : zV Tryz.prog 49 [.ag [Ti c1.1, .v (.string c1.2.1), .v (.string c1.2.2.1), .v (.string c1.2.2.2.1), Ti c1.2.2.2.2.1, Ti c1.2.2.2.2.2.1, Ti c1.2.2.2.2.2.2]] (Bo r) [] := by
 refine CtW [2] Tryz.func49 rfl rfl 63 ?_
 unfold jX at h
 refine VE ?_
 refine zK ?_
 obtain ⟨y2, hy2, h⟩ := zA h
 obtain ⟨b5, hb5, h⟩ := zA h
 refine zO (mb 63 4098) [8] (s1 := ⟨.bot :: .pt 8 0 :: bt 10 (Bo b5 :: bt 50 []), [(8, .box [Ti c1.1, .v (.string c1.2.1), .v (.string c1.2.2.1), .v (.string c1.2.2.2.1), Ti c1.2.2.2.2.1, Ti c1.2.2.2.2.2.1, Ti c1.2.2.2.2.2.2])]⟩) ?_ ?_
 ·refine YK 2 (zET hy2) zDp ?_
  refine YR 2 ?_
  refine zE (!y2) (fun hc3 => ?_) (fun hc3 => ?_)
  ·have hb5 := zB (qH hb5 hc3)
   refine YQ hc3 ?_
   exact YE (by rw [← hb5]; (try rw [hc3]); kernel_rfl)
  ·have hb5 := z7 hb5 hc3
   obtain ⟨y4, hy4, hb5⟩ := zA hb5
   have hb5 := zB hb5
   refine YQ hc3 ?_
   refine YK 2 (zEz hy4) zEc ?_
   exact YE (by rw [← hb5]; (try rw [hc3]); kernel_rfl)
 refine VC h (fun h => ?_) (fun h => ?_)
 ·refine VE ?_
  cases h
  exact zF VT
 ·refine zH ?_
  show V _ _ _ _
  refine zK ?_
  obtain ⟨y7, hy7, h⟩ := zA h
  refine VS ?_
  refine YK 2 (zEp hy7) zEd ?_
  refine YF ?_
  refine VC h (fun h => ?_) (fun h => ?_)
  ·obtain ⟨y9, hy9, h⟩ := zA h
   obtain ⟨t12, ht12, h⟩ := zA h
   have ht12 := zB ht12
   refine zO (mb 63 4) [] (s1 := ⟨.bot :: .bot :: Bo t12 :: bt 60 [], []⟩) ?_ ?_
   ·refine YK 2 (zI7 hy9) zHv ?_
    refine YR 1 ?_
    refine zE y9 (fun hc10 => ?_) (fun hc10 => ?_)
    ·refine YQ hc10 ?_
     refine YR 5 ?_
     refine zE (bif y9 then (c1.2.2.1.toList == ((⟨#[]⟩ : ByteArray)).toList) else false) (fun hc11 => ?_) (fun hc11 => ?_)
     ·refine YQ hc11 ?_ (by rw [hc10]; kernel_rfl)
      exact YE (by rw [← ht12]; (try rw [hc11]); (try rw [hc10]); kernel_rfl)
     ·refine YQ hc11 ?_ (by rw [hc10]; kernel_rfl)
      exact YE (by rw [← ht12]; (try rw [hc11]); (try rw [hc10]); kernel_rfl)
    ·refine YQ hc10 ?_
     refine YR 5 ?_
     refine zE (bif y9 then (c1.2.2.1.toList == ((⟨#[]⟩ : ByteArray)).toList) else false) (fun hc11 => ?_) (fun hc11 => ?_)
     ·refine YQ hc11 ?_ (by rw [hc10]; kernel_rfl)
      exact YE (by rw [← ht12]; (try rw [hc11]); (try rw [hc10]); kernel_rfl)
     ·refine YQ hc11 ?_ (by rw [hc10]; kernel_rfl)
      exact YE (by rw [← ht12]; (try rw [hc11]); (try rw [hc10]); kernel_rfl)
   cases h
   exact zF VT
  ·refine zH ?_
   show V _ _ _ _
   refine zK ?_
   obtain ⟨t13, ht13, h⟩ := zA h
   have ht13 := zB ht13
   refine zO (mb 63 4294967298) [8] (s1 := ⟨.bot :: .pt 8 0 :: bt 30 (Bo t13 :: bt 30 []), [(8, .box [Ti c1.1, .v (.string c1.2.1), .v (.string c1.2.2.1), .v (.string c1.2.2.2.1), Ti c1.2.2.2.2.1, Ti c1.2.2.2.2.2.1, Ti c1.2.2.2.2.2.2])]⟩) ?_ ?_
   ·refine XR 2 ?_
    refine L0 rfl rfl (zW (cs := [Ti 0, Ti 0, Ti 0]) pl38 bt38 rfl rfl kk) ?_
    refine L0 rfl rfl (zLL (a0 := c1.2.2.2.2.1) (b0 := 0) (a1 := c1.2.2.2.2.2.1) (b1 := 0) (a2 := c1.2.2.2.2.2.2) (b2 := 0) neg38 rfl kk kk) ?_
    refine zM ?_
    subst ht13
    kernel_rfl
   refine VC h (fun h => ?_) (fun h => ?_)
   ·refine VE ?_
    cases h
    exact zF VT
   ·refine zH ?_
    show V _ _ _ _
    refine zK ?_
    refine VE ?_
    refine zN ?_
    refine VE ?_
    refine VC h (fun h => ?_) (fun h => ?_)
    ·obtain ⟨y16, hy16, h⟩ := zA h
     obtain ⟨b19, hb19, h⟩ := zA h
     refine zO (mb 63 4) [] (s1 := ⟨.bot :: .bot :: Bo b19 :: bt 60 [], []⟩) ?_ ?_
     ·refine YK 2 (zEz hy16) zEc ?_
      refine YR 1 ?_
      refine zE y16 (fun hc17 => ?_) (fun hc17 => ?_)
      ·have hb19 := qH hb19 hc17
       obtain ⟨y18, hy18, hb19⟩ := zA hb19
       have hb19 := zB hb19
       refine YQ hc17 ?_
       refine YK 2 (zEz hy18) zEc ?_
       exact YE (by rw [← hb19]; (try rw [hc17]); kernel_rfl)
      ·have hb19 := zB (z7 hb19 hc17)
       refine YQ hc17 ?_
       exact YE (by rw [← hb19]; (try rw [hc17]); kernel_rfl)
     cases h
     exact zF VT
    ·refine VE ?_
     refine VC h (fun h => ?_) (fun h => ?_)
     ·obtain ⟨y21, hy21, h⟩ := zA h
      obtain ⟨t23, ht23, h⟩ := zA h
      have ht23 := zB ht23
      refine zO (mb 63 4) [] (s1 := ⟨.bot :: .bot :: Bo t23 :: bt 60 [], []⟩) ?_ ?_
      ·refine YK 2 (zEz hy21) zEc ?_
       refine YR 1 ?_
       refine zE y21 (fun hc22 => ?_) (fun hc22 => ?_)
       ·refine YQ hc22 ?_
        exact YE (by rw [← ht23]; (try rw [hc22]); kernel_rfl)
       ·refine YQ hc22 ?_
        exact YE (by rw [← ht23]; (try rw [hc22]); kernel_rfl)
      cases h
      exact zF VT
     ·refine zH ?_
      show V _ _ _ _
      obtain ⟨t25, ht25, h⟩ := zA h
      have ht25 := zB ht25
      refine zO (mb 63 4) [] (s1 := ⟨.bot :: .bot :: Bo t25 :: bt 60 [], []⟩) ?_ ?_
      ·refine YR 4 ?_
       refine zE (c1.2.2.1.toList == ((⟨#[]⟩ : ByteArray)).toList) (fun hc24 => ?_) (fun hc24 => ?_)
       ·refine YQ hc24 ?_
        exact YE (by rw [← ht25]; (try rw [hc24]); kernel_rfl)
       ·refine YQ hc24 ?_
        exact YE (by rw [← ht25]; (try rw [hc24]); kernel_rfl)
      cases h
      exact zF VT
theorem zFh : CfW Tryz.prog 95 := cfW Tryz.func95
theorem zFy {l1 : List ((ByteArray × ((Int × Int × Int))))} {name2 : ByteArray} {r : Int} (h : zBI l1 name2 = some r) : zV Tryz.prog 95 [.c (.sl (l1.map c73)), .c (.v (.string name2))] (I r) [] := by
 refine CtW [4] Tryz.func95 rfl rfl 20 ?_
 unfold zBI at h
 refine VE ?_
 refine zK ?_
 refine VS ?_
 refine YR 1 ?_
 refine L0 rfl rfl (qQ (c := c73) (xs := l1) Tryz.underlying43 rfl kk) ?_
 refine YF ?_
 obtain ⟨qo5, hLo5, hko5⟩ := zA h
 refine zFN (q := qo5) (S := fun o5 => ⟨bt 20 [], []⟩) (mb 20 0) [] ?_ ?_
 ·refine zN (jM (fun n s => ∃ (t3 : Int), s.keep (mb 20 898) [] = (⟨.bot :: .c (.v (.string name2)) :: bt 5 (.c (.sl (l1.map c73)) :: I ((l1.length : Int)) :: I t3 :: bt 10 []), []⟩ : St) ∧ zBA l1 name2 n t3 = some qo5) FU ⟨_,  kk, hLo5⟩ ?_)
  clear hLo5
  rintro n s ⟨t3, hs, h⟩
  refine jF _ _ hs ?_
  clear hs
  cases n with
  | zero => cases h
  | succ n =>
   rw [zBA] at h
   refine VE ?_
   refine zK ?_
   refine VC h (fun h => ?_) (fun h => ?_)
   ·refine zH ?_
    show V _ _ _ _
    refine zK ?_
    refine zN ?_
    obtain ⟨e7, he7, h⟩ := zA h
    refine VS ?_
    refine YR 1 ?_
    refine L0 rfl rfl (zBG (c := c73) (xs := l1) (v := e7) (n := t3) Tryz.underlying43 sz73 rfl kk kk he7) ?_
    refine YF ?_
    refine VS ?_
    refine YF ?_
    refine VC h (fun h => ?_) (fun h => ?_)
    ·refine VE ?_
     refine zF ?_
     obtain rfl := zB h
     have h := hko5
     obtain rfl := zB h
     exact VT
    ·refine zH ?_
     show V _ _ _ _
     obtain ⟨t9, ht9, h⟩ := zT h
     refine jC (mb 20 898) [] (s1 := ⟨.bot :: .c (.v (.string name2)) :: bt 5 (.c (.sl (l1.map c73)) :: I ((l1.length : Int)) :: I t9 :: bt 10 []), []⟩) ?_ ?_
     ·refine XR 2 ?_
      refine zM ?_
      subst ht9
      kernel_rfl
     exact ⟨n, Nat.lt_succ_self n, _,  kk, h⟩
   ·refine jE ?_
    obtain rfl := zB h
    exact ⟨_, rfl, kk⟩
 rintro o5 rfl
 have h := hko5
 clear hko5
 show V _ _ _ _
 refine VE ?_
 cases h
 exact zF VT
theorem zHs : CfW Tryz.prog 96 := cfW Tryz.func96
theorem zI5 {l1 : List ((ByteArray × ((Int × Int × Int))))} {vat2 : Int} {r : List ((ByteArray × ((Int × Int × Int))))} (h : zDP l1 vat2 = some r) : zV Tryz.prog 96 [.c (.sl (l1.map c73)), I vat2] (.ow 0) [(0, .arr 73 4 (r.map c73))] := by
 refine CtW [4] Tryz.func96 rfl rfl 17 ?_
 unfold zDP at h
 refine VS ?_
 refine L1 rfl rfl (zAc (e := 73) 4 (by decide) (.inl rfl)) ?_
 refine YF ?_
 obtain ⟨u3, hu3, h⟩ := zA h
 obtain ⟨u4, hu4, h⟩ := zA h
 obtain ⟨l5, hl5, h⟩ := zA h
 have hl5 := zB hl5
 refine zO (mb 17 35) [48] (s1 := ⟨.c (.sl (l1.map c73)) :: I vat2 :: bt 3 (.ow 48 :: bt 11 []), [(48, .arr 73 4 (l5.map c73))]⟩) ?_ ?_
 ·refine L1 rfl rfl (zBt Tryz.underlying43 sz73 (by decide) rfl rfl) ?_
  refine XR 2 ?_
  refine L0 rfl rfl (zIC (c := c73) (xs := l1) (l := 0) (h := vat2) Tryz.underlying43 sz73 (fun _ => rfl) rfl kk (fun y hy => by cases hy) (fun _ => rfl) (fun y hy => by cases hy; exact ⟨.i64, kk⟩) (fun hh => by cases hh) (zAY hu3)) ?_
  refine zL rfl (zIV (c := c73) (xs := ([] : List ((ByteArray × ((Int × Int × Int)))))) (ys := subl l1 0 vat2) (id := 48) (z := zv73) rfl rfl Tryz.underlying43 zIc rfl kk kk kk (fun _ => rfl) (zAK hu4) (by decide)) ?_
  refine XR 1 ?_
  refine zM ?_
  subst hl5
  kernel_rfl
 obtain ⟨u6, hu6, h⟩ := zA h
 obtain ⟨u7, hu7, h⟩ := zA h
 refine VS ?_
 refine YR 4 ?_
 refine L0 rfl rfl (zIC (c := c73) (xs := l1) (l := w64 (vat2 + 1)) (h := (l1.length : Int)) Tryz.underlying43 sz73 (fun _ => rfl) rfl kk (fun y hy => by cases hy; exact ⟨.i64, kk⟩) (fun hh => by cases hh) (fun y hy => by cases hy) (fun _ => rfl) (zAY hu6)) ?_
 refine zL rfl (zIV (c := c73) (xs := l5) (ys := subl l1 (w64 (vat2 + 1)) ((l1.length : Int))) (id := 48) (z := zv73) rfl rfl Tryz.underlying43 zIc rfl kk kk kk (fun _ => rfl) (zAK hu7) (by decide)) ?_
 refine YF ?_
 cases h
 exact zF VT
theorem zKT : CfW Tryz.prog 274 := cfW Tryz.func274
theorem zKj {f1 : (Int × Int × Int)} {r : Int} (h : zEG f1 = some r) : zV Tryz.prog 274 [.ag [Ti f1.1, Ti f1.2.1, Ti f1.2.2]] (I r) [] := by
 refine CtW [2] Tryz.func274 rfl rfl 22 ?_
 unfold zEG at h
 refine VE ?_
 obtain ⟨y2, hy2, h⟩ := zA h
 obtain ⟨z3, hz3, h⟩ := zA h
 obtain ⟨t4, ht4, h⟩ := zT h
 refine zCj [0, 1, 0, 4, 15, 0, 32, 0, 128, 480, 0, 1024, 3072, 8160, 16383, 0, 32768, 98304, 262143, 524287] 20 (cdm 20 [45276113056, 45276113057, 45276112906, 45276112922, 45276112981, 45141361322, 45141362346, 45141207722, 45141224106, 45141284522, 45097855658, 45098904234, 45103098538, 45119526570, 45186635093, 715827882, 1789569706, 6084537002, 22906492245, 91625968981]) (mb 22 4) [] (s1 := ⟨.bot :: .bot :: I t4 :: bt 19 [], []⟩) kk kk ?_ ?_
 ·refine DR 13 ?_
  refine DC 13 (zBz hy2) zBb rfl rfl rfl rfl 16 rfl ?_
  refine DR 4 ?_
  refine DE_0 18 (I (w64 (Int.tdiv (w64 ((w64 (f1.1 - f1.2.1)) - y2)) (w64 (2 * f1.1))))) kk rfl rfl rfl (qS rfl) kk (zAJ (a := w64 ((w64 (f1.1 - f1.2.1)) - y2)) (b := w64 (2 * f1.1)) rfl kk kk (zAA hz3)) 21 rfl ?_
  refine DA 1 ?_
  refine zM ?_
  subst ht4
  kernel_rfl
 cases h
 exact zF VT
theorem zLw : CfW Tryz.prog 236 := cfW Tryz.func236
theorem s_spec_reMove {f1 : (Int × Int × Int)} {r : (Int × Int × Int × Int)} (h : zDO f1 = some r) : zV Tryz.prog 236 [.ag [Ti f1.1, Ti f1.2.1, Ti f1.2.2]] (.ag [Ti r.1, Ti r.2.1, Ti r.2.2.1, Ti r.2.2.2]) [] := by
 refine zZ (rs := [.w 2 4]) (vs := [.cell 2 109]) Tryz.func236 rfl rfl (.cons ⟨rfl, zGJ⟩ FitsL.nil) (by decide) 14 rfl ?_
 unfold zDO at h
 refine VE ?_
 refine zK ?_
 obtain ⟨y2, hy2, h⟩ := zA h
 refine VS ?_
 refine YK 1 (zKj hy2) zKT ?_
 refine YF ?_
 refine VE ?_
 refine VC h (fun h => ?_) (fun h => ?_)
 ·refine VS ?_
  refine YR 1 ?_
  refine L0 rfl rfl (zW (cs := [Ti 1, Ti y2, Ti 0, Ti 1]) zE7 zEo rfl rfl kk) ?_
  refine YF ?_
  cases h
  exact zF VT
 ·refine zH ?_
  show V _ _ _ _
  refine zK ?_
  obtain ⟨y4, hy4, h⟩ := zA h
  refine VS ?_
  refine YK 1 (zHW hy4) zGr ?_
  refine YF ?_
  refine VC h (fun h => ?_) (fun h => ?_)
  ·refine VS ?_
   refine L0 rfl rfl (zW (cs := [Ti 1, Ti 0, Ti 0, Ti 1]) zE7 zEo rfl rfl kk) ?_
   refine YF ?_
   cases h
   exact zF VT
  ·refine zH ?_
   show V _ _ _ _
   refine VS ?_
   refine L0 rfl rfl (zW (cs := [Ti 0, Ti (-1), Ti 1, Ti 0]) zE7 zEo rfl rfl kk) ?_
   refine YF ?_
   cases h
   exact zF VT
theorem zEv : CfW Tryz.prog 183 := cfW Tryz.func183
theorem zFO {f1 : (Int × Int × Int)} {r : (((Int × Int × Int)) × ((Int × Int × Int × Int)))} (h : jN f1 = some r) : zV Tryz.prog 183 [.ag [Ti f1.1, Ti f1.2.1, Ti f1.2.2]] (.tc (.ag [Ti r.1.1, Ti r.1.2.1, Ti r.1.2.2]) (.tc (.ag [Ti r.2.1, Ti r.2.2.1, Ti r.2.2.2.1, Ti r.2.2.2.2]) .tn)) [] := by
 refine zZ (rs := [.w 2 3, .w 3 4]) (vs := [.cell 2 38, .cell 3 109]) Tryz.func183 rfl rfl (.cons ⟨rfl, wd38⟩ (.cons ⟨rfl, zGJ⟩ FitsL.nil)) (by decide) 20 rfl ?_
 unfold jN at h
 refine VE ?_
 refine VS ?_
 refine L0 rfl rfl (zW (cs := [Ti 1, Ti 0, Ti 0, Ti 1]) zE7 zEo rfl rfl kk) ?_
 refine YF ?_
 refine zK ?_
 obtain ⟨o10, hLo10, h⟩ := zA h
 refine zCS (mb 20 30) [32, 24, 16, 8] (s1 := ⟨.bot :: .pt 8 0 :: .pt 16 0 :: .pt 24 0 :: .pt 32 0 :: bt 15 [], [(32, .box [Ti o10.1, Ti o10.2.1, Ti o10.2.2.1, Ti o10.2.2.2.1]), (24, .box [Ti 0, Ti 0, Ti 0, Ti 0]), (16, .box [Ti 0, Ti 0, Ti 0]), (8, .box [Ti o10.2.2.2.2.1, Ti o10.2.2.2.2.2.1, Ti o10.2.2.2.2.2.2])]⟩) ?_ ?_
 ·clear h
  refine zN (jM (fun n s => ∃ (f2 : Int) (f3 : Int) (f4 : Int) (f5 : Int) (f6 : Int) (f7 : Int) (f8 : Int), s.keep (mb 20 30) [32, 24, 16, 8] = (⟨.bot :: .pt 8 0 :: .pt 16 0 :: .pt 24 0 :: .pt 32 0 :: bt 15 [], [(32, .box [Ti f2, Ti f3, Ti f4, Ti f5]), (24, .box [Ti 0, Ti 0, Ti 0, Ti 0]), (16, .box [Ti 0, Ti 0, Ti 0]), (8, .box [Ti f6, Ti f7, Ti f8])]⟩ : St) ∧ zB3 n f2 f3 f4 f5 f6 f7 f8 = some o10) FU ⟨_, _, _, _, _, _, _,  kk, hLo10⟩ ?_)
  clear hLo10
  rintro n s ⟨f2, f3, f4, f5, f6, f7, f8, hs, h⟩
  refine jF _ _ hs ?_
  clear hs
  cases n with
  | zero => cases h
  | succ n =>
   rw [zB3] at h
   refine zK ?_
   obtain ⟨y11, hy11, h⟩ := zA h
   refine VS ?_
   refine YK 1 (zHW hy11) zGr ?_
   refine YF ?_
   refine VC h (fun h => ?_) (fun h => ?_)
   ·refine zH ?_
    show V _ _ _ _
    refine zN ?_
    obtain ⟨y13, hy13, h⟩ := zA h
    refine VS ?_
    refine YK 1 (s_spec_reMove hy13) zLw ?_
    refine YF ?_
    obtain ⟨y14, hy14, h⟩ := zA h
    obtain ⟨y15, hy15, h⟩ := zA h
    refine VDR [0, 0, 3, 0, 0, 31, 63, 127] 6 (cdm 6 [648, 642, 645, 554, 170, 341]) ?_
    refine EK 2 (zGd hy14) zGH ?_
    refine EK 2 (zDA hy15) zCe ?_
    refine EF 0 ?_
    exact ⟨n, Nat.lt_succ_self n, _, _, _, _, _, _, _,  kk, h⟩
   ·refine jE ?_
    obtain rfl := zB h
    show St.keep _ _ _ = _
    kernel_rfl
 show V _ _ _ _
 refine VDS [0, 0, 1, 7] 3 [[.z, .b, .z], [.b, .z, .r 16], [.a, .b, .z]] ?_
 refine EF 3 ?_
 cases h
 exact zF VT
theorem zEL : CfW Tryz.prog 97 := cfW Tryz.func97
theorem zE1 {f1 : (Int × Int × Int)} {r : (Int × Int × Int)} (h : zAq f1 = some r) : zV Tryz.prog 97 [.ag [Ti f1.1, Ti f1.2.1, Ti f1.2.2]] (.ag [Ti r.1, Ti r.2.1, Ti r.2.2]) [] := by
 refine zZ (rs := [.w 2 3]) (vs := [.cell 2 38]) Tryz.func97 rfl rfl (.cons ⟨rfl, wd38⟩ FitsL.nil) (by decide) 11 rfl ?_
 unfold zAq at h
 refine VE ?_
 obtain ⟨y2, hy2, h⟩ := zA h
 refine VS ?_
 refine YK 1 (zFO hy2) zEv ?_
 refine YF ?_
 refine VE ?_
 cases h
 exact zF VT
theorem zId : CfW Tryz.prog 98 := cfW Tryz.func98
theorem zJO {l1 : List ((ByteArray × ((Int × Int × Int))))} {e2 : (ByteArray × ((Int × Int × Int)))} {r : List ((ByteArray × ((Int × Int × Int))))} (h : zDk l1 e2 = some r) : zV Tryz.prog 98 [.c (.sl (l1.map c73)), .ag [.v (.string e2.1), Ti e2.2.1, Ti e2.2.2.1, Ti e2.2.2.2]] (.ow 0) [(0, .arr 73 4 (r.map c73))] := by
 refine CtW [4] Tryz.func98 rfl rfl 37 ?_
 unfold zDk at h
 refine VS ?_
 refine YR 1 ?_
 refine L1 rfl rfl (zAc (e := 73) 4 (by decide) (.inl rfl)) ?_
 refine YF ?_
 refine VE ?_
 refine zK ?_
 obtain ⟨o5, hLo5, h⟩ := zA h
 refine zCS (mb 37 41) [24] (s1 := ⟨.c (.sl (l1.map c73)) :: .bot :: .bot :: .pt 24 0 :: .bot :: I o5 :: bt 31 [], [(24, .box [.v (.string e2.1), Ti e2.2.1, Ti e2.2.2.1, Ti e2.2.2.2])]⟩) ?_ ?_
 ·clear h
  refine zN (jM (fun n s => ∃ (k3 : Int), s.keep (mb 37 41) [24] = (⟨.c (.sl (l1.map c73)) :: .bot :: .bot :: .pt 24 0 :: .bot :: I k3 :: bt 31 [], [(24, .box [.v (.string e2.1), Ti e2.2.1, Ti e2.2.2.1, Ti e2.2.2.2])]⟩ : St) ∧ zBT e2 l1 n k3 = some o5) FU ⟨_,  kk, hLo5⟩ ?_)
  clear hLo5
  rintro n s ⟨k3, hs, h⟩
  refine jF _ _ hs ?_
  clear hs
  cases n with
  | zero => cases h
  | succ n =>
   rw [zBT] at h
   refine zK ?_
   obtain ⟨b8, hb8, h⟩ := zA h
   refine zCj [0, 0, 2, 7, 15, 31, 31, 127, 255, 511, 31, 1055, 4095, 8191] 14 (cdm 14 [40, 2, 6, 21, 85, 10494293, 10488149, 10491221, 10507605, 10573141, 698709, 1747285, 5592405, 22369621]) (mb 37 1048617) [24] (s1 := ⟨.c (.sl (l1.map c73)) :: .bot :: .bot :: .pt 24 0 :: .bot :: I k3 :: bt 14 (Bo b8 :: bt 16 []), [(24, .box [.v (.string e2.1), Ti e2.2.1, Ti e2.2.2.1, Ti e2.2.2.2])]⟩) kk kk ?_ ?_
   ·refine ER 2 ?_
    refine E0 2 rfl rfl (qQ (c := c73) (xs := l1) Tryz.underlying43 rfl kk) ?_
    refine ER 2 ?_
    refine zEj (ltI k3 ((l1.length : Int))) (fun hc6 => ?_) (fun hc6 => ?_)
    ·have hb8 := qH hb8 hc6
     obtain ⟨e7, he7, hb8⟩ := zA hb8
     have hb8 := zB hb8
     refine EQ hc6 ?_
     refine ER 2 ?_
     refine E0 7 rfl rfl (zBG (c := c73) (xs := l1) (v := e7) (n := k3) Tryz.underlying43 sz73 rfl kk kk he7) ?_
     refine ER 4 ?_
     refine E0 12 rfl rfl (Y0_lts (a := e7.1) (b := e2.1) rfl kk kk) ?_
     refine EA 1 ?_
     exact YE (by rw [← hb8]; (try rw [hc6]); kernel_rfl)
    ·have hb8 := zB (z7 hb8 hc6)
     refine EQ hc6 ?_
     refine EA 9 ?_
     exact YE (by rw [← hb8]; (try rw [hc6]); kernel_rfl)
   refine VC h (fun h => ?_) (fun h => ?_)
   ·refine zH ?_
    show V _ _ _ _
    refine zN ?_
    obtain ⟨k10, hk10, h⟩ := zT h
    refine jC (mb 37 41) [24] (s1 := ⟨.c (.sl (l1.map c73)) :: .bot :: .bot :: .pt 24 0 :: .bot :: I k10 :: bt 31 [], [(24, .box [.v (.string e2.1), Ti e2.2.1, Ti e2.2.2.1, Ti e2.2.2.2])]⟩) ?_ ?_
    ·refine XR 3 ?_
     refine zM ?_
     subst hk10
     kernel_rfl
    exact ⟨n, Nat.lt_succ_self n, _,  kk, h⟩
   ·refine jE ?_
    obtain rfl := zB h
    show St.keep _ _ _ = _
    kernel_rfl
 show V _ _ _ _
 obtain ⟨u11, hu11, h⟩ := zA h
 obtain ⟨u12, hu12, h⟩ := zA h
 obtain ⟨l13, hl13, h⟩ := zA h
 have hl13 := zB hl13
 refine zO (mb 37 105) [184, 24] (s1 := ⟨.c (.sl (l1.map c73)) :: .bot :: .bot :: .pt 24 0 :: .bot :: I o5 :: .ow 184 :: bt 30 [], [(184, .arr 73 4 (l13.map c73)), (24, .box [.v (.string e2.1), Ti e2.2.1, Ti e2.2.2.1, Ti e2.2.2.2])]⟩) ?_ ?_
 ·refine L1 rfl rfl (zBt Tryz.underlying43 sz73 (by decide) rfl rfl) ?_
  refine XR 2 ?_
  refine L0 rfl rfl (zIC (c := c73) (xs := l1) (l := 0) (h := o5) Tryz.underlying43 sz73 (fun _ => rfl) rfl kk (fun y hy => by cases hy) (fun _ => rfl) (fun y hy => by cases hy; exact ⟨.i64, kk⟩) (fun hh => by cases hh) (zAY hu11)) ?_
  refine zL rfl (zIV (c := c73) (xs := ([] : List ((ByteArray × ((Int × Int × Int)))))) (ys := subl l1 0 o5) (id := 184) (z := zv73) rfl rfl Tryz.underlying43 zIc rfl kk kk kk (fun _ => rfl) (zAK hu12) (by decide)) ?_
  refine XR 1 ?_
  refine zM ?_
  subst hl13
  kernel_rfl
 obtain ⟨u14, hu14, h⟩ := zA h
 refine VS ?_
 refine YR 2 ?_
 refine L1 rfl rfl (qP (z := zv73) (els := [e2].map c73) Tryz.underlying43 iz73 rfl (by decide) rfl kk rfl (by simp [c73]) (by decide) (by decide)) ?_
 refine zL rfl (zAn (c := c73) (xs := l13) (ys := [e2]) (id := 184) (z := zv73) rfl rfl Tryz.underlying43 zIc rfl kk kk kk (fun _ => rfl) (by simp) (zAK hu14) (by decide)) ?_
 refine YF ?_
 obtain ⟨u15, hu15, h⟩ := zA h
 obtain ⟨u16, hu16, h⟩ := zA h
 refine VS ?_
 refine YR 3 ?_
 refine L0 rfl rfl (zIC (c := c73) (xs := l1) (l := o5) (h := (l1.length : Int)) Tryz.underlying43 sz73 (fun _ => rfl) rfl kk (fun y hy => by cases hy; exact ⟨.i64, kk⟩) (fun hh => by cases hh) (fun y hy => by cases hy) (fun _ => rfl) (zAY hu15)) ?_
 refine zL rfl (zIV (c := c73) (xs := l13 ++ ([e2])) (ys := subl l1 o5 ((l1.length : Int))) (id := 184) (z := zv73) rfl rfl Tryz.underlying43 zIc rfl kk kk kk (fun _ => rfl) (zAK hu16) (by decide)) ?_
 refine YF ?_
 cases h
 exact zF VT
theorem zKs : CfW Tryz.prog 238 := cfW Tryz.func238
theorem zLU {g1 : (Int × Int × Int)} {a2 : Int} {r : (Int × Int)} (h : zCO g1 a2 = some r) : zV Tryz.prog 238 [.ag [Ti g1.1, Ti g1.2.1, Ti g1.2.2], I a2] (.tc (I r.1) (.tc (I r.2) .tn)) [] := by
 refine CtW [4, 5] Tryz.func238 rfl rfl 45 ?_
 unfold zCO at h
 refine VE ?_
 refine zK ?_
 refine VE ?_
 obtain ⟨qo5, hLo5, hko5⟩ := zA h
 refine zFN (q := qo5) (S := fun o5 => ⟨bt 45 [], []⟩) (mb 45 0) [] ?_ ?_
 ·refine zN (jM (fun n s => ∃ (k3 : Int), s.keep (mb 45 70) [16] = (⟨.bot :: I a2 :: .pt 16 0 :: bt 3 (I k3 :: bt 38 []), [(16, .box [Ti g1.1, Ti g1.2.1, Ti g1.2.2])]⟩ : St) ∧ zBk a2 g1 n k3 = some qo5) FU ⟨_,  kk, hLo5⟩ ?_)
  clear hLo5
  rintro n s ⟨k3, hs, h⟩
  refine jF _ _ hs ?_
  clear hs
  cases n with
  | zero => cases h
  | succ n =>
   rw [zBk] at h
   refine zK ?_
   refine VE ?_
   refine VC h (fun h => ?_) (fun h => ?_)
   ·refine zH ?_
    show V _ _ _ _
    refine zK ?_
    refine zN ?_
    refine VE ?_
    obtain ⟨qo9, hLo9, hko9⟩ := zA h
    refine zFN (q := qo9) (S := fun o9 => ⟨.bot :: I a2 :: .pt 16 0 :: bt 3 (I k3 :: bt 38 []), [(16, .box [Ti g1.1, Ti g1.2.1, Ti g1.2.2])]⟩) (mb 45 70) [16] ?_ ?_
    ·refine zN (jM (fun n s => ∃ (x7 : Int), s.keep (mb 45 198) [16] = (⟨.bot :: I a2 :: .pt 16 0 :: bt 3 (I k3 :: I x7 :: bt 37 []), [(16, .box [Ti g1.1, Ti g1.2.1, Ti g1.2.2])]⟩ : St) ∧ zBj a2 g1 k3 n x7 = some qo9) FU ⟨_,  kk, hLo9⟩ ?_)
     clear hLo9
     rintro n s ⟨x7, hs, h⟩
     refine jF _ _ hs ?_
     clear hs
     cases n with
     | zero => cases h
     | succ n =>
      rw [zBj] at h
      refine zK ?_
      refine VE ?_
      refine VC h (fun h => ?_) (fun h => ?_)
      ·refine zH ?_
       show V _ _ _ _
       refine zK ?_
       refine zN ?_
       refine VE ?_
       obtain ⟨qo13, hLo13, hko13⟩ := zA h
       refine zFN (q := qo13) (S := fun o13 => ⟨.bot :: I a2 :: .pt 16 0 :: bt 3 (I k3 :: I x7 :: bt 37 []), [(16, .box [Ti g1.1, Ti g1.2.1, Ti g1.2.2])]⟩) (mb 45 198) [16] ?_ ?_
       ·refine zN (jM (fun n s => ∃ (y11 : Int), s.keep (mb 45 454) [16] = (⟨.bot :: I a2 :: .pt 16 0 :: bt 3 (I k3 :: I x7 :: I y11 :: bt 36 []), [(16, .box [Ti g1.1, Ti g1.2.1, Ti g1.2.2])]⟩ : St) ∧ zB5 a2 g1 k3 x7 n y11 = some qo13) FU ⟨_,  kk, hLo13⟩ ?_)
        clear hLo13
        rintro n s ⟨y11, hs, h⟩
        refine jF _ _ hs ?_
        clear hs
        cases n with
        | zero => cases h
        | succ n =>
         rw [zB5] at h
         refine zK ?_
         refine VE ?_
         refine VC h (fun h => ?_) (fun h => ?_)
         ·refine zH ?_
          show V _ _ _ _
          refine zK ?_
          refine zN ?_
          obtain ⟨y15, hy15, h⟩ := zA h
          obtain ⟨b18, hb18, h⟩ := zA h
          obtain ⟨b22, hb22, h⟩ := zA h
          refine zO (mb 45 4398046511558) [16] (s1 := ⟨.bot :: I a2 :: .pt 16 0 :: bt 3 (I k3 :: I x7 :: I y11 :: bt 33 (Bo b22 :: .bot :: .bot :: [])), [(16, .box [Ti g1.1, Ti g1.2.1, Ti g1.2.2])]⟩) ?_ ?_
          ·refine YK 2 (zFz hy15) zFi ?_
           refine YR 3 ?_
           refine zE (eqI y15 k3) (fun hc16 => ?_) (fun hc16 => ?_)
           ·have hb18 := qH hb18 hc16
            obtain ⟨y17, hy17, hb18⟩ := zA hb18
            have hb18 := zB hb18
            refine YQ hc16 ?_
            refine YK 2 (zDh hy17) zDS ?_
            refine YR 3 ?_
            refine zE b18 (fun hc19 => ?_) (fun hc19 => ?_)
            ·have hb22 := qH hb22 hc19
             obtain ⟨y20, hy20, hb22⟩ := zA hb22
             obtain ⟨y21, hy21, hb22⟩ := zA hb22
             have hb22 := zB hb22
             refine YQ hc19 ?_ (by rw [← hb18]; (try rw [← hb22]); (try rw [hc16]); kernel_rfl)
             refine YK 3 (zE2 hy20) zEM ?_
             refine YK 1 (zDh hy21) zDS ?_
             exact YE (by rw [← hb22]; (try rw [hc16]); (try rw [hc19]); kernel_rfl)
            ·have hb22 := zB (z7 hb22 hc19)
             refine YQ hc19 ?_ (by rw [← hb18]; (try rw [← hb22]); (try rw [hc16]); kernel_rfl)
             exact YE (by rw [← hb22]; (try rw [hc16]); (try rw [hc19]); kernel_rfl)
           ·have hb18 := zB (z7 hb18 hc16)
            refine YQ hc16 ?_
            refine YR 6 ?_
            subst hb18
            have hc19 : false = false := rfl
            have hb22 := zB (z7 hb22 hc19)
            exact YE (by rw [← hb22]; (try rw [hc16]); kernel_rfl)
          refine VC h (fun h => ?_) (fun h => ?_)
          ·refine VE ?_
           refine zF ?_
           obtain rfl := zB h
           have h := hko13
           obtain rfl := zB h
           have h := hko9
           obtain rfl := zB h
           have h := hko5
           obtain rfl := zB h
           exact VT
          ·refine zH ?_
           show V _ _ _ _
           obtain ⟨y24, hy24, h⟩ := zT h
           refine jC (mb 45 454) [16] (s1 := ⟨.bot :: I a2 :: .pt 16 0 :: bt 3 (I k3 :: I x7 :: I y24 :: bt 36 []), [(16, .box [Ti g1.1, Ti g1.2.1, Ti g1.2.2])]⟩) ?_ ?_
           ·refine XR 3 ?_
            refine zM ?_
            subst hy24
            kernel_rfl
           exact ⟨n, Nat.lt_succ_self n, _,  kk, h⟩
         ·refine jE ?_
          obtain rfl := zB h
          exact ⟨_, rfl, kk⟩
       rintro o13 rfl
       have h := hko13
       clear hko13
       show V _ _ _ _
       obtain ⟨x25, hx25, h⟩ := zT h
       refine jC (mb 45 198) [16] (s1 := ⟨.bot :: I a2 :: .pt 16 0 :: bt 3 (I k3 :: I x25 :: bt 37 []), [(16, .box [Ti g1.1, Ti g1.2.1, Ti g1.2.2])]⟩) ?_ ?_
       ·refine XR 3 ?_
        refine zM ?_
        subst hx25
        kernel_rfl
       exact ⟨n, Nat.lt_succ_self n, _,  kk, h⟩
      ·refine jE ?_
       obtain rfl := zB h
       exact ⟨_, rfl, kk⟩
    rintro o9 rfl
    have h := hko9
    clear hko9
    show V _ _ _ _
    obtain ⟨k26, hk26, h⟩ := zT h
    refine jC (mb 45 70) [16] (s1 := ⟨.bot :: I a2 :: .pt 16 0 :: bt 3 (I k26 :: bt 38 []), [(16, .box [Ti g1.1, Ti g1.2.1, Ti g1.2.2])]⟩) ?_ ?_
    ·refine XR 3 ?_
     refine zM ?_
     subst hk26
     kernel_rfl
    exact ⟨n, Nat.lt_succ_self n, _,  kk, h⟩
   ·refine jE ?_
    obtain rfl := zB h
    exact ⟨_, rfl, kk⟩
 rintro o5 rfl
 have h := hko5
 clear hko5
 show V _ _ _ _
 refine VE ?_
 cases h
 exact zF VT
theorem zMB : CfW Tryz.prog 299 := cfW Tryz.func299
theorem s_spec_l1Sign {vn1 : Int} {r : Int} (h : zGB vn1 = some r) : zV Tryz.prog 299 [I vn1] (I r) [] := by
 refine CtW [2] Tryz.func299 rfl rfl 9 ?_
 unfold zGB at h
 refine VE ?_
 refine zK ?_
 refine zN ?_
 refine VE ?_
 refine VC h (fun h => ?_) (fun h => ?_)
 ·refine VE ?_
  cases h
  exact zF VT
 ·refine VE ?_
  refine VC h (fun h => ?_) (fun h => ?_)
  ·refine VE ?_
   cases h
   exact zF VT
  ·refine zH ?_
   show V _ _ _ _
   refine VE ?_
   cases h
   exact zF VT
theorem zFr : CfW Tryz.prog 276 := cfW Tryz.func276
theorem zGN {a1 : Int} {vm2 : Int} {r : Int} (h : zCH a1 vm2 = some r) : zV Tryz.prog 276 [I a1, I vm2] (I r) [] := by
 refine CtW [4] Tryz.func276 rfl rfl 36 ?_
 unfold zCH at h
 refine VE ?_
 obtain ⟨y3, hy3, h⟩ := zA h
 refine VS ?_
 refine YK 3 (zBz hy3) zBb ?_
 refine YF ?_
 refine zK ?_
 obtain ⟨o9, hLo9, h⟩ := zA h
 refine zCS (mb 36 162) [] (s1 := ⟨.bot :: I vm2 :: bt 3 (I o9.1 :: .bot :: I o9.2 :: bt 28 []), []⟩) ?_ ?_
 ·clear h
  refine zN (jM (fun n s => ∃ (vr4 : Int) (next5 : Int) (x6 : Int) (y7 : Int), s.keep (mb 36 482) [] = (⟨.bot :: I vm2 :: bt 3 (I vr4 :: I next5 :: I x6 :: I y7 :: bt 27 []), []⟩ : St) ∧ zBO vm2 n vr4 next5 x6 y7 = some o9) FU ⟨_, _, _, _,  kk, hLo9⟩ ?_)
  clear hLo9
  rintro n s ⟨vr4, next5, x6, y7, hs, h⟩
  refine jF _ _ hs ?_
  clear hs
  cases n with
  | zero => cases h
  | succ n =>
   rw [zBO] at h
   refine zK ?_
   refine VE ?_
   refine VC h (fun h => ?_) (fun h => ?_)
   ·refine zH ?_
    show V _ _ _ _
    refine zN ?_
    obtain ⟨z11, hz11, h⟩ := zA h
    obtain ⟨q12, hq12, h⟩ := zT h
    refine zO (mb 36 994) [] (s1 := ⟨.bot :: I vm2 :: bt 3 (I vr4 :: I next5 :: I x6 :: I y7 :: I q12 :: bt 26 []), []⟩) ?_ ?_
    ·refine XR 2 ?_
     refine L0 rfl rfl (zAJ (a := vr4) (b := next5) rfl kk kk (zAA hz11)) ?_
     refine XR 1 ?_
     refine zM ?_
     subst hq12
     kernel_rfl
    obtain ⟨next13, hnext13, h⟩ := zT h
    refine zO (mb 36 994) [] (s1 := ⟨.bot :: I vm2 :: bt 3 (I next5 :: I next13 :: I x6 :: I y7 :: I q12 :: bt 26 []), []⟩) ?_ ?_
    ·refine XR 8 ?_
     refine zM ?_
     subst hnext13
     kernel_rfl
    obtain ⟨y14, hy14, h⟩ := zT h
    refine jC (mb 36 482) [] (s1 := ⟨.bot :: I vm2 :: bt 3 (I next5 :: I next13 :: I y7 :: I y14 :: bt 27 []), []⟩) ?_ ?_
    ·refine XR 8 ?_
     refine zM ?_
     subst hy14
     kernel_rfl
    exact ⟨n, Nat.lt_succ_self n, _, _, _, _,  kk, h⟩
   ·refine jE ?_
    obtain rfl := zB h
    show St.keep _ _ _ = _
    kernel_rfl
 show V _ _ _ _
 refine zK ?_
 refine VE ?_
 refine VC h (fun h => ?_) (fun h => ?_)
 ·refine VE ?_
  cases h
  exact zF VT
 ·refine zH ?_
  show V _ _ _ _
  obtain ⟨y16, hy16, h⟩ := zA h
  refine VS ?_
  refine YK 2 (zBz hy16) zBb ?_
  refine YF ?_
  cases h
  exact zF VT
theorem zKV : CfW Tryz.prog 275 := cfW Tryz.func275
theorem zKl {a1 : Int} {b2 : Int} {r : (Int × Int × Int)} (h : zDL a1 b2 = some r) : zV Tryz.prog 275 [I a1, I b2] (.tc (I r.1) (.tc (I r.2.1) (.tc (I r.2.2) .tn))) [] := by
 refine CtW [4, 5, 6] Tryz.func275 rfl rfl 34 ?_
 unfold zDL at h
 refine VE ?_
 obtain ⟨y3, hy3, h⟩ := zA h
 refine VS ?_
 refine YK 2 (zDh hy3) zDS ?_
 refine YF ?_
 refine zK ?_
 refine VE ?_
 refine VC h (fun h => ?_) (fun h => ?_)
 ·obtain ⟨y5, hy5, h⟩ := zA h
  refine VS ?_
  refine YK 2 (s_spec_l1Sign hy5) zMB ?_
  refine YF ?_
  cases h
  exact zF VT
 ·refine zH ?_
  show V _ _ _ _
  obtain ⟨z6, hz6, h⟩ := zA h
  obtain ⟨y7, hy7, h⟩ := zA h
  obtain ⟨z8, hz8, h⟩ := zA h
  obtain ⟨y9, hy9, h⟩ := zA h
  refine VDS [0, 0, 3, 0, 8, 0, 56, 127, 255] 9 (cdm 9 [10888, 10882, 10885, 2090, 2154, 682, 1386, 5461, 21845]) ?_
  refine ER 2 ?_
  refine E0 2 rfl rfl (zAJ (a := a1) (b := y3) rfl kk kk (zAA hz6)) ?_
  refine EK 1 (zGc hy7) zGG ?_
  refine ER 1 ?_
  refine E0 6 rfl rfl (zAJ (a := y7) (b := y3) rfl kk kk (zAA hz8)) ?_
  refine EK 0 (zGN hy9) zFr ?_
  refine EF 1 ?_
  obtain ⟨z10, hz10, h⟩ := zA h
  obtain ⟨t11, ht11, h⟩ := zT h
  refine zCj [0, 0, 0, 0, 0, 24, 60, 0, 252, 1, 515, 2047] 12 (cdm 12 [174760, 699042, 2656906, 2654762, 2654378, 2654570, 2655578, 2632362, 2643290, 174761, 436901, 1398101]) (mb 34 112) [] (s1 := ⟨bt 4 (I y3 :: I y9 :: I t11 :: bt 27 []), []⟩) kk kk ?_ ?_
  ·refine DR 8 ?_
   refine DE_0 8 (I (w64 (Int.tdiv (w64 (y3 - (w64 (a1 * y9)))) b2))) kk rfl rfl rfl (qS rfl) kk (zAJ (a := w64 (y3 - (w64 (a1 * y9)))) (b := b2) rfl kk kk (zAA hz10)) 33 rfl ?_
   refine DA 3 ?_
   refine zM ?_
   subst ht11
   kernel_rfl
  cases h
  exact zF VT
theorem zIy : CfW Tryz.prog 239 := cfW Tryz.func239
theorem zJN {f1 : (Int × Int × Int)} {x2 : Int} {y3 : Int} {r : (((Int × Int × Int)) × ((Int × Int × Int × Int)))} (h : zAi f1 x2 y3 = some r) : zV Tryz.prog 239 [.ag [Ti f1.1, Ti f1.2.1, Ti f1.2.2], I x2, I y3] (.tc (.ag [Ti r.1.1, Ti r.1.2.1, Ti r.1.2.2]) (.tc (.ag [Ti r.2.1, Ti r.2.2.1, Ti r.2.2.2.1, Ti r.2.2.2.2]) .tn)) [] := by
 refine zZ (rs := [.w 6 3, .w 7 4]) (vs := [.cell 6 38, .cell 7 109]) Tryz.func239 rfl rfl (.cons ⟨rfl, wd38⟩ (.cons ⟨rfl, zGJ⟩ FitsL.nil)) (by decide) 76 rfl ?_
 unfold zAi at h
 refine VE ?_
 obtain ⟨y4, hy4, h⟩ := zA h
 refine VS ?_
 refine YK 2 (zKl hy4) zKV ?_
 refine YF ?_
 obtain ⟨y5, hy5, h⟩ := zA h
 obtain ⟨q6, hq6, h⟩ := zT h
 refine zO (mb 76 6862) [56, 48, 24] (s1 := ⟨.bot :: I x2 :: I y3 :: .pt 24 0 :: .bot :: .bot :: .pt 48 0 :: .pt 56 0 :: .bot :: I y4.2.1 :: .bot :: I q6 :: I y5 :: bt 63 [], [(56, .box [Ti 0, Ti 0, Ti 0, Ti 0]), (48, .box [Ti 0, Ti 0, Ti 0]), (24, .box [Ti f1.1, Ti f1.2.1, Ti f1.2.2])]⟩) ?_ ?_
 ·refine XR 5 ?_
  refine XC (zE2 hy5) zEM rfl rfl rfl ?_
  refine XR 2 ?_
  refine zM ?_
  subst hq6
  kernel_rfl
 obtain ⟨y7, hy7, h⟩ := zA h
 refine VS ?_
 refine YK 5 (zH0 hy7) zHE ?_
 refine YF ?_
 obtain ⟨y8, hy8, h⟩ := zA h
 obtain ⟨z9, hz9, h⟩ := zA h
 obtain ⟨t10, ht10, h⟩ := zT h
 refine zO (mb 76 31438) [56, 48, 24] (s1 := ⟨.bot :: I x2 :: I y3 :: .pt 24 0 :: .bot :: .bot :: .pt 48 0 :: .pt 56 0 :: .bot :: I y4.2.1 :: .bot :: I q6 :: I y5 :: I y7 :: I t10 :: bt 61 [], [(56, .box [Ti 0, Ti 0, Ti 0, Ti 0]), (48, .box [Ti 0, Ti 0, Ti 0]), (24, .box [Ti f1.1, Ti f1.2.1, Ti f1.2.2])]⟩) ?_ ?_
 ·refine XR 3 ?_
  refine XC (zBz hy8) zBb rfl rfl rfl ?_
  refine XR 4 ?_
  refine L0 rfl rfl (zAJ (a := w64 (y8 - y7)) (b := w64 (2 * y5)) rfl kk kk (zAA hz9)) ?_
  refine XR 1 ?_
  refine zM ?_
  subst ht10
  kernel_rfl
 obtain ⟨f11, hf11, h⟩ := zT h
 obtain ⟨f12, hf12, h⟩ := zT h
 refine zO (mb 76 61640) [120, 56, 48, 24] (s1 := ⟨bt 3 (.pt 24 0 :: .bot :: .bot :: .pt 48 0 :: .pt 56 0 :: bt 4 (I y5 :: I y7 :: I t10 :: .pt 120 0 :: bt 60 [])), [(120, .box [Ti x2, Ti f11, Ti y3, Ti f12]), (56, .box [Ti 0, Ti 0, Ti 0, Ti 0]), (48, .box [Ti 0, Ti 0, Ti 0]), (24, .box [Ti f1.1, Ti f1.2.1, Ti f1.2.2])]⟩) ?_ ?_
 ·refine XR 12 ?_
  refine L0 rfl rfl (zW (cs := [Ti x2, Ti (w64 (q6 + (w64 (x2 * t10)))), Ti y3, Ti (w64 (y4.2.1 + (w64 (y3 * t10))))]) zE7 zEo rfl rfl kk) ?_
  refine XR 2 ?_
  refine zM ?_
  subst hf11 hf12
  kernel_rfl
 obtain ⟨b13, hb13, h⟩ := zT h
 refine zO (mb 76 45256) [120, 56, 48, 24] (s1 := ⟨bt 3 (.pt 24 0 :: .bot :: .bot :: .pt 48 0 :: .pt 56 0 :: bt 4 (I y5 :: I b13 :: .bot :: .pt 120 0 :: bt 60 [])), [(120, .box [Ti x2, Ti f11, Ti y3, Ti f12]), (56, .box [Ti 0, Ti 0, Ti 0, Ti 0]), (48, .box [Ti 0, Ti 0, Ti 0]), (24, .box [Ti f1.1, Ti f1.2.1, Ti f1.2.2])]⟩) ?_ ?_
 ·refine XR 7 ?_
  refine zM ?_
  subst hb13
  kernel_rfl
 obtain ⟨y14, hy14, h⟩ := zA h
 obtain ⟨z15, hz15, h⟩ := zA h
 obtain ⟨f16, hf16, h⟩ := zT h
 refine zCj [0, 0, 0, 0, 12, 0, 32, 124, 0, 256, 1020, 2047, 0, 4095, 16383] 14 [[.z, .b, .b, .b, .b, .b, .b, .b, .b, .b, .b, .z, .b, .z], [.b, .z, .b, .b, .b, .b, .b, .b, .b, .b, .b, .z, .b, .z], [.b, .b, .z, .b, .z, .b, .b, .z, .b, .b, .z, .z, .b, .z], [.b, .b, .b, .z, .z, .b, .b, .z, .b, .b, .z, .z, .b, .z], [.b, .b, .a, .a, .z, .b, .b, .z, .b, .b, .z, .z, .b, .z], [.b, .b, .b, .b, .b, .z, .z, .z, .b, .b, .z, .z, .b, .z], [.b, .b, .b, .b, .b, .a, .z, .z, .b, .b, .z, .z, .b, .z], [.b, .b, .a, .a, .a, .a, .a, .z, .b, .b, .z, .z, .b, .z], [.b, .b, .b, .b, .b, .b, .b, .b, .z, .z, .z, .z, .b, .z], [.b, .b, .b, .b, .b, .b, .b, .b, .a, .z, .z, .z, .b, .z], [.b, .b, .a, .a, .a, .a, .a, .a, .a, .a, .z, .z, .b, .z], [.a, .a, .a, .a, .a, .a, .a, .a, .a, .a, .a, .z, .b, .z], [.b, .b, .b, .b, .b, .b, .b, .b, .b, .b, .b, .b, .z, .r 48], [.a, .a, .a, .a, .a, .a, .a, .a, .a, .a, .a, .a, .b, .z]] (mb 76 192) [56, 48] (s1 := ⟨bt 6 (.pt 48 0 :: .pt 56 0 :: bt 68 []), [(56, .box [Ti x2, Ti f11, Ti y3, Ti f12]), (48, .box [Ti y5, Ti b13, Ti f16])]⟩) kk kk ?_ ?_
 ·refine DR 6 ?_
  refine DC 6 (zCa hy14) zCR rfl rfl rfl rfl 69 rfl ?_
  refine DR 3 ?_
  refine DE_0 10 (I (w64 (Int.tdiv (w64 ((w64 (b13 * b13)) - y14)) (w64 (4 * y5))))) kk rfl rfl rfl (qS rfl) kk (zAJ (a := w64 ((w64 (b13 * b13)) - y14)) (b := w64 (4 * y5)) rfl kk kk (zAA hz15)) 73 rfl ?_
  refine DE_0 11 (.ag [Ti y5, Ti b13, Ti (w64 (Int.tdiv (w64 ((w64 (b13 * b13)) - y14)) (w64 (4 * y5))))]) kk rfl rfl rfl (qS rfl) kk (zW (cs := [Ti y5, Ti b13, Ti (w64 (Int.tdiv (w64 ((w64 (b13 * b13)) - y14)) (w64 (4 * y5))))]) pl38 bt38 rfl rfl kk) 74 rfl ?_
  refine DA 2 ?_
  refine XR 1 ?_
  refine zM ?_
  subst hf16
  kernel_rfl
 cases h
 exact zF VT
theorem zKU : CfW Tryz.prog 240 := cfW Tryz.func240
theorem zKk {a1 : Int} {vm2 : Int} {b3 : Int} {vn4 : Int} {r : (Int × Int × Bool)} (h : zCV a1 vm2 b3 vn4 = some r) : zV Tryz.prog 240 [I a1, I vm2, I b3, I vn4] (.tc (I r.1) (.tc (I r.2.1) (.tc (Bo r.2.2) .tn))) [] := by
 refine CtW [8, 9, 10] Tryz.func240 rfl rfl 53 ?_
 unfold zCV at h
 refine VE ?_
 obtain ⟨y5, hy5, h⟩ := zA h
 refine VS ?_
 refine YK 2 (zDh hy5) zDS ?_
 refine YF ?_
 refine zK ?_
 obtain ⟨z6, hz6, h⟩ := zA h
 refine VS ?_
 refine YR 4 ?_
 refine L0 rfl rfl (zEy (k := .i64) (a := w64 (b3 - a1)) (b := y5) rfl kk kk (zAA hz6)) ?_
 refine YF ?_
 refine VC h (fun h => ?_) (fun h => ?_)
 ·refine VE ?_
  cases h
  exact zF VT
 ·refine zH ?_
  show V _ _ _ _
  obtain ⟨z8, hz8, h⟩ := zA h
  obtain ⟨z9, hz9, h⟩ := zA h
  obtain ⟨z10, hz10, h⟩ := zA h
  obtain ⟨y11, hy11, h⟩ := zA h
  obtain ⟨z12, hz12, h⟩ := zA h
  obtain ⟨y13, hy13, h⟩ := zA h
  refine VDS [0, 0, 3, 0, 15, 0, 0, 96, 0, 0, 768, 2016, 4095, 0, 0, 24576, 65535, 131071] 18 (cdm 18 [2829756552, 2829756546, 2829756549, 2829756458, 2829756501, 2821333674, 2821327530, 2821330602, 2819140266, 2818747050, 2818943658, 2819970730, 2824164693, 581610154, 178956970, 380283562, 1431655765, 5726623061]) ?_
  refine ER 4 ?_
  refine E0 4 rfl rfl (zAJ (a := w64 (b3 - a1)) (b := y5) rfl kk kk (zAA hz8)) ?_
  refine ER 2 ?_
  refine E0 7 rfl rfl (zAJ (a := vm2) (b := y5) rfl kk kk (zAA hz9)) ?_
  refine ER 2 ?_
  refine E0 10 rfl rfl (zAJ (a := vn4) (b := y5) rfl kk kk (zAA hz10)) ?_
  refine EK 0 (zGN hy11) zFr ?_
  refine ER 3 ?_
  refine E0 15 rfl rfl (zAJ (a := vn4) (b := y5) rfl kk kk (zAA hz12)) ?_
  refine EK 0 (zBz hy13) zBb ?_
  refine EF 1 ?_
  obtain ⟨z14, hz14, h⟩ := zA h
  obtain ⟨all15, hall15, h⟩ := zT h
  refine zO (mb 53 12291) [] (s1 := ⟨I a1 :: I vm2 :: bt 10 (I y13 :: I all15 :: bt 39 []), []⟩) ?_ ?_
  ·refine XR 2 ?_
   refine L0 rfl rfl (zAJ (a := vm2) (b := y5) rfl kk kk (zAA hz14)) ?_
   refine XR 3 ?_
   refine zM ?_
   subst hall15
   kernel_rfl
  obtain ⟨y16, hy16, h⟩ := zA h
  refine VS ?_
  refine YK 6 (zBz hy16) zBb ?_
  refine YF ?_
  cases h
  exact zF VT
theorem zHF : CfW Tryz.prog 241 := cfW Tryz.func241
theorem zH1 {t1 : Int} {r : (Int × Int × Int × Int)} (h : zD7 t1 = some r) : zV Tryz.prog 241 [I t1] (.ag [Ti r.1, Ti r.2.1, Ti r.2.2.1, Ti r.2.2.2]) [] := by
 refine zZ (rs := [.w 2 4]) (vs := [.cell 2 109]) Tryz.func241 rfl rfl (.cons ⟨rfl, zGJ⟩ FitsL.nil) (by decide) 5 rfl ?_
 unfold zD7 at h
 refine VE ?_
 refine VS ?_
 refine YR 1 ?_
 refine L0 rfl rfl (zW (cs := [Ti 1, Ti t1, Ti 0, Ti 1]) zE7 zEo rfl rfl kk) ?_
 refine YF ?_
 cases h
 exact zF VT
theorem zKr : CfW Tryz.prog 184 := cfW Tryz.func184
theorem zLT {f1 : (Int × Int × Int)} {g2 : (Int × Int × Int)} {r : (((Int × Int × Int)) × ((Int × Int × Int)) × ((Int × Int × Int × Int)) × ((Int × Int × Int × Int)))} (h : zCN f1 g2 = some r) : zV Tryz.prog 184 [.ag [Ti f1.1, Ti f1.2.1, Ti f1.2.2], .ag [Ti g2.1, Ti g2.2.1, Ti g2.2.2]] (.tc (.ag [Ti r.1.1, Ti r.1.2.1, Ti r.1.2.2]) (.tc (.ag [Ti r.2.1.1, Ti r.2.1.2.1, Ti r.2.1.2.2]) (.tc (.ag [Ti r.2.2.1.1, Ti r.2.2.1.2.1, Ti r.2.2.1.2.2.1, Ti r.2.2.1.2.2.2]) (.tc (.ag [Ti r.2.2.2.1, Ti r.2.2.2.2.1, Ti r.2.2.2.2.2.1, Ti r.2.2.2.2.2.2]) .tn)))) [] := by
 refine zZ (rs := [.w 4 3, .w 5 3, .w 6 4, .w 7 4]) (vs := [.cell 4 38, .cell 5 38, .cell 6 109, .cell 7 109]) Tryz.func184 rfl rfl (.cons ⟨rfl, wd38⟩ (.cons ⟨rfl, wd38⟩ (.cons ⟨rfl, zGJ⟩ (.cons ⟨rfl, zGJ⟩ FitsL.nil)))) (by decide) 118 rfl ?_
 unfold zCN at h
 refine VE ?_
 obtain ⟨y3, hy3, h⟩ := zA h
 refine VS ?_
 refine YK 1 (zFO hy3) zEv ?_
 refine YF ?_
 obtain ⟨y4, hy4, h⟩ := zA h
 refine VS ?_
 refine YK 1 (zFO hy4) zEv ?_
 refine YF ?_
 obtain ⟨y5, hy5, h⟩ := zA h
 refine VS ?_
 refine YK 3 (zLU hy5) zKs ?_
 refine YF ?_
 obtain ⟨y6, hy6, h⟩ := zA h
 refine VS ?_
 refine YK 3 (zJN hy6) zIy ?_
 refine YF ?_
 obtain ⟨y7, hy7, h⟩ := zA h
 refine VS ?_
 refine YK 2 (zDA hy7) zCe ?_
 refine YF ?_
 obtain ⟨y8, hy8, h⟩ := zA h
 obtain ⟨y9, hy9, h⟩ := zA h
 refine VDS [0, 1, 0, 4, 12, 31, 0, 64, 192, 0, 512, 0, 2048, 6144, 16383, 32767, 65535, 65535, 65535, 131071, 786431, 2097151] 22 (cdm 22 [178954912, 178954913, 178954250, 178954266, 178954330, 178954581, 178784938, 178789034, 178805418, 176335530, 176597674, 2796202, 6990506, 23767722, 89478485, 357913941, 173230347605, 697216357717, 2793160398165, 177525314901, 435223352661, 1466015503701]) ?_
 refine EK 5 (zBz hy8) zBb ?_
 refine EK 8 (zKk hy9) zKU ?_
 refine EF 7 ?_
 obtain ⟨z10, hz10, h⟩ := zA h
 obtain ⟨y11, hy11, h⟩ := zA h
 obtain ⟨y12, hy12, h⟩ := zA h
 refine zCj [0, 0, 0, 4, 14, 0, 32, 96, 254, 510, 1023, 2047] 11 (cdm 11 [699048, 43170, 43018, 43034, 43094, 682, 1706, 5802, 21846, 87382, 349525]) (mb 118 36848) [88, 80, 72, 64, 56, 48, 40, 32] (s1 := ⟨bt 4 (.pt 32 0 :: .pt 40 0 :: .pt 48 0 :: .pt 56 0 :: .pt 64 0 :: .pt 72 0 :: .pt 80 0 :: .pt 88 0 :: bt 3 (I y9.1 :: bt 102 [])), [(88, .box [Ti y7.1, Ti y7.2.1, Ti y7.2.2.1, Ti y7.2.2.2]), (80, .box [Ti y6.1.1, Ti y6.1.2.1, Ti y6.1.2.2]), (72, .box [Ti y12.1, Ti y12.2.1, Ti y12.2.2.1, Ti y12.2.2.2]), (64, .box [Ti y3.1.1, Ti y3.1.2.1, Ti y3.1.2.2]), (56, .box [Ti 0, Ti 0, Ti 0, Ti 0]), (48, .box [Ti 0, Ti 0, Ti 0, Ti 0]), (40, .box [Ti 0, Ti 0, Ti 0]), (32, .box [Ti 0, Ti 0, Ti 0])]⟩) kk kk ?_ ?_
 ·refine ER 8 ?_
  refine E0 8 rfl rfl (zAJ (a := w64 (y9.1 - y3.1.2.1)) (b := w64 (2 * y3.1.1)) rfl kk kk (zAA hz10)) ?_
  refine EK 0 (zH1 hy11) zHF ?_
  refine EK 0 (zDA hy12) zCe ?_
  refine EA 0 ?_
  exact XE
 obtain ⟨z13, hz13, h⟩ := zA h
 obtain ⟨y14, hy14, h⟩ := zA h
 obtain ⟨y15, hy15, h⟩ := zA h
 refine VDS [0, 0, 0, 4, 14, 0, 32, 96, 254, 510, 1023, 2047] 11 (cdm 11 [699048, 43170, 43018, 43034, 43094, 682, 1706, 5802, 21846, 87382, 349525]) ?_
 refine ER 8 ?_
 refine E0 8 rfl rfl (zAJ (a := w64 (y9.1 - y6.1.2.1)) (b := w64 (2 * y6.1.1)) rfl kk kk (zAA hz13)) ?_
 refine EK 0 (zH1 hy14) zHF ?_
 refine EK 0 (zDA hy15) zCe ?_
 refine EF 0 ?_
 obtain ⟨y16, hy16, h⟩ := zA h
 obtain ⟨z17, hz17, h⟩ := zA h
 obtain ⟨c18, hc18, h⟩ := zT h
 refine zCj [0, 0, 3, 0, 8, 31, 0, 64, 192, 0, 512, 1984, 4095, 8191] 14 (cdm 14 [11182728, 11182722, 11182725, 11182122, 11182186, 11182421, 2624170, 2628266, 2644650, 174762, 436906, 1399466, 5592405, 22369621]) (mb 118 298992) [88, 80, 72, 64, 56, 48, 40, 32] (s1 := ⟨bt 4 (.pt 32 0 :: .pt 40 0 :: .pt 48 0 :: .pt 56 0 :: .pt 64 0 :: .pt 72 0 :: .pt 80 0 :: .pt 88 0 :: bt 3 (I y9.1 :: .bot :: .bot :: I c18 :: bt 99 [])), [(88, .box [Ti y15.1, Ti y15.2.1, Ti y15.2.2.1, Ti y15.2.2.2]), (80, .box [Ti y6.1.1, Ti y6.1.2.1, Ti y6.1.2.2]), (72, .box [Ti y12.1, Ti y12.2.1, Ti y12.2.2.1, Ti y12.2.2.2]), (64, .box [Ti y3.1.1, Ti y3.1.2.1, Ti y3.1.2.2]), (56, .box [Ti 0, Ti 0, Ti 0, Ti 0]), (48, .box [Ti 0, Ti 0, Ti 0, Ti 0]), (40, .box [Ti 0, Ti 0, Ti 0]), (32, .box [Ti 0, Ti 0, Ti 0])]⟩) kk kk ?_ ?_
 ·refine DR 4 ?_
  refine DC 4 (zCa hy16) zCR rfl rfl rfl rfl 91 rfl ?_
  refine DR 7 ?_
  refine DE_0 12 (I (w64 (Int.tdiv (w64 ((w64 (y9.1 * y9.1)) - y16)) (w64 ((w64 (4 * y3.1.1)) * y6.1.1))))) kk rfl rfl rfl (qS rfl) kk (zAJ (a := w64 ((w64 (y9.1 * y9.1)) - y16)) (b := w64 ((w64 (4 * y3.1.1)) * y6.1.1)) rfl kk kk (zAA hz17)) 99 rfl ?_
  refine DA 1 ?_
  refine zM ?_
  subst hc18
  kernel_rfl
 obtain ⟨f19, hf19, h⟩ := zT h
 obtain ⟨f20, hf20, h⟩ := zT h
 refine zCj [0, 1, 0, 0, 8, 0, 56, 127, 0, 256, 0, 0, 2048, 0, 14336, 32512, 0, 0, 255, 327679, 917503, 2097151] 21 [[.z, .z, .b, .b, .b, .b, .b, .z, .b, .b, .b, .b, .b, .b, .b, .b, .b, .b, .z, .z, .z], [.a, .z, .b, .b, .b, .b, .b, .z, .b, .b, .b, .b, .b, .b, .b, .b, .b, .b, .z, .z, .z], [.b, .b, .z, .b, .b, .b, .b, .z, .b, .b, .b, .b, .b, .b, .b, .b, .b, .b, .z, .z, .z], [.b, .b, .b, .z, .z, .b, .z, .z, .b, .b, .b, .b, .b, .b, .b, .b, .b, .b, .z, .z, .z], [.b, .b, .b, .a, .z, .b, .z, .z, .b, .b, .b, .b, .b, .b, .b, .b, .b, .b, .z, .z, .z], [.b, .b, .b, .b, .b, .z, .z, .z, .b, .b, .b, .b, .b, .b, .b, .b, .b, .b, .z, .z, .z], [.b, .b, .b, .a, .a, .a, .z, .z, .b, .b, .b, .b, .b, .b, .b, .b, .b, .b, .z, .z, .z], [.a, .a, .a, .a, .a, .a, .a, .z, .b, .b, .b, .b, .b, .b, .b, .b, .b, .b, .z, .z, .z], [.b, .b, .b, .b, .b, .b, .b, .b, .z, .z, .b, .b, .b, .b, .b, .z, .b, .b, .r 32, .z, .z], [.b, .b, .b, .b, .b, .b, .b, .b, .a, .z, .b, .b, .b, .b, .b, .z, .b, .b, .r 32, .z, .z], [.b, .b, .b, .b, .b, .b, .b, .b, .b, .b, .z, .b, .b, .b, .b, .z, .b, .b, .r 32, .z, .z], [.b, .b, .b, .b, .b, .b, .b, .b, .b, .b, .b, .z, .z, .b, .z, .z, .b, .b, .r 32, .z, .z], [.b, .b, .b, .b, .b, .b, .b, .b, .b, .b, .b, .a, .z, .b, .z, .z, .b, .b, .r 32, .z, .z], [.b, .b, .b, .b, .b, .b, .b, .b, .b, .b, .b, .b, .b, .z, .z, .z, .b, .b, .r 32, .z, .z], [.b, .b, .b, .b, .b, .b, .b, .b, .b, .b, .b, .a, .a, .a, .z, .z, .b, .b, .r 32, .z, .z], [.b, .b, .b, .b, .b, .b, .b, .b, .a, .a, .a, .a, .a, .a, .a, .z, .b, .b, .r 32, .z, .z], [.b, .b, .b, .b, .b, .b, .b, .b, .b, .b, .b, .b, .b, .b, .b, .b, .z, .b, .r 32, .r 40, .z], [.b, .b, .b, .b, .b, .b, .b, .b, .b, .b, .b, .b, .b, .b, .b, .b, .b, .z, .r 32, .r 40, .r 48], [.a, .a, .a, .a, .a, .a, .a, .a, .b, .b, .b, .b, .b, .b, .b, .b, .b, .b, .z, .z, .z], [.a, .a, .a, .a, .a, .a, .a, .a, .a, .a, .a, .a, .a, .a, .a, .a, .b, .b, .a, .z, .z], [.a, .a, .a, .a, .a, .a, .a, .a, .a, .a, .a, .a, .a, .a, .a, .a, .a, .b, .a, .a, .z]] (mb 118 240) [56, 48, 40, 32] (s1 := ⟨bt 4 (.pt 32 0 :: .pt 40 0 :: .pt 48 0 :: .pt 56 0 :: bt 110 []), [(56, .box [Ti y15.1, Ti y15.2.1, Ti y15.2.2.1, Ti y15.2.2.2]), (48, .box [Ti y12.1, Ti y12.2.1, Ti y12.2.2.1, Ti y12.2.2.2]), (40, .box [Ti y6.1.1, Ti y9.1, Ti f19]), (32, .box [Ti y3.1.1, Ti y9.1, Ti f20])]⟩) kk kk ?_ ?_
 ·refine DR 7 ?_
  refine DE_0 7 (.ag [Ti y3.1.1, Ti y9.1, Ti (w64 (y6.1.1 * c18))]) kk rfl rfl rfl (qS rfl) kk (zW (cs := [Ti y3.1.1, Ti y9.1, Ti (w64 (y6.1.1 * c18))]) pl38 bt38 rfl rfl kk) 107 rfl ?_
  refine DR 7 ?_
  refine DE_0 15 (.ag [Ti y6.1.1, Ti y9.1, Ti (w64 (y3.1.1 * c18))]) kk rfl rfl rfl (qS rfl) kk (zW (cs := [Ti y6.1.1, Ti y9.1, Ti (w64 (y3.1.1 * c18))]) pl38 bt38 rfl rfl kk) 115 rfl ?_
  refine DA 5 ?_
  refine XR 1 ?_
  refine zM ?_
  subst hf19 hf20
  kernel_rfl
 cases h
 exact zF VT
theorem zKX : CfW Tryz.prog 185 := cfW Tryz.func185
theorem zKn {a1 : (Int × Int × Int)} {e2 : (Int × Int × Int)} {r : (Int × Int × Int)} (h : zEH a1 e2 = some r) : zV Tryz.prog 185 [.ag [Ti a1.1, Ti a1.2.1, Ti a1.2.2], .ag [Ti e2.1, Ti e2.2.1, Ti e2.2.2]] (.ag [Ti r.1, Ti r.2.1, Ti r.2.2]) [] := by
 refine zZ (rs := [.w 4 3]) (vs := [.cell 4 38]) Tryz.func185 rfl rfl (.cons ⟨rfl, wd38⟩ FitsL.nil) (by decide) 18 rfl ?_
 unfold zEH at h
 refine VE ?_
 obtain ⟨z3, hz3, h⟩ := zA h
 obtain ⟨f4, hf4, h⟩ := zT h
 obtain ⟨f5, hf5, h⟩ := zT h
 refine zCj [0, 1, 0, 4, 15, 0, 32, 0, 128, 0, 512, 1920, 4095, 8191] 13 (cdm 13 [11184288, 11184289, 11184138, 11184154, 11184213, 11174570, 11175594, 2632362, 2648746, 174762, 436906, 1403562, 5592405]) (mb 18 16) [32] (s1 := ⟨bt 4 (.pt 32 0 :: bt 13 []), [(32, .box [Ti f4, Ti a1.2.1, Ti f5])]⟩) kk kk ?_ ?_
 ·refine DR 11 ?_
  refine DE_0 11 (I (w64 (Int.tdiv a1.2.2 e2.1))) kk rfl rfl rfl (qS rfl) kk (zAJ (a := a1.2.2) (b := e2.1) rfl kk kk (zAA hz3)) 16 rfl ?_
  refine DE_0 12 (.ag [Ti (w64 (a1.1 * e2.1)), Ti a1.2.1, Ti (w64 (Int.tdiv a1.2.2 e2.1))]) kk rfl rfl rfl (qS rfl) kk (zW (cs := [Ti (w64 (a1.1 * e2.1)), Ti a1.2.1, Ti (w64 (Int.tdiv a1.2.2 e2.1))]) pl38 bt38 rfl rfl kk) 17 rfl ?_
  refine DA 0 ?_
  refine XR 1 ?_
  refine zM ?_
  subst hf4 hf5
  kernel_rfl
 cases h
 exact zF VT
theorem cf_spec_coMul : CfW Tryz.prog 100 := cfW Tryz.func100
theorem s_spec_coMul {f1 : (Int × Int × Int)} {g2 : (Int × Int × Int)} {r : (Int × Int × Int)} (h : zDl f1 g2 = some r) : zV Tryz.prog 100 [.ag [Ti f1.1, Ti f1.2.1, Ti f1.2.2], .ag [Ti g2.1, Ti g2.2.1, Ti g2.2.2]] (.ag [Ti r.1, Ti r.2.1, Ti r.2.2]) [] := by
 refine zZ (rs := [.w 4 3]) (vs := [.cell 4 38]) Tryz.func100 rfl rfl (.cons ⟨rfl, wd38⟩ FitsL.nil) (by decide) 21 rfl ?_
 unfold zDl at h
 refine VE ?_
 obtain ⟨y3, hy3, h⟩ := zA h
 refine VS ?_
 refine YK 2 (zLT hy3) zKr ?_
 refine YF ?_
 obtain ⟨y4, hy4, h⟩ := zA h
 obtain ⟨y5, hy5, h⟩ := zA h
 refine VS ?_
 refine YK 2 (zKn hy4) zKX ?_
 refine YK 0 (zE1 hy5) zEL ?_
 refine YF ?_
 cases h
 exact zF VT
theorem zJB : CfW Tryz.prog 186 := cfW Tryz.func186
theorem zJR {f1 : (Int × Int × Int)} {r : (Int × Int × Int)} (h : zDZ f1 = some r) : zV Tryz.prog 186 [.ag [Ti f1.1, Ti f1.2.1, Ti f1.2.2]] (.ag [Ti r.1, Ti r.2.1, Ti r.2.2]) [] := by
 refine zZ (rs := [.w 2 3]) (vs := [.cell 2 38]) Tryz.func186 rfl rfl (.cons ⟨rfl, wd38⟩ FitsL.nil) (by decide) 11 rfl ?_
 unfold zDZ at h
 refine VE ?_
 obtain ⟨f2, hf2, h⟩ := zT h
 refine zO (mb 11 4) [16] (s1 := ⟨.bot :: .bot :: .pt 16 0 :: bt 8 [], [(16, .box [Ti f1.1, Ti f2, Ti f1.2.2])]⟩) ?_ ?_
 ·refine XR 7 ?_
  refine L0 rfl rfl (zW (cs := [Ti f1.1, Ti (w64 (0 - f1.2.1)), Ti f1.2.2]) pl38 bt38 rfl rfl kk) ?_
  refine XR 1 ?_
  refine zM ?_
  subst hf2
  kernel_rfl
 cases h
 exact zF VT
theorem zJk : CfW Tryz.prog 101 := cfW Tryz.func101
theorem zJv {f1 : (Int × Int × Int)} {r : (Int × Int × Int)} (h : zCq f1 = some r) : zV Tryz.prog 101 [.ag [Ti f1.1, Ti f1.2.1, Ti f1.2.2]] (.ag [Ti r.1, Ti r.2.1, Ti r.2.2]) [] := by
 refine zZ (rs := [.w 2 3]) (vs := [.cell 2 38]) Tryz.func101 rfl rfl (.cons ⟨rfl, wd38⟩ FitsL.nil) (by decide) 6 rfl ?_
 unfold zCq at h
 refine VE ?_
 obtain ⟨y2, hy2, h⟩ := zA h
 obtain ⟨y3, hy3, h⟩ := zA h
 refine VS ?_
 refine YK 1 (zJR hy2) zJB ?_
 refine YK 0 (zE1 hy3) zEL ?_
 refine YF ?_
 cases h
 exact zF VT
theorem zGE : CfW Tryz.prog 50 := cfW Tryz.func50
theorem zG8 {l1 : List ((ByteArray × ((Int × Int × Int))))} {c2 : (Int × ByteArray × ByteArray × ByteArray × ((Int × Int × Int)))} {r : ((List ((ByteArray × ((Int × Int × Int))))) × Int)} (h : zDC l1 c2 = some r) : zV Tryz.prog 50 [.c (.sl (l1.map c73)), .ag [Ti c2.1, .v (.string c2.2.1), .v (.string c2.2.2.1), .v (.string c2.2.2.2.1), Ti c2.2.2.2.2.1, Ti c2.2.2.2.2.2.1, Ti c2.2.2.2.2.2.2]] (.tc (.ow 0) (.tc (I r.2) .tn)) [(0, .arr 73 4 (r.1.map c73))] := by
 refine CtW [4, 5] Tryz.func50 rfl rfl 133 ?_
 unfold zDC at h
 refine VS ?_
 refine YR 1 ?_
 refine L1 rfl rfl (zAc (e := 73) 4 (by decide) (.inl rfl)) ?_
 refine YF ?_
 obtain ⟨y3, hy3, h⟩ := zA h
 obtain ⟨y4, hy4, h⟩ := zA h
 obtain ⟨y5, hy5, h⟩ := zA h
 refine VDS [0, 0, 2, 7, 0, 0, 32, 127, 0, 0, 512, 2047, 4095, 8191, 16383] 15 (cdm 15 [2763304, 2763266, 2763270, 2763285, 2762922, 2753194, 2754218, 2757973, 2665130, 174762, 436906, 1398101, 5592405, 22369621, 89478485]) ?_
 refine EK 3 (zFy hy3) zFh ?_
 refine EK 3 (zFy hy4) zFh ?_
 refine EK 3 (zFy hy5) zFh ?_
 refine EF 3 ?_
 refine zO (mb 133 969) [24] (s1 := ⟨.c (.sl (l1.map c73)) :: .bot :: .bot :: .pt 24 0 :: .bot :: .bot :: I y3 :: I y4 :: I y5 :: Bo (bif (eqI c2.1 2) then true else (eqI c2.1 5)) :: bt 123 [], [(24, .box [Ti c2.1, .v (.string c2.2.1), .v (.string c2.2.2.1), .v (.string c2.2.2.2.1), Ti c2.2.2.2.2.1, Ti c2.2.2.2.2.2.1, Ti c2.2.2.2.2.2.2])]⟩) ?_ ?_
 ·refine YR 4 ?_
  refine zE (eqI c2.1 2) (fun hc6 => ?_) (fun hc6 => ?_)
  ·refine YQ hc6 ?_
   exact YE (by rw [hc6]; kernel_rfl)
  ·refine YQ hc6 ?_
   exact YE (by rw [hc6]; kernel_rfl)
 refine zK ?_
 obtain ⟨t8, ht8, h⟩ := zA h
 have ht8 := zB ht8
 refine zO (mb 133 68719477705) [24] (s1 := ⟨.c (.sl (l1.map c73)) :: .bot :: .bot :: .pt 24 0 :: .bot :: .bot :: I y3 :: I y4 :: I y5 :: Bo (bif (eqI c2.1 2) then true else (eqI c2.1 5)) :: bt 26 (Bo t8 :: bt 96 []), [(24, .box [Ti c2.1, .v (.string c2.2.1), .v (.string c2.2.2.1), .v (.string c2.2.2.2.1), Ti c2.2.2.2.2.1, Ti c2.2.2.2.2.2.1, Ti c2.2.2.2.2.2.2])]⟩) ?_ ?_
 ·refine YR 3 ?_
  refine zE (!(bif (eqI c2.1 2) then true else (eqI c2.1 5))) (fun hc7 => ?_) (fun hc7 => ?_)
  ·refine YQ hc7 ?_
   exact YE (by rw [← ht8]; (try rw [hc7]); kernel_rfl)
  ·refine YQ hc7 ?_
   exact YE (by rw [← ht8]; (try rw [hc7]); kernel_rfl)
 refine VC h (fun h => ?_) (fun h => ?_)
 ·refine VS ?_
  refine L1 rfl rfl (zAc (e := 73) 4 (by decide) (.inl rfl)) ?_
  refine YF ?_
  cases h
  exact zF VT
 ·refine zH ?_
  show V _ _ _ _
  refine zK ?_
  obtain ⟨t15, ht15, h⟩ := zA h
  have ht15 := zB ht15
  refine zO (mb 133 576460752303423945) [24] (s1 := ⟨.c (.sl (l1.map c73)) :: .bot :: .bot :: .pt 24 0 :: .bot :: .bot :: I y3 :: I y4 :: I y5 :: bt 50 (Bo t15 :: bt 73 []), [(24, .box [Ti c2.1, .v (.string c2.2.1), .v (.string c2.2.2.1), .v (.string c2.2.2.2.1), Ti c2.2.2.2.2.1, Ti c2.2.2.2.2.2.1, Ti c2.2.2.2.2.2.2])]⟩) ?_ ?_
  ·refine YR 2 ?_
   refine zE (bif (eqI c2.1 2) then true else (eqI c2.1 5)) (fun hc10 => ?_) (fun hc10 => ?_)
   ·refine YQ hc10 ?_
    refine YR 4 ?_
    refine zE (bif (bif (eqI c2.1 2) then true else (eqI c2.1 5)) then (ltI y3 0) else false) (fun hc11 => ?_) (fun hc11 => ?_)
    ·refine YQ hc11 ?_ (by rw [hc10]; kernel_rfl)
     refine YR 9 ?_
     refine zE (bif (bif (bif (eqI c2.1 2) then true else (eqI c2.1 5)) then (ltI y3 0) else false) then true else (bif (!(c2.2.2.1.toList == ((⟨#[]⟩ : ByteArray)).toList)) then (ltI y4 0) else false)) (fun hc13 => ?_) (fun hc13 => ?_)
     ·refine YQ hc13 ?_ (by rw [hc11]; (try rw [hc10]); kernel_rfl)
      exact YE (by rw [← ht15]; (try rw [hc13]); (try rw [hc11]); (try rw [hc10]); kernel_rfl)
     ·refine YQ hc13 ?_ (by rw [hc11]; (try rw [hc10]); kernel_rfl)
      refine YR 4 ?_
      refine zE (!(c2.2.2.2.1.toList == ((⟨#[]⟩ : ByteArray)).toList)) (fun hc14 => ?_) (fun hc14 => ?_)
      ·refine YQ hc14 ?_
       exact YE (by rw [← ht15]; (try rw [hc13]); (try rw [hc11]); (try rw [hc14]); (try rw [hc10]); kernel_rfl)
      ·refine YQ hc14 ?_
       exact YE (by rw [← ht15]; (try rw [hc13]); (try rw [hc11]); (try rw [hc14]); (try rw [hc10]); kernel_rfl)
    ·refine YQ hc11 ?_ (by rw [hc10]; kernel_rfl)
     refine YR 4 ?_
     refine zE (!(c2.2.2.1.toList == ((⟨#[]⟩ : ByteArray)).toList)) (fun hc12 => ?_) (fun hc12 => ?_)
     ·refine YQ hc12 ?_
      refine YR 5 ?_
      refine zE (bif (bif (bif (eqI c2.1 2) then true else (eqI c2.1 5)) then (ltI y3 0) else false) then true else (bif (!(c2.2.2.1.toList == ((⟨#[]⟩ : ByteArray)).toList)) then (ltI y4 0) else false)) (fun hc13 => ?_) (fun hc13 => ?_)
      ·refine YQ hc13 ?_ (by rw [hc11]; (try rw [hc12]); (try rw [hc10]); kernel_rfl)
       exact YE (by rw [← ht15]; (try rw [hc13]); (try rw [hc11]); (try rw [hc12]); (try rw [hc10]); kernel_rfl)
      ·refine YQ hc13 ?_ (by rw [hc11]; (try rw [hc12]); (try rw [hc10]); kernel_rfl)
       refine YR 4 ?_
       refine zE (!(c2.2.2.2.1.toList == ((⟨#[]⟩ : ByteArray)).toList)) (fun hc14 => ?_) (fun hc14 => ?_)
       ·refine YQ hc14 ?_
        exact YE (by rw [← ht15]; (try rw [hc13]); (try rw [hc11]); (try rw [hc14]); (try rw [hc12]); (try rw [hc10]); kernel_rfl)
       ·refine YQ hc14 ?_
        exact YE (by rw [← ht15]; (try rw [hc13]); (try rw [hc11]); (try rw [hc14]); (try rw [hc12]); (try rw [hc10]); kernel_rfl)
     ·refine YQ hc12 ?_
      refine YR 5 ?_
      refine zE (bif (bif (bif (eqI c2.1 2) then true else (eqI c2.1 5)) then (ltI y3 0) else false) then true else (bif (!(c2.2.2.1.toList == ((⟨#[]⟩ : ByteArray)).toList)) then (ltI y4 0) else false)) (fun hc13 => ?_) (fun hc13 => ?_)
      ·refine YQ hc13 ?_ (by rw [hc11]; (try rw [hc12]); (try rw [hc10]); kernel_rfl)
       exact YE (by rw [← ht15]; (try rw [hc13]); (try rw [hc11]); (try rw [hc12]); (try rw [hc10]); kernel_rfl)
      ·refine YQ hc13 ?_ (by rw [hc11]; (try rw [hc12]); (try rw [hc10]); kernel_rfl)
       refine YR 4 ?_
       refine zE (!(c2.2.2.2.1.toList == ((⟨#[]⟩ : ByteArray)).toList)) (fun hc14 => ?_) (fun hc14 => ?_)
       ·refine YQ hc14 ?_
        exact YE (by rw [← ht15]; (try rw [hc13]); (try rw [hc11]); (try rw [hc14]); (try rw [hc12]); (try rw [hc10]); kernel_rfl)
       ·refine YQ hc14 ?_
        exact YE (by rw [← ht15]; (try rw [hc13]); (try rw [hc11]); (try rw [hc14]); (try rw [hc12]); (try rw [hc10]); kernel_rfl)
   ·refine YQ hc10 ?_
    refine YR 4 ?_
    refine zE (bif (bif (eqI c2.1 2) then true else (eqI c2.1 5)) then (ltI y3 0) else false) (fun hc11 => ?_) (fun hc11 => ?_)
    ·refine YQ hc11 ?_ (by rw [hc10]; kernel_rfl)
     refine YR 9 ?_
     refine zE (bif (bif (bif (eqI c2.1 2) then true else (eqI c2.1 5)) then (ltI y3 0) else false) then true else (bif (!(c2.2.2.1.toList == ((⟨#[]⟩ : ByteArray)).toList)) then (ltI y4 0) else false)) (fun hc13 => ?_) (fun hc13 => ?_)
     ·refine YQ hc13 ?_ (by rw [hc11]; (try rw [hc10]); kernel_rfl)
      exact YE (by rw [← ht15]; (try rw [hc13]); (try rw [hc11]); (try rw [hc10]); kernel_rfl)
     ·refine YQ hc13 ?_ (by rw [hc11]; (try rw [hc10]); kernel_rfl)
      refine YR 4 ?_
      refine zE (!(c2.2.2.2.1.toList == ((⟨#[]⟩ : ByteArray)).toList)) (fun hc14 => ?_) (fun hc14 => ?_)
      ·refine YQ hc14 ?_
       exact YE (by rw [← ht15]; (try rw [hc13]); (try rw [hc11]); (try rw [hc14]); (try rw [hc10]); kernel_rfl)
      ·refine YQ hc14 ?_
       exact YE (by rw [← ht15]; (try rw [hc13]); (try rw [hc11]); (try rw [hc14]); (try rw [hc10]); kernel_rfl)
    ·refine YQ hc11 ?_ (by rw [hc10]; kernel_rfl)
     refine YR 4 ?_
     refine zE (!(c2.2.2.1.toList == ((⟨#[]⟩ : ByteArray)).toList)) (fun hc12 => ?_) (fun hc12 => ?_)
     ·refine YQ hc12 ?_
      refine YR 5 ?_
      refine zE (bif (bif (bif (eqI c2.1 2) then true else (eqI c2.1 5)) then (ltI y3 0) else false) then true else (bif (!(c2.2.2.1.toList == ((⟨#[]⟩ : ByteArray)).toList)) then (ltI y4 0) else false)) (fun hc13 => ?_) (fun hc13 => ?_)
      ·refine YQ hc13 ?_ (by rw [hc11]; (try rw [hc12]); (try rw [hc10]); kernel_rfl)
       exact YE (by rw [← ht15]; (try rw [hc13]); (try rw [hc11]); (try rw [hc12]); (try rw [hc10]); kernel_rfl)
      ·refine YQ hc13 ?_ (by rw [hc11]; (try rw [hc12]); (try rw [hc10]); kernel_rfl)
       refine YR 4 ?_
       refine zE (!(c2.2.2.2.1.toList == ((⟨#[]⟩ : ByteArray)).toList)) (fun hc14 => ?_) (fun hc14 => ?_)
       ·refine YQ hc14 ?_
        exact YE (by rw [← ht15]; (try rw [hc13]); (try rw [hc11]); (try rw [hc14]); (try rw [hc12]); (try rw [hc10]); kernel_rfl)
       ·refine YQ hc14 ?_
        exact YE (by rw [← ht15]; (try rw [hc13]); (try rw [hc11]); (try rw [hc14]); (try rw [hc12]); (try rw [hc10]); kernel_rfl)
     ·refine YQ hc12 ?_
      refine YR 5 ?_
      refine zE (bif (bif (bif (eqI c2.1 2) then true else (eqI c2.1 5)) then (ltI y3 0) else false) then true else (bif (!(c2.2.2.1.toList == ((⟨#[]⟩ : ByteArray)).toList)) then (ltI y4 0) else false)) (fun hc13 => ?_) (fun hc13 => ?_)
      ·refine YQ hc13 ?_ (by rw [hc11]; (try rw [hc12]); (try rw [hc10]); kernel_rfl)
       exact YE (by rw [← ht15]; (try rw [hc13]); (try rw [hc11]); (try rw [hc12]); (try rw [hc10]); kernel_rfl)
      ·refine YQ hc13 ?_ (by rw [hc11]; (try rw [hc12]); (try rw [hc10]); kernel_rfl)
       refine YR 4 ?_
       refine zE (!(c2.2.2.2.1.toList == ((⟨#[]⟩ : ByteArray)).toList)) (fun hc14 => ?_) (fun hc14 => ?_)
       ·refine YQ hc14 ?_
        exact YE (by rw [← ht15]; (try rw [hc13]); (try rw [hc11]); (try rw [hc14]); (try rw [hc12]); (try rw [hc10]); kernel_rfl)
       ·refine YQ hc14 ?_
        exact YE (by rw [← ht15]; (try rw [hc13]); (try rw [hc11]); (try rw [hc14]); (try rw [hc12]); (try rw [hc10]); kernel_rfl)
  refine VC h (fun h => ?_) (fun h => ?_)
  ·refine VS ?_
   refine L1 rfl rfl (zAc (e := 73) 4 (by decide) (.inl rfl)) ?_
   refine YF ?_
   cases h
   exact zF VT
  ·refine zH ?_
   show V _ _ _ _
   refine VE ?_
   obtain ⟨qo17, hLo17, hko17⟩ := zA h
   clear h
   refine V_cutS (q := qo17) (S := fun o17 => ⟨.c (.sl (l1.map c73)) :: .bot :: .bot :: .pt 24 0 :: bt 6 (.pt 80 0 :: bt 122 []), [(80, .box [Ti o17.1, Ti o17.2.1, Ti o17.2.2]), (24, .box [Ti c2.1, .v (.string c2.2.1), .v (.string c2.2.2.1), .v (.string c2.2.2.2.1), Ti c2.2.2.2.2.1, Ti c2.2.2.2.2.2.1, Ti c2.2.2.2.2.2.2])]⟩) (mb 133 1033) [80, 24] ?_ ?_
   ·have h := hLo17
    clear hLo17
    refine VE ?_
    refine zN ?_
    refine VE ?_
    refine VC h (fun h => ?_) (fun h => ?_)
    ·obtain ⟨y19, hy19, h⟩ := zA h
     refine VS ?_
     refine YK 2 (zI5 hy19) zHs ?_
     refine YF ?_
     refine zF ?_
     obtain rfl := zB h
     have h := hko17
     obtain rfl := zB h
     exact VT
    ·refine VE ?_
     refine VC h (fun h => ?_) (fun h => ?_)
     ·refine zK ?_
      obtain ⟨y21, hy21, h⟩ := zA h
      obtain ⟨e22, he22, h⟩ := zA h
      obtain ⟨y23, hy23, h⟩ := zA h
      obtain ⟨t24, ht24, h⟩ := zA h
      have ht24 := zB ht24
      refine zCj [0, 1, 3, 0, 0, 24, 56, 120, 255, 511] 10 (cdm 10 [43648, 43649, 43653, 554, 170, 362, 1386, 5482, 21845, 87381]) (mb 133 1208925819614629174706249) [24] (s1 := ⟨.c (.sl (l1.map c73)) :: .bot :: .bot :: .pt 24 0 :: .bot :: .bot :: I y3 :: bt 73 (Bo t24 :: bt 52 []), [(24, .box [Ti c2.1, .v (.string c2.2.1), .v (.string c2.2.2.1), .v (.string c2.2.2.2.1), Ti c2.2.2.2.2.1, Ti c2.2.2.2.2.2.1, Ti c2.2.2.2.2.2.2])]⟩) kk kk ?_ ?_
      ·refine DR 2 ?_
       refine DC 2 (zE1 hy21) zEL rfl rfl rfl rfl 73 rfl ?_
       refine DR 2 ?_
       refine DE_0 5 (.pe [.v (.string e22.1), Ti e22.2.1, Ti e22.2.2.1, Ti e22.2.2.2]) kk rfl rfl rfl (qS rfl) kk (zBG (c := c73) (xs := l1) (v := e22) (n := y3) Tryz.underlying43 sz73 rfl kk kk he22) 76 rfl ?_
       refine DR 2 ?_
       refine DC 8 (zE1 hy23) zEL rfl rfl rfl rfl 79 rfl ?_
       refine DE_0 9 (Bo (!((y21.1 == y23.1) && ((y21.2.1 == y23.2.1) && (y21.2.2 == y23.2.2))))) kk rfl rfl rfl (qS rfl) kk (zLL (a0 := y21.1) (b0 := y23.1) (a1 := y21.2.1) (b1 := y23.2.1) (a2 := y21.2.2) (b2 := y23.2.2) neg38 rfl kk kk) 80 rfl ?_
       refine DA 0 ?_
       refine zM ?_
       subst ht24
       kernel_rfl
      refine VC h (fun h => ?_) (fun h => ?_)
      ·refine VS ?_
       refine L1 rfl rfl (zAc (e := 73) 4 (by decide) (.inl rfl)) ?_
       refine YF ?_
       refine zF ?_
       obtain rfl := zB h
       have h := hko17
       obtain rfl := zB h
       exact VT
      ·refine zH ?_
       show V _ _ _ _
       obtain ⟨y26, hy26, h⟩ := zA h
       obtain ⟨y27, hy27, h⟩ := zA h
       refine VDS [0, 0, 3, 0, 8, 0, 32, 120, 255, 511, 1023] 11 (cdm 11 [43656, 43650, 43653, 10282, 10346, 682, 1706, 5482, 21845, 87381, 349525]) ?_
       refine EK 2 (zI5 hy26) zHs ?_
       refine ER 4 ?_
       refine E0 7 rfl rfl (zW (cs := [.v (.string c2.2.1), Ti c2.2.2.2.2.1, Ti c2.2.2.2.2.2.1, Ti c2.2.2.2.2.2.2]) pl73 bt73 rfl rfl kk) ?_
       refine E1 8 rfl rfl (zBy (zJO hy27) zId rfl kk rfl (zGn (fun _ => rfl) rfl)) ?_
       refine EF 2 ?_
       refine zF ?_
       obtain rfl := zB h
       have h := hko17
       obtain rfl := zB h
       exact VT
     ·refine VE ?_
      refine VC h (fun h => ?_) (fun h => ?_)
      ·refine zK ?_
       obtain ⟨e29, he29, h⟩ := zA h
       obtain ⟨y30, hy30, h⟩ := zA h
       obtain ⟨e31, he31, h⟩ := zA h
       obtain ⟨y32, hy32, h⟩ := zA h
       refine VDS [0, 0, 3, 7, 15, 31, 0, 0, 192, 448, 960, 2047, 4095] 13 (cdm 13 [2793480, 2793474, 2793477, 2793493, 2793557, 2793813, 35498, 10922, 23210, 88746, 350890, 1398101, 5592405]) ?_
       refine ER 2 ?_
       refine E0 2 rfl rfl (zBG (c := c73) (xs := l1) (v := e29) (n := y4) Tryz.underlying43 sz73 rfl kk kk he29) ?_
       refine EK 2 (zCa hy30) zCR ?_
       refine ER 2 ?_
       refine E0 8 rfl rfl (zBG (c := c73) (xs := l1) (v := e31) (n := y5) Tryz.underlying43 sz73 rfl kk kk he31) ?_
       refine EK 2 (zCa hy32) zCR ?_
       refine EF 1 ?_
       refine VC h (fun h => ?_) (fun h => ?_)
       ·refine VS ?_
        refine L1 rfl rfl (zAc (e := 73) 4 (by decide) (.inl rfl)) ?_
        refine YF ?_
        refine zF ?_
        obtain rfl := zB h
        have h := hko17
        obtain rfl := zB h
        exact VT
       ·refine zH ?_
        show V _ _ _ _
        obtain ⟨e34, he34, h⟩ := zA h
        obtain ⟨e35, he35, h⟩ := zA h
        obtain ⟨y36, hy36, h⟩ := zA h
        refine zMP [0, 0, 3, 7, 15, 0, 0, 96, 224, 480, 1023, 2047] 11 (cdm 11 [698376, 698370, 698373, 698389, 698453, 8874, 2730, 5802, 22186, 87722, 349525]) (mb 133 1033) [80, 24] (s1 := ⟨.c (.sl (l1.map c73)) :: .bot :: .bot :: .pt 24 0 :: bt 6 (.pt 80 0 :: bt 122 []), [(80, .box [Ti y36.1, Ti y36.2.1, Ti y36.2.2]), (24, .box [Ti c2.1, .v (.string c2.2.1), .v (.string c2.2.2.1), .v (.string c2.2.2.2.1), Ti c2.2.2.2.2.1, Ti c2.2.2.2.2.2.1, Ti c2.2.2.2.2.2.2])]⟩) kk kk ?_ ?_
        ·refine ER 2 ?_
         refine E0 2 rfl rfl (zBG (c := c73) (xs := l1) (v := e34) (n := y4) Tryz.underlying43 sz73 rfl kk kk he34) ?_
         refine ER 4 ?_
         refine E0 7 rfl rfl (zBG (c := c73) (xs := l1) (v := e35) (n := y5) Tryz.underlying43 sz73 rfl kk kk he35) ?_
         refine EK 2 (s_spec_coMul hy36) cf_spec_coMul ?_
         refine EA 0 ?_
         exact XE
        obtain rfl := zB h
        exact ⟨_, rfl, kk⟩
      ·refine VE ?_
       refine VC h (fun h => ?_) (fun h => ?_)
       ·obtain ⟨e38, he38, h⟩ := zA h
        obtain ⟨y39, hy39, h⟩ := zA h
        refine zY ?_
        refine YR 2 ?_
        refine L0 rfl rfl (zBG (c := c73) (xs := l1) (v := e38) (n := y4) Tryz.underlying43 sz73 rfl kk kk he38) ?_
        refine YK 2 (zJv hy39) zJk ?_
        refine YF ?_
        obtain rfl := zB h
        exact ⟨_, rfl, kk⟩
       ·refine zH ?_
        obtain rfl := zB h
        exact ⟨_, rfl, kk⟩
   rintro o17 rfl
   have h := hko17
   clear hko17
   refine zK ?_
   refine VS ?_
   refine YR 1 ?_
   refine L0 rfl rfl (qQ (c := c73) (xs := l1) Tryz.underlying43 rfl kk) ?_
   refine YF ?_
   refine VC h (fun h => ?_) (fun h => ?_)
   ·refine VS ?_
    refine L1 rfl rfl (zAc (e := 73) 4 (by decide) (.inl rfl)) ?_
    refine YF ?_
    cases h
    exact zF VT
   ·refine zH ?_
    show V _ _ _ _
    obtain ⟨y41, hy41, h⟩ := zA h
    refine VS ?_
    refine YR 4 ?_
    refine L0 rfl rfl (zW (cs := [.v (.string c2.2.1), Ti o17.1, Ti o17.2.1, Ti o17.2.2]) pl73 bt73 rfl rfl kk) ?_
    refine YK 0 (zJO hy41) zId ?_
    refine YF ?_
    cases h
    exact zF VT
theorem zGt : CfW Tryz.prog 59 := cfW Tryz.func59
theorem zHI {c1 : ((List Int) × Int × Int)} {vn2 : Int} {r : ((List ((Int × ByteArray × ByteArray × ByteArray × ((Int × Int × Int))))) × (((List Int) × Int × Int)))} (h : zBZ c1 vn2 = some r) : zDq Tryz.prog 59 [.pt 80000 0, I vn2] [(80000, .box [.sl (c1.1.map c5), Ti c1.2.1, .v (.int .u64 c1.2.2)])] (.ow 0) [(0, .arr 40 7 (r.1.map c40))] [(80000, .box [.sl (r.2.1.map c5), Ti r.2.2.1, .v (.int .u64 r.2.2.2)])] := by
 refine qT (rs := [.t 4]) (vs := [.tmp 4]) Tryz.func59 rfl rfl (.cons rfl FitsL.nil) (by decide) 43 rfl rfl fun σ => ?_
 unfold zBZ at h
 show V _ _ ⟨.pt 80000 0 :: I vn2 :: bt 41 [], [(80000, .pbox (σ 80000) [.sl (c1.1.map c5), Ti c1.2.1, .v (.int .u64 c1.2.2)])]⟩ _
 refine VS ?_
 refine L1 rfl rfl (zAc (e := 40) 7 (by decide) (.inl rfl)) ?_
 refine YF ?_
 refine VS ?_
 refine L1 rfl rfl (zAc (e := 73) 4 (by decide) (.inl rfl)) ?_
 refine YF ?_
 obtain ⟨l3, hl3, h⟩ := zA h
 have hl3 := zB hl3
 refine zO (mb 43 99) [48, 40, 80000] (s1 := ⟨.pt 80000 0 :: I vn2 :: bt 3 (.ow 40 :: .ow 48 :: bt 36 []), [(48, .arr 40 7 (l3.map c40)), (40, .arr 73 4 ((([] : List ((ByteArray × ((Int × Int × Int)))))).map c73)), (80000, .pbox (σ 80000) [.sl (c1.1.map c5), Ti c1.2.1, .v (.int .u64 c1.2.2)])]⟩) ?_ ?_
 ·refine L1 rfl rfl (zAc (e := 40) 7 (by decide) (.inl rfl)) ?_
  refine zM ?_
  subst hl3
  kernel_rfl
 refine zK ?_
 refine zIE 40 (T := 73) (sz := 4) (els := (([] : List ((ByteArray × ((Int × Int × Int)))))).map c73) kk rfl ?_
 obtain ⟨o11, hLo11, h⟩ := zA h
 refine zCS (mb 43 64) [48, 80000] (s1 := ⟨bt 6 (.ow 48 :: bt 36 []), [(48, .arr 40 7 (o11.1.map c40)), (80000, .pbox (σ 80000) [.sl (o11.2.1.map c5), Ti o11.2.2.1, .v (.int .u64 o11.2.2.2)])]⟩) ?_ ?_
 ·clear h
  refine zN (jM (fun n s => ∃ (l4 : List ((ByteArray × ((Int × Int × Int))))) (l5 : List ((Int × ByteArray × ByteArray × ByteArray × ((Int × Int × Int))))) (f6 : List Int) (f7 : Int) (f8 : Int) (vn9 : Int), s.keep (mb 43 99) [48, 80000] = (⟨.pt 80000 0 :: I vn9 :: bt 3 (.c (.sl (l4.map c73)) :: .ow 48 :: bt 36 []), [(48, .arr 40 7 (l5.map c40)), (80000, .pbox (σ 80000) [.sl (f6.map c5), Ti f7, .v (.int .u64 f8)])]⟩ : St) ∧ qL n l4 l5 f6 f7 f8 vn9 = some o11) FU ⟨_, _, _, _, _, _,  kk, hLo11⟩ ?_)
  clear hLo11
  rintro n s ⟨l4, l5, f6, f7, f8, vn9, hs, h⟩
  refine jF _ _ hs ?_
  clear hs
  cases n with
  | zero => cases h
  | succ n =>
   rw [qL] at h
   refine zK ?_
   refine VS ?_
   refine YR 1 ?_
   refine L0 rfl rfl (qQ (c := c40) (xs := l5) Tryz.underlying50 rfl kk) ?_
   refine YF ?_
   refine VC h (fun h => ?_) (fun h => ?_)
   ·refine zH ?_
    show V _ _ _ _
    refine zN ?_
    obtain ⟨y13, hy13, h⟩ := zA h
    refine VS ?_
    refine YR 2 ?_
    refine zL rfl (zS [(80000, 80000)] 16 (zFE hy13) zEm rfl rfl kk rfl (zR kk zX) rfl kk rfl rfl rfl) ?_
    refine YF ?_
    obtain ⟨u14, hu14, h⟩ := zA h
    refine VS ?_
    refine YR 2 ?_
    refine L1 rfl rfl (qP (z := zv40) (els := [y13.1].map c40) Tryz.underlying50 iz40 rfl (by decide) rfl kk rfl (by simp [c40]) (by decide) (by decide)) ?_
    refine zL rfl (zAn (c := c40) (xs := l5) (ys := [y13.1]) (id := 48) (z := zv40) rfl rfl Tryz.underlying50 izb40 rfl kk kk kk (fun _ => rfl) (by simp) (zAK hu14) (by decide)) ?_
    refine YF ?_
    obtain ⟨y15, hy15, h⟩ := zA h
    refine VS ?_
    refine YK 1 (zDi hy15) zD2 ?_
    refine YF ?_
    refine VC h (fun h => ?_) (fun h => ?_)
    ·obtain ⟨y17, hy17, h⟩ := zA h
     refine VS ?_
     refine YK 2 (zG8 hy17) zGE ?_
     refine YF ?_
     refine VE ?_
     refine VC h (fun h => ?_) (fun h => ?_)
     ·refine zIE 208 (T := 73) (sz := 4) (els := y17.1.map c73) kk rfl ?_
      refine zY ?_
      refine YF ?_
      exact ⟨n, Nat.lt_succ_self n, _, _, _, _, _, _,  kk, h⟩
     ·obtain ⟨y19, hy19, h⟩ := zA h
      refine VS ?_
      refine YR 1 ?_
      refine zL rfl (zS [(80000, 80000)] 33 (zCG hy19) zBn rfl rfl kk rfl (zR kk zX) rfl kk rfl rfl rfl) ?_
      refine YF ?_
      refine VC h (fun h => ?_) (fun h => ?_)
      ·obtain ⟨u21, hu21, h⟩ := zA h
       obtain ⟨l22, hl22, h⟩ := zA h
       have hl22 := zB hl22
       refine zO (mb 43 99) [48, 80000] (s1 := ⟨.pt 80000 0 :: I vn9 :: bt 3 (.c (.sl (l4.map c73)) :: .ow 48 :: bt 36 []), [(48, .arr 40 7 (l22.map c40)), (80000, .pbox (σ 80000) [.sl (y19.2.1.map c5), Ti y19.2.2.1, .v (.int .u64 y19.2.2.2)])]⟩) ?_ ?_
       ·refine XR 2 ?_
        refine L0 rfl rfl (qQ (c := c40) (xs := l5 ++ ([y13.1])) Tryz.underlying50 rfl kk) ?_
        refine XR 1 ?_
        refine zL rfl (X_shrinkM (c := c40) (xs := l5 ++ ([y13.1])) (n := w64 ((((l5 ++ ([y13.1])).length : Int)) - 1)) (id := 48) Tryz.underlying50 sz40 rfl rfl kk kk kk hu21) ?_
        refine XR 1 ?_
        refine zM ?_
        subst hl22
        kernel_rfl
       obtain ⟨vn23, hvn23, h⟩ := zT h
       refine jC (mb 43 99) [48, 80000] (s1 := ⟨.pt 80000 0 :: I vn23 :: bt 3 (.c (.sl (l4.map c73)) :: .ow 48 :: bt 36 []), [(48, .arr 40 7 (l22.map c40)), (80000, .pbox (σ 80000) [.sl (y19.2.1.map c5), Ti y19.2.2.1, .v (.int .u64 y19.2.2.2)])]⟩) ?_ ?_
       ·refine XR 3 ?_
        refine zM ?_
        subst hvn23
        kernel_rfl
       exact ⟨n, Nat.lt_succ_self n, _, _, _, _, _, _,  kk, h⟩
      ·refine zH ?_
       exact ⟨n, Nat.lt_succ_self n, _, _, _, _, _, _,  kk, h⟩
    ·refine zH ?_
     exact ⟨n, Nat.lt_succ_self n, _, _, _, _, _, _,  kk, h⟩
   ·refine jE ?_
    obtain rfl := zB h
    show St.keep _ _ _ = _
    kernel_rfl
 show V _ _ _ _
 refine VE ?_
 cases h
 exact zF VTR
theorem zHC : CfW Tryz.prog 180 := cfW Tryz.func180
theorem zHX {r : List ByteArray} (h : zD6 = some r) : zV Tryz.prog 180 [] (.ow 0) [(0, .arr 9 1 (r.map c9))] := by
 refine CtW [0] Tryz.func180 rfl rfl 2 ?_
 unfold zD6 at h
 refine VS ?_
 refine L1 rfl rfl (zAc (e := 9) 1 (by decide) (.inl rfl)) ?_
 refine YF ?_
 obtain ⟨l1, hl1, h⟩ := zA h
 have hl1 := zB hl1
 refine zO (mb 2 1) [8] (s1 := ⟨.ow 8 :: .bot :: [], [(8, .arr 9 1 (l1.map c9))]⟩) ?_ ?_
 ·refine L1 rfl rfl (qP (z := zv9) (els := [(⟨#[]⟩ : ByteArray), (⟨#[97, 100, 100]⟩ : ByteArray), (⟨#[100, 114, 111, 112]⟩ : ByteArray), (⟨#[109, 117, 108]⟩ : ByteArray), (⟨#[105, 110, 118]⟩ : ByteArray), (⟨#[109, 111, 118, 101]⟩ : ByteArray)].map c9) Tryz.underlying66 iz9 rfl (by decide) rfl kk rfl (by simp [c9]) (by decide) (by decide)) ?_
  refine XR 1 ?_
  refine zM ?_
  subst hl1
  kernel_rfl
 cases h
 exact zF VT
theorem zFC : CfW Tryz.prog 102 := cfW Tryz.func102
theorem zJu : ∀ (n : Nat) {vn1 : Int} {r : ByteArray}, zB7 n vn1 = some r → zV Tryz.prog 102 [I vn1] (.c (.v (.string r))) [] := by
 intro n
 induction n with
 | zero => intro vn1 r h; cases h
 | succ n ih =>
  intro vn1 r h
  refine CtW [2] Tryz.func102 rfl rfl 20 ?_
  rw [zB7] at h
  show V _ _ ⟨I vn1 :: bt 19 [], []⟩ _
  refine VE ?_
  refine zK ?_
  refine VE ?_
  refine VC h (fun h => ?_) (fun h => ?_)
  ·refine VS ?_
   refine YR 2 ?_
   refine L0 rfl rfl (zFD (k2 := .i64) (a := w64 (48 + vn1)) Tryz.underlying3 Tryz.underlying5 rfl kk) ?_
   refine L1 rfl rfl (qP (z := zv5) (els := [IntKind.u8.wrap (w64 (48 + vn1))].map c5) Tryz.underlying48 iz5 rfl (by decide) rfl kk rfl (by simp [c5]) (by decide) (by decide)) ?_
   refine L0 rfl rfl (Y0_b2s (c := c5) (fun _ => rfl) ([IntKind.u8.wrap (w64 (48 + vn1))]) Tryz.underlying48 Tryz.underlying5 Tryz.underlying9 rfl kk) ?_
   refine YF ?_
   cases h
   exact zF VT
  ·refine zH ?_
   show V _ _ _ _
   obtain ⟨y3, hy3, h⟩ := zA h
   obtain ⟨u4, hu4, h⟩ := zA h
   refine VDS [0, 1, 3, 0, 8, 24, 56, 120, 248, 511, 1023] 11 (cdm 11 [174720, 174721, 174725, 42, 106, 362, 1386, 5482, 21866, 87381, 349525]) ?_
   refine ER 1 ?_
   refine E0 1 rfl rfl (zAJ (a := vn1) (b := 10) rfl kk kk (by decide)) ?_
   refine EK 0 (ih hy3) zFC ?_
   refine ER 1 ?_
   refine E0 4 rfl rfl (zEy (k := .i64) (a := vn1) (b := 10) rfl kk kk (by decide)) ?_
   refine ER 1 ?_
   refine E0 6 rfl rfl (zFD (k2 := .i64) (a := w64 (48 + (Int.tmod vn1 10))) Tryz.underlying3 Tryz.underlying5 rfl kk) ?_
   refine E1 7 rfl rfl (qP (z := zv5) (els := [IntKind.u8.wrap (w64 (48 + (Int.tmod vn1 10)))].map c5) Tryz.underlying48 iz5 rfl (by decide) rfl kk rfl (by simp [c5]) (by decide) (by decide)) ?_
   refine E0 8 rfl rfl (Y0_b2s (c := c5) (fun _ => rfl) ([IntKind.u8.wrap (w64 (48 + (Int.tmod vn1 10)))]) Tryz.underlying48 Tryz.underlying5 Tryz.underlying9 rfl kk) ?_
   refine E0 9 rfl rfl (zAW (a := y3) (b := zBs ([IntKind.u8.wrap (w64 (48 + (Int.tmod vn1 10)))])) rfl kk kk (qJ hu4)) ?_
   refine EF 1 ?_
   cases h
   exact zF VT
theorem zG9 {vn1 : Int} {r : ByteArray} (h : zB7 FU vn1 = some r) : zV Tryz.prog 102 [I vn1] (.c (.v (.string r))) [] := zJu FU h
theorem zGF : CfW Tryz.prog 136 := cfW Tryz.func136
theorem zGa {vn1 : Int} {r : ByteArray} (h : zDD vn1 = some r) : zV Tryz.prog 136 [I vn1] (.c (.v (.string r))) [] := by
 refine CtW [2] Tryz.func136 rfl rfl 11 ?_
 unfold zDD at h
 refine VE ?_
 refine zK ?_
 refine VE ?_
 refine VC h (fun h => ?_) (fun h => ?_)
 ·obtain ⟨y3, hy3, h⟩ := zA h
  obtain ⟨u4, hu4, h⟩ := zA h
  refine VS ?_
  refine YK 2 (zG9 hy3) zFC ?_
  refine L0 rfl rfl (zAW (a := (⟨#[45]⟩ : ByteArray)) (b := y3) rfl kk kk (qJ hu4)) ?_
  refine YF ?_
  cases h
  exact zF VT
 ·refine zH ?_
  show V _ _ _ _
  obtain ⟨y5, hy5, h⟩ := zA h
  refine VS ?_
  refine YK 1 (zG9 hy5) zFC ?_
  refine YF ?_
  cases h
  exact zF VT
theorem zMC : CfW Tryz.prog 139 := cfW Tryz.func139
theorem s_spec_foText {f1 : (Int × Int × Int)} {r : ByteArray} (h : zDz f1 = some r) : zV Tryz.prog 139 [.ag [Ti f1.1, Ti f1.2.1, Ti f1.2.2]] (.c (.v (.string r))) [] := by
 refine CtW [2] Tryz.func139 rfl rfl 18 ?_
 unfold zDz at h
 refine VE ?_
 obtain ⟨y2, hy2, h⟩ := zA h
 obtain ⟨u3, hu3, h⟩ := zA h
 obtain ⟨u4, hu4, h⟩ := zA h
 obtain ⟨y5, hy5, h⟩ := zA h
 obtain ⟨u6, hu6, h⟩ := zA h
 obtain ⟨u7, hu7, h⟩ := zA h
 obtain ⟨y8, hy8, h⟩ := zA h
 obtain ⟨u9, hu9, h⟩ := zA h
 obtain ⟨u10, hu10, h⟩ := zA h
 refine VDS [0, 1, 3, 7, 15, 0, 32, 103, 255, 511, 0, 1024, 3303, 8191, 16383, 32767] 16 (cdm 16 [10496000, 10496001, 10496005, 44083221, 44083285, 10486442, 10487466, 10491541, 44062037, 44127573, 699050, 1747626, 5920405, 22369621, 89478485, 357913941]) ?_
 refine EK 2 (zGa hy2) zGF ?_
 refine E0 3 rfl rfl (zAW (a := (⟨#[40]⟩ : ByteArray)) (b := y2) rfl kk kk (qJ hu3)) ?_
 refine E0 4 rfl rfl (zAW (a := ((⟨#[40]⟩ : ByteArray)) ++ y2) (b := (⟨#[44]⟩ : ByteArray)) rfl kk kk (qJ hu4)) ?_
 refine EK 2 (zGa hy5) zGF ?_
 refine E0 8 rfl rfl (zAW (a := (((⟨#[40]⟩ : ByteArray)) ++ y2) ++ ((⟨#[44]⟩ : ByteArray))) (b := y5) rfl kk kk (qJ hu6)) ?_
 refine E0 9 rfl rfl (zAW (a := ((((⟨#[40]⟩ : ByteArray)) ++ y2) ++ ((⟨#[44]⟩ : ByteArray))) ++ y5) (b := (⟨#[44]⟩ : ByteArray)) rfl kk kk (qJ hu7)) ?_
 refine EK 2 (zGa hy8) zGF ?_
 refine E0 13 rfl rfl (zAW (a := (((((⟨#[40]⟩ : ByteArray)) ++ y2) ++ ((⟨#[44]⟩ : ByteArray))) ++ y5) ++ ((⟨#[44]⟩ : ByteArray))) (b := y8) rfl kk kk (qJ hu9)) ?_
 refine E0 14 rfl rfl (zAW (a := ((((((⟨#[40]⟩ : ByteArray)) ++ y2) ++ ((⟨#[44]⟩ : ByteArray))) ++ y5) ++ ((⟨#[44]⟩ : ByteArray))) ++ y8) (b := (⟨#[41]⟩ : ByteArray)) rfl kk kk (qJ hu10)) ?_
 refine EF 1 ?_
 cases h
 exact zF VT
theorem zFg : CfW Tryz.prog 90 := cfW Tryz.func90
theorem zFx {c1 : (Int × ByteArray × ByteArray × ByteArray × ((Int × Int × Int)))} {r : ByteArray} (h : qY c1 = some r) : zV Tryz.prog 90 [.ag [Ti c1.1, .v (.string c1.2.1), .v (.string c1.2.2.1), .v (.string c1.2.2.2.1), Ti c1.2.2.2.2.1, Ti c1.2.2.2.2.2.1, Ti c1.2.2.2.2.2.2]] (.c (.v (.string r))) [] := by
 refine CtW [2] Tryz.func90 rfl rfl 39 ?_
 unfold qY at h
 refine VE ?_
 obtain ⟨y2, hy2, h⟩ := zA h
 obtain ⟨e3, he3, h⟩ := zA h
 obtain ⟨e4, he4, h⟩ := zA h
 obtain ⟨u5, hu5, h⟩ := zA h
 obtain ⟨u6, hu6, h⟩ := zA h
 refine VDS [0, 0, 2, 7, 15, 31, 0, 64, 255, 511] 10 (cdm 10 [41000, 40962, 40966, 40981, 41045, 41301, 2730, 6826, 21845, 87381]) ?_
 refine EK 0 (zHX hy2) zHC ?_
 refine ER 2 ?_
 refine E0 3 rfl rfl (zAV (c := c9) (xs := y2) (v := e3) (id := 32) (T := 9) (sz := 1) (n := c1.1) Tryz.underlying66 sz9 rfl kk kk kk he3) ?_
 refine E0 4 rfl rfl (zAd (c := c9) (xs := y2) (v := e4) (id := 32) (sz := 1) (T := 9) (off := 0) (n := c1.1) (d := .v (.string e4)) (ds := []) sc9 rfl kk kk he4 kk) ?_
 refine E0 5 rfl rfl (zAW (a := e4) (b := (⟨#[32]⟩ : ByteArray)) rfl kk kk (qJ hu5)) ?_
 refine ER 2 ?_
 refine E0 8 rfl rfl (zAW (a := e4 ++ ((⟨#[32]⟩ : ByteArray))) (b := c1.2.1) rfl kk kk (qJ hu6)) ?_
 refine EF 1 ?_
 obtain ⟨j7, hj7, h⟩ := zA h
 refine zCw (mb 39 10) [8] (s1 := ⟨.bot :: .pt 8 0 :: .bot :: .c (.v (.string j7)) :: bt 35 [], [(8, .box [Ti c1.1, .v (.string c1.2.1), .v (.string c1.2.2.1), .v (.string c1.2.2.2.1), Ti c1.2.2.2.2.1, Ti c1.2.2.2.2.2.1, Ti c1.2.2.2.2.2.2])]⟩) ?_ ?_
 ·clear h
  have h := hj7
  clear hj7
  refine VS ?_
  refine YF ?_
  refine VC h (fun h => ?_) (fun h => ?_)
  ·obtain ⟨u9, hu9, h⟩ := zA h
   obtain ⟨u10, hu10, h⟩ := zA h
   refine zY ?_
   refine YR 3 ?_
   refine L0 rfl rfl (zAW (a := (⟨#[32]⟩ : ByteArray)) (b := c1.2.2.1) rfl kk kk (qJ hu9)) ?_
   refine L0 rfl rfl (zAW (a := (e4 ++ ((⟨#[32]⟩ : ByteArray))) ++ c1.2.1) (b := ((⟨#[32]⟩ : ByteArray)) ++ c1.2.2.1) rfl kk kk (qJ hu10)) ?_
   refine YF ?_
   obtain rfl := zB h
   show St.keep _ _ _ = _
   kernel_rfl
  ·refine zH ?_
   obtain rfl := zB h
   show St.keep _ _ _ = _
   kernel_rfl
 obtain ⟨j11, hj11, h⟩ := zA h
 refine zCw (mb 39 10) [8] (s1 := ⟨.bot :: .pt 8 0 :: .bot :: .c (.v (.string j11)) :: bt 35 [], [(8, .box [Ti c1.1, .v (.string c1.2.1), .v (.string c1.2.2.1), .v (.string c1.2.2.2.1), Ti c1.2.2.2.2.1, Ti c1.2.2.2.2.2.1, Ti c1.2.2.2.2.2.2])]⟩) ?_ ?_
 ·clear h
  have h := hj11
  clear hj11
  refine VS ?_
  refine YF ?_
  refine VC h (fun h => ?_) (fun h => ?_)
  ·obtain ⟨u13, hu13, h⟩ := zA h
   obtain ⟨u14, hu14, h⟩ := zA h
   refine zY ?_
   refine YR 3 ?_
   refine L0 rfl rfl (zAW (a := (⟨#[32]⟩ : ByteArray)) (b := c1.2.2.2.1) rfl kk kk (qJ hu13)) ?_
   refine L0 rfl rfl (zAW (a := j7) (b := ((⟨#[32]⟩ : ByteArray)) ++ c1.2.2.2.1) rfl kk kk (qJ hu14)) ?_
   refine YF ?_
   obtain rfl := zB h
   show St.keep _ _ _ = _
   kernel_rfl
  ·refine zH ?_
   obtain rfl := zB h
   show St.keep _ _ _ = _
   kernel_rfl
 refine zK ?_
 obtain ⟨y15, hy15, h⟩ := zA h
 refine VS ?_
 refine YK 2 (zEp hy15) zEd ?_
 refine YF ?_
 refine VC h (fun h => ?_) (fun h => ?_)
 ·obtain ⟨y17, hy17, h⟩ := zA h
  obtain ⟨u18, hu18, h⟩ := zA h
  obtain ⟨u19, hu19, h⟩ := zA h
  refine zY ?_
  refine YK 3 (s_spec_foText hy17) zMC ?_
  refine L0 rfl rfl (zAW (a := (⟨#[32]⟩ : ByteArray)) (b := y17) rfl kk kk (qJ hu18)) ?_
  refine L0 rfl rfl (zAW (a := j11) (b := ((⟨#[32]⟩ : ByteArray)) ++ y17) rfl kk kk (qJ hu19)) ?_
  refine YF ?_
  show V _ _ _ _
  refine VE ?_
  cases h
  exact zF VT
 ·refine zH ?_
  show V _ _ _ _
  refine VE ?_
  cases h
  exact zF VT
theorem zFR : CfW Tryz.prog 89 := cfW Tryz.func89
theorem zF8 {vs1 : ByteArray} {before2 : Int} {r : Int} (h : zCM vs1 before2 = some r) : zV Tryz.prog 89 [.c (.v (.string vs1)), I before2] (I r) [] := by
 refine CtW [4] Tryz.func89 rfl rfl 22 ?_
 unfold zCM at h
 refine VE ?_
 refine zK ?_
 refine VE ?_
 obtain ⟨o6, hLo6, h⟩ := zA h
 refine zCS (mb 22 2) [] (s1 := ⟨.bot :: I o6 :: bt 20 [], []⟩) ?_ ?_
 ·clear h
  refine zN (jM (fun n s => ∃ (before3 : Int) (i4 : Int), s.keep (mb 22 35) [] = (⟨.c (.v (.string vs1)) :: I before3 :: bt 3 (I i4 :: bt 16 []), []⟩ : St) ∧ zBh vs1 n before3 i4 = some o6) FU ⟨_, _,  kk, hLo6⟩ ?_)
  clear hLo6
  rintro n s ⟨before3, i4, hs, h⟩
  refine jF _ _ hs ?_
  clear hs
  cases n with
  | zero => cases h
  | succ n =>
   rw [zBh] at h
   refine zK ?_
   refine VS ?_
   refine YF ?_
   refine VC h (fun h => ?_) (fun h => ?_)
   ·refine zH ?_
    show V _ _ _ _
    refine zK ?_
    refine zN ?_
    obtain ⟨e8, he8, h⟩ := zA h
    obtain ⟨before9, hbefore9, h⟩ := zT h
    refine jC (mb 22 35) [] (s1 := ⟨.c (.v (.string vs1)) :: I before9 :: bt 3 (I i4 :: bt 16 []), []⟩) ?_ ?_
    ·refine XR 4 ?_
     refine L0 rfl rfl (zC9 (b := vs1) (k := .i64) (n := i4) (v := e8) Tryz.underlying9 rfl kk kk he8) ?_
     refine L0 rfl rfl (zFD (k2 := .u8) (a := e8) Tryz.underlying5 Tryz.underlying3 rfl kk) ?_
     refine XR 2 ?_
     refine L0 rfl rfl (zEy (k := .i64) (a := w64 ((w64 ((w64 (31 * before3)) + (IntKind.i64.wrap e8))) + 1)) (b := 9973) rfl kk kk (by decide)) ?_
     refine XR 1 ?_
     refine zM ?_
     subst hbefore9
     kernel_rfl
    show V _ _ _ _
    obtain ⟨i10, hi10, h⟩ := zT h
    refine jC (mb 22 35) [] (s1 := ⟨.c (.v (.string vs1)) :: I before9 :: bt 3 (I i10 :: bt 16 []), []⟩) ?_ ?_
    ·refine XR 3 ?_
     refine zM ?_
     subst hi10
     kernel_rfl
    exact ⟨n, Nat.lt_succ_self n, _, _,  kk, h⟩
   ·refine jE ?_
    obtain rfl := zB h
    show St.keep _ _ _ = _
    kernel_rfl
 show V _ _ _ _
 refine VE ?_
 cases h
 exact zF VT
theorem zDo : CfW Tryz.prog 51 := cfW Tryz.func51
theorem zEF {c1 : (Int × ByteArray × ByteArray × ByteArray × ((Int × Int × Int)))} {before2 : Int} {r : ByteArray} (h : zBp c1 before2 = some r) : zV Tryz.prog 51 [.ag [Ti c1.1, .v (.string c1.2.1), .v (.string c1.2.2.1), .v (.string c1.2.2.2.1), Ti c1.2.2.2.2.1, Ti c1.2.2.2.2.2.1, Ti c1.2.2.2.2.2.2], I before2] (.c (.v (.string r))) [] := by
 refine CtW [4] Tryz.func51 rfl rfl 16 ?_
 unfold zBp at h
 refine VE ?_
 obtain ⟨y3, hy3, h⟩ := zA h
 refine VS ?_
 refine YK 1 (zFx hy3) zFg ?_
 refine YF ?_
 obtain ⟨u4, hu4, h⟩ := zA h
 obtain ⟨y5, hy5, h⟩ := zA h
 obtain ⟨y6, hy6, h⟩ := zA h
 obtain ⟨u7, hu7, h⟩ := zA h
 obtain ⟨u8, hu8, h⟩ := zA h
 refine VS ?_
 refine YR 1 ?_
 refine L0 rfl rfl (zAW (a := y3) (b := (⟨#[35]⟩ : ByteArray)) rfl kk kk (qJ hu4)) ?_
 refine YK 2 (zF8 hy5) zFR ?_
 refine YK 0 (zG9 hy6) zFC ?_
 refine L0 rfl rfl (zAW (a := y3 ++ ((⟨#[35]⟩ : ByteArray))) (b := y6) rfl kk kk (qJ hu7)) ?_
 refine L0 rfl rfl (zAW (a := (y3 ++ ((⟨#[35]⟩ : ByteArray))) ++ y6) (b := (⟨#[10]⟩ : ByteArray)) rfl kk kk (qJ hu8)) ?_
 refine YF ?_
 cases h
 exact zF VT
theorem zJj : CfW Tryz.prog 48 := cfW Tryz.func48
theorem zJt {l1 : List ((Int × ByteArray × ByteArray × ByteArray × ((Int × Int × Int))))} {r : ByteArray} (h : zCo l1 = some r) : zV Tryz.prog 48 [.c (.sl (l1.map c40))] (.c (.v (.string r))) [] := by
 refine CtW [2] Tryz.func48 rfl rfl 24 ?_
 unfold zCo at h
 refine VE ?_
 refine VE ?_
 refine zK ?_
 refine VS ?_
 refine YR 1 ?_
 refine L0 rfl rfl (qQ (c := c40) (xs := l1) Tryz.underlying50 rfl kk) ?_
 refine YF ?_
 obtain ⟨o6, hLo6, h⟩ := zA h
 refine zCS (mb 24 8) [] (s1 := ⟨bt 3 (.c (.v (.string o6)) :: bt 20 []), []⟩) ?_ ?_
 ·clear h
  refine zN (jM (fun n s => ∃ (out2 : ByteArray) (check3 : Int) (t4 : Int), s.keep (mb 24 920) [] = (⟨bt 3 (.c (.v (.string out2)) :: I check3 :: .bot :: .bot :: .c (.sl (l1.map c40)) :: I ((l1.length : Int)) :: I t4 :: bt 14 []), []⟩ : St) ∧ zAQ l1 n out2 check3 t4 = some o6) FU ⟨_, _, _,  kk, hLo6⟩ ?_)
  clear hLo6
  rintro n s ⟨out2, check3, t4, hs, h⟩
  refine jF _ _ hs ?_
  clear hs
  cases n with
  | zero => cases h
  | succ n =>
   rw [zAQ] at h
   refine VE ?_
   refine zK ?_
   refine VC h (fun h => ?_) (fun h => ?_)
   ·refine zH ?_
    show V _ _ _ _
    refine zK ?_
    refine zN ?_
    obtain ⟨e8, he8, h⟩ := zA h
    refine VS ?_
    refine L0 rfl rfl (zBG (c := c40) (xs := l1) (v := e8) (n := t4) Tryz.underlying50 sz40 rfl kk kk he8) ?_
    refine YF ?_
    obtain ⟨y9, hy9, h⟩ := zA h
    obtain ⟨u10, hu10, h⟩ := zA h
    refine VS ?_
    refine YK 3 (zEF hy9) zDo ?_
    refine L0 rfl rfl (zAW (a := out2) (b := y9) rfl kk kk (qJ hu10)) ?_
    refine YF ?_
    obtain ⟨y11, hy11, h⟩ := zA h
    obtain ⟨y12, hy12, h⟩ := zA h
    refine zY ?_
    refine YK 1 (zFx hy11) zFg ?_
    refine YK 1 (zF8 hy12) zFR ?_
    refine YF ?_
    show V _ _ _ _
    obtain ⟨t13, ht13, h⟩ := zT h
    refine jC (mb 24 920) [] (s1 := ⟨bt 3 (.c (.v (.string (out2 ++ y9))) :: I y12 :: .bot :: .bot :: .c (.sl (l1.map c40)) :: I ((l1.length : Int)) :: I t13 :: bt 14 []), []⟩) ?_ ?_
    ·refine XR 2 ?_
     refine zM ?_
     subst ht13
     kernel_rfl
    exact ⟨n, Nat.lt_succ_self n, _, _, _,  kk, h⟩
   ·refine jE ?_
    obtain rfl := zB h
    show St.keep _ _ _ = _
    kernel_rfl
 show V _ _ _ _
 refine VE ?_
 cases h
 exact zF VT
theorem zHt : CfW Tryz.prog 120 := cfW Tryz.func120
theorem zIX {c1 : ((List Int) × Int × Int)} {t2 : ByteArray} {vwith3 : ByteArray} {r : (ByteArray × (((List Int) × Int × Int)))} (h : zBv c1 t2 vwith3 = some r) : zDq Tryz.prog 120 [.pt 80000 0, .c (.v (.string t2)), .c (.v (.string vwith3))] [(80000, .box [.sl (c1.1.map c5), Ti c1.2.1, .v (.int .u64 c1.2.2)])] (.c (.v (.string r.1))) [] [(80000, .box [.sl (r.2.1.map c5), Ti r.2.2.1, .v (.int .u64 r.2.2.2)])] := by
 refine qT (rs := [.t 6]) (vs := [.tmp 6]) Tryz.func120 rfl rfl (.cons rfl FitsL.nil) (by decide) 68 rfl rfl fun σ => ?_
 unfold zBv at h
 show V _ _ ⟨.pt 80000 0 :: .c (.v (.string t2)) :: .c (.v (.string vwith3)) :: bt 65 [], [(80000, .pbox (σ 80000) [.sl (c1.1.map c5), Ti c1.2.1, .v (.int .u64 c1.2.2)])]⟩ _
 refine VE ?_
 refine zK ?_
 obtain ⟨y4, hy4, h⟩ := zA h
 obtain ⟨vn5, hvn5, h⟩ := zT h
 refine zO (mb 68 135) [80000] (s1 := ⟨.pt 80000 0 :: .c (.v (.string t2)) :: .c (.v (.string vwith3)) :: bt 4 (I vn5 :: bt 60 []), [(80000, .pbox (σ 80000) [.sl (y4.2.1.map c5), Ti y4.2.2.1, .v (.int .u64 y4.2.2.2)])]⟩) ?_ ?_
 ·refine XR 1 ?_
  refine zL rfl (zS [(80000, 80000)] 11 (zI hy4) zG rfl rfl kk rfl (zR kk zX) rfl kk rfl rfl rfl) ?_
  refine XR 2 ?_
  refine zM ?_
  subst hvn5
  kernel_rfl
 obtain ⟨o12, hLo12, h⟩ := zA h
 refine zCS (mb 68 2) [80000] (s1 := ⟨.bot :: .c (.v (.string o12.1)) :: bt 66 [], [(80000, .pbox (σ 80000) [.sl (o12.2.1.map c5), Ti o12.2.2.1, .v (.int .u64 o12.2.2.2)])]⟩) ?_ ?_
 ·clear h
  refine zN (jM (fun n s => ∃ (t6 : ByteArray) (vn7 : Int) (f8 : List Int) (f9 : Int) (f10 : Int), s.keep (mb 68 135) [80000] = (⟨.pt 80000 0 :: .c (.v (.string t6)) :: .c (.v (.string vwith3)) :: bt 4 (I vn7 :: bt 60 []), [(80000, .pbox (σ 80000) [.sl (f8.map c5), Ti f9, .v (.int .u64 f10)])]⟩ : St) ∧ jA vwith3 n t6 vn7 f8 f9 f10 = some o12) FU ⟨_, _, _, _, _,  kk, hLo12⟩ ?_)
  clear hLo12
  rintro n s ⟨t6, vn7, f8, f9, f10, hs, h⟩
  refine jF _ _ hs ?_
  clear hs
  cases n with
  | zero => cases h
  | succ n =>
   rw [jA] at h
   refine zK ?_
   refine zO (mb 68 524423) [80000] (s1 := ⟨.pt 80000 0 :: .c (.v (.string t6)) :: .c (.v (.string vwith3)) :: bt 4 (I vn7 :: bt 11 (Bo (bif (ltI 0 vn7) then (ltI 0 ((t6.size : Int))) else false) :: bt 48 [])), [(80000, .pbox (σ 80000) [.sl (f8.map c5), Ti f9, .v (.int .u64 f10)])]⟩) ?_ ?_
   ·refine YR 3 ?_
    refine zE (ltI 0 vn7) (fun hc13 => ?_) (fun hc13 => ?_)
    ·refine YQ hc13 ?_
     exact YE (by rw [hc13]; kernel_rfl)
    ·refine YQ hc13 ?_
     exact YE (by rw [hc13]; kernel_rfl)
   refine VC h (fun h => ?_) (fun h => ?_)
   ·refine zH ?_
    show V _ _ _ _
    refine zK ?_
    refine zN ?_
    obtain ⟨y15, hy15, h⟩ := zA h
    refine VS ?_
    refine YR 3 ?_
    refine zL rfl (zS [(80000, 80000)] 25 (zI hy15) zG rfl rfl kk rfl (zR kk zX) rfl kk rfl rfl rfl) ?_
    refine YF ?_
    obtain ⟨y16, hy16, h⟩ := zA h
    obtain ⟨e17, he17, h⟩ := zA h
    refine VS ?_
    refine YR 4 ?_
    refine zL rfl (zS [(80000, 80000)] 30 (zI hy16) zG rfl rfl kk rfl (zR kk zX) rfl kk rfl rfl rfl) ?_
    refine L0 rfl rfl (zC9 (b := vwith3) (k := .i64) (n := y16.1) (v := e17) Tryz.underlying9 rfl kk kk he17) ?_
    refine L1 rfl rfl (qP (z := zv5) (els := [e17].map c5) Tryz.underlying48 iz5 rfl (by decide) rfl kk rfl (by simp [c5]) (by decide) (by decide)) ?_
    refine L0 rfl rfl (Y0_b2s (c := c5) (fun _ => rfl) ([e17]) Tryz.underlying48 Tryz.underlying5 Tryz.underlying9 rfl kk) ?_
    refine YF ?_
    obtain ⟨y18, hy18, h⟩ := zA h
    refine VS ?_
    refine YR 1 ?_
    refine zL rfl (zS [(80000, 80000)] 35 (zI hy18) zG rfl rfl kk rfl (zR kk zX) rfl kk rfl rfl rfl) ?_
    refine YF ?_
    refine zN ?_
    refine VE ?_
    refine VC h (fun h => ?_) (fun h => ?_)
    ·obtain ⟨u20, hu20, h⟩ := zA h
     obtain ⟨u21, hu21, h⟩ := zA h
     obtain ⟨u22, hu22, h⟩ := zA h
     obtain ⟨u23, hu23, h⟩ := zA h
     refine VDR [0, 0, 3, 0, 15, 0, 0, 96, 255, 511] 10 (cdm 10 [43144, 43138, 43141, 43050, 43093, 8874, 2730, 5802, 21845, 87381]) ?_
     refine ER 2 ?_
     refine E0 2 rfl rfl (zBF (b := t6) (l := 0) (h := y15.1) Tryz.underlying9 rfl kk (fun y hy => by cases hy) (fun _ => rfl) (fun y hy => by cases hy; exact ⟨.i64, kk⟩) (fun hh => by cases hh) (zAY hu20)) ?_
     refine ER 1 ?_
     refine E0 4 rfl rfl (zAW (a := t6.extract (Int.toNat 0) (Int.toNat y15.1)) (b := zBs ([e17])) rfl kk kk (qJ hu21)) ?_
     refine ER 2 ?_
     refine E0 7 rfl rfl (zBF (b := t6) (l := y15.1) (h := (t6.size : Int)) Tryz.underlying9 rfl kk (fun y hy => by cases hy; exact ⟨.i64, kk⟩) (fun hh => by cases hh) (fun y hy => by cases hy) (fun _ => rfl) (zAY hu22)) ?_
     refine E0 8 rfl rfl (zAW (a := (t6.extract (Int.toNat 0) (Int.toNat y15.1)) ++ (zBs ([e17]))) (b := t6.extract (Int.toNat y15.1) (Int.toNat ((t6.size : Int)))) rfl kk kk (qJ hu23)) ?_
     refine EF 1 ?_
     show V _ _ _ _
     obtain ⟨vn24, hvn24, h⟩ := zT h
     refine jC (mb 68 135) [80000] (s1 := ⟨.pt 80000 0 :: .c (.v (.string (((t6.extract (Int.toNat 0) (Int.toNat y15.1)) ++ (zBs ([e17]))) ++ (t6.extract (Int.toNat y15.1) (Int.toNat ((t6.size : Int))))))) :: .c (.v (.string vwith3)) :: bt 4 (I vn24 :: bt 60 []), [(80000, .pbox (σ 80000) [.sl (y18.2.1.map c5), Ti y18.2.2.1, .v (.int .u64 y18.2.2.2)])]⟩) ?_ ?_
     ·refine XR 3 ?_
      refine zM ?_
      subst hvn24
      kernel_rfl
     exact ⟨n, Nat.lt_succ_self n, _, _, _, _, _,  kk, h⟩
    ·refine VE ?_
     refine VC h (fun h => ?_) (fun h => ?_)
     ·obtain ⟨u26, hu26, h⟩ := zA h
      obtain ⟨u27, hu27, h⟩ := zA h
      obtain ⟨u28, hu28, h⟩ := zA h
      obtain ⟨u29, hu29, h⟩ := zA h
      refine VDR [0, 0, 3, 0, 15, 0, 0, 64, 224, 511, 1023] 11 (cdm 11 [174216, 174210, 174213, 174122, 174165, 41642, 2730, 6826, 22186, 87381, 349525]) ?_
      refine ER 2 ?_
      refine E0 2 rfl rfl (zBF (b := t6) (l := 0) (h := y15.1) Tryz.underlying9 rfl kk (fun y hy => by cases hy) (fun _ => rfl) (fun y hy => by cases hy; exact ⟨.i64, kk⟩) (fun hh => by cases hh) (zAY hu26)) ?_
      refine ER 1 ?_
      refine E0 4 rfl rfl (zAW (a := t6.extract (Int.toNat 0) (Int.toNat y15.1)) (b := zBs ([e17])) rfl kk kk (qJ hu27)) ?_
      refine ER 3 ?_
      refine E0 8 rfl rfl (zBF (b := t6) (l := w64 (y15.1 + 1)) (h := (t6.size : Int)) Tryz.underlying9 rfl kk (fun y hy => by cases hy; exact ⟨.i64, kk⟩) (fun hh => by cases hh) (fun y hy => by cases hy) (fun _ => rfl) (zAY hu28)) ?_
      refine E0 9 rfl rfl (zAW (a := (t6.extract (Int.toNat 0) (Int.toNat y15.1)) ++ (zBs ([e17]))) (b := t6.extract (Int.toNat (w64 (y15.1 + 1))) (Int.toNat ((t6.size : Int)))) rfl kk kk (qJ hu29)) ?_
      refine EF 1 ?_
      show V _ _ _ _
      obtain ⟨vn30, hvn30, h⟩ := zT h
      refine jC (mb 68 135) [80000] (s1 := ⟨.pt 80000 0 :: .c (.v (.string (((t6.extract (Int.toNat 0) (Int.toNat y15.1)) ++ (zBs ([e17]))) ++ (t6.extract (Int.toNat (w64 (y15.1 + 1))) (Int.toNat ((t6.size : Int))))))) :: .c (.v (.string vwith3)) :: bt 4 (I vn30 :: bt 60 []), [(80000, .pbox (σ 80000) [.sl (y18.2.1.map c5), Ti y18.2.2.1, .v (.int .u64 y18.2.2.2)])]⟩) ?_ ?_
      ·refine XR 3 ?_
       refine zM ?_
       subst hvn30
       kernel_rfl
      exact ⟨n, Nat.lt_succ_self n, _, _, _, _, _,  kk, h⟩
     ·obtain ⟨u31, hu31, h⟩ := zA h
      obtain ⟨u32, hu32, h⟩ := zA h
      obtain ⟨u33, hu33, h⟩ := zA h
      refine VDR [0, 0, 3, 0, 0, 16, 56, 127, 255] 9 (cdm 9 [10888, 10882, 10885, 2602, 170, 426, 1386, 5461, 21845]) ?_
      refine ER 2 ?_
      refine E0 2 rfl rfl (zBF (b := t6) (l := 0) (h := y15.1) Tryz.underlying9 rfl kk (fun y hy => by cases hy) (fun _ => rfl) (fun y hy => by cases hy; exact ⟨.i64, kk⟩) (fun hh => by cases hh) (zAY hu31)) ?_
      refine ER 3 ?_
      refine E0 6 rfl rfl (zBF (b := t6) (l := w64 (y15.1 + 1)) (h := (t6.size : Int)) Tryz.underlying9 rfl kk (fun y hy => by cases hy; exact ⟨.i64, kk⟩) (fun hh => by cases hh) (fun y hy => by cases hy) (fun _ => rfl) (zAY hu32)) ?_
      refine E0 7 rfl rfl (zAW (a := t6.extract (Int.toNat 0) (Int.toNat y15.1)) (b := t6.extract (Int.toNat (w64 (y15.1 + 1))) (Int.toNat ((t6.size : Int)))) rfl kk kk (qJ hu33)) ?_
      refine EF 1 ?_
      show V _ _ _ _
      obtain ⟨vn34, hvn34, h⟩ := zT h
      refine jC (mb 68 135) [80000] (s1 := ⟨.pt 80000 0 :: .c (.v (.string ((t6.extract (Int.toNat 0) (Int.toNat y15.1)) ++ (t6.extract (Int.toNat (w64 (y15.1 + 1))) (Int.toNat ((t6.size : Int))))))) :: .c (.v (.string vwith3)) :: bt 4 (I vn34 :: bt 60 []), [(80000, .pbox (σ 80000) [.sl (y18.2.1.map c5), Ti y18.2.2.1, .v (.int .u64 y18.2.2.2)])]⟩) ?_ ?_
      ·refine XR 3 ?_
       refine zM ?_
       subst hvn34
       kernel_rfl
      exact ⟨n, Nat.lt_succ_self n, _, _, _, _, _,  kk, h⟩
   ·refine jE ?_
    obtain rfl := zB h
    show St.keep _ _ _ = _
    kernel_rfl
 show V _ _ _ _
 refine VE ?_
 cases h
 exact zF VTR
theorem zHM : CfW Tryz.prog 64 := cfW Tryz.func64
theorem zHZ {c1 : ((List Int) × Int × Int)} {r : (ByteArray × (((List Int) × Int × Int)))} (h : zBe c1 = some r) : zDq Tryz.prog 64 [.pt 80000 0] [(80000, .box [.sl (c1.1.map c5), Ti c1.2.1, .v (.int .u64 c1.2.2)])] (.c (.v (.string r.1))) [] [(80000, .box [.sl (r.2.1.map c5), Ti r.2.2.1, .v (.int .u64 r.2.2.2)])] := by
 refine qT (rs := [.t 2]) (vs := [.tmp 2]) Tryz.func64 rfl rfl (.cons rfl FitsL.nil) (by decide) 52 rfl rfl fun σ => ?_
 unfold zBe at h
 show V _ _ ⟨.pt 80000 0 :: bt 51 [], [(80000, .pbox (σ 80000) [.sl (c1.1.map c5), Ti c1.2.1, .v (.int .u64 c1.2.2)])]⟩ _
 refine VE ?_
 obtain ⟨l2, hl2, h⟩ := zA h
 have hl2 := zB hl2
 refine zO (mb 52 9) [24, 80000] (s1 := ⟨.pt 80000 0 :: .bot :: .bot :: .ow 24 :: bt 48 [], [(24, .arr 40 7 (l2.map c40)), (80000, .pbox (σ 80000) [.sl (c1.1.map c5), Ti c1.2.1, .v (.int .u64 c1.2.2)])]⟩) ?_ ?_
 ·refine L1 rfl rfl (zAc (e := 40) 7 (by decide) (.inl rfl)) ?_
  refine zM ?_
  subst hl2
  kernel_rfl
 obtain ⟨y3, hy3, h⟩ := zA h
 refine VS ?_
 refine YR 1 ?_
 refine zL rfl (zS [(80000, 80000)] 9 (zI hy3) zG rfl rfl kk rfl (zR kk zX) rfl kk rfl rfl rfl) ?_
 refine YF ?_
 obtain ⟨j4, hj4, h⟩ := zA h
 refine zCw (mb 52 25) [24, 80000] (s1 := ⟨.pt 80000 0 :: .bot :: .bot :: .ow 24 :: I j4.1 :: bt 47 [], [(24, .arr 40 7 (l2.map c40)), (80000, .pbox (σ 80000) [.sl (j4.2.1.map c5), Ti j4.2.2.1, .v (.int .u64 j4.2.2.2)])]⟩) ?_ ?_
 ·clear h
  have h := hj4
  clear hj4
  obtain ⟨y5, hy5, h⟩ := zA h
  refine VS ?_
  refine YR 1 ?_
  refine zL rfl (zS [(80000, 80000)] 11 (zCG hy5) zBn rfl rfl kk rfl (zR kk zX) rfl kk rfl rfl rfl) ?_
  refine YF ?_
  refine VC h (fun h => ?_) (fun h => ?_)
  ·obtain ⟨y7, hy7, h⟩ := zA h
   obtain ⟨vn8, hvn8, h⟩ := zT h
   refine jC (mb 52 25) [24, 80000] (s1 := ⟨.pt 80000 0 :: .bot :: .bot :: .ow 24 :: I vn8 :: bt 47 [], [(24, .arr 40 7 (l2.map c40)), (80000, .pbox (σ 80000) [.sl (y7.2.1.map c5), Ti y7.2.2.1, .v (.int .u64 y7.2.2.2)])]⟩) ?_ ?_
   ·refine XR 1 ?_
    refine zL rfl (zS [(80000, 80000)] 13 (zI hy7) zG rfl rfl kk rfl (zR kk zX) rfl kk rfl rfl rfl) ?_
    refine XR 2 ?_
    refine zM ?_
    subst hvn8
    kernel_rfl
   obtain rfl := zB h
   show St.keep _ _ _ = _
   kernel_rfl
  ·refine zH ?_
   obtain rfl := zB h
   show St.keep _ _ _ = _
   kernel_rfl
 refine zK ?_
 obtain ⟨y9, hy9, h⟩ := zA h
 refine VS ?_
 refine YR 2 ?_
 refine zL rfl (zS [(80000, 80000)] 17 (zHI hy9) zGt rfl rfl kk rfl (zR kk zX) rfl kk rfl rfl rfl) ?_
 refine L0 rfl rfl (qQ (c := c40) (xs := y9.1) Tryz.underlying50 rfl kk) ?_
 refine YF ?_
 obtain ⟨o13, hLo13, h⟩ := zA h
 refine zCS (mb 52 9) [24, 80000] (s1 := ⟨.pt 80000 0 :: .bot :: .bot :: .ow 24 :: bt 48 [], [(24, .arr 40 7 (o13.map c40)), (80000, .pbox (σ 80000) [.sl (y9.2.1.map c5), Ti y9.2.2.1, .v (.int .u64 y9.2.2.2)])]⟩) ?_ ?_
 ·clear h
  refine zN (jM (fun n s => ∃ (t10 : Int) (l11 : List ((Int × ByteArray × ByteArray × ByteArray × ((Int × Int × Int))))), s.keep (mb 52 917513) [136, 24, 80000] = (⟨.pt 80000 0 :: .bot :: .bot :: .ow 24 :: bt 13 (.ow 136 :: I ((y9.1.length : Int)) :: I t10 :: bt 32 []), [(136, .arr 40 7 (y9.1.map c40)), (24, .arr 40 7 (l11.map c40)), (80000, .pbox (σ 80000) [.sl (y9.2.1.map c5), Ti y9.2.2.1, .v (.int .u64 y9.2.2.2)])]⟩ : St) ∧ qZ y9 n t10 l11 = some o13) FU ⟨_, _,  kk, hLo13⟩ ?_)
  clear hLo13
  rintro n s ⟨t10, l11, hs, h⟩
  refine jF _ _ hs ?_
  clear hs
  cases n with
  | zero => cases h
  | succ n =>
   rw [qZ] at h
   refine VE ?_
   refine zK ?_
   refine VC h (fun h => ?_) (fun h => ?_)
   ·refine zH ?_
    show V _ _ _ _
    refine zK ?_
    refine zN ?_
    obtain ⟨e15, he15, h⟩ := zA h
    obtain ⟨e16, he16, h⟩ := zA h
    refine VS ?_
    refine L0 rfl rfl (zAV (c := c40) (xs := y9.1) (v := e15) (id := 136) (T := 40) (sz := 7) (n := t10) Tryz.underlying50 sz40 rfl kk kk kk he15) ?_
    refine L0 rfl rfl (zIG (c := c40) (xs := y9.1) (v := e16) (id := 136) (sz := 7) (T := 40) (off := 0) (n := t10) [Ti e16.1, .v (.string e16.2.1), .v (.string e16.2.2.1), .v (.string e16.2.2.2.1), Ti e16.2.2.2.2.1, Ti e16.2.2.2.2.2.1, Ti e16.2.2.2.2.2.2] wd40 rfl kk kk he16 (Nat.le_of_ble_eq_true rfl) kk) ?_
    refine YF ?_
    obtain ⟨y17, hy17, h⟩ := zA h
    refine VS ?_
    refine YK 1 (zDi hy17) zD2 ?_
    refine YF ?_
    refine VC h (fun h => ?_) (fun h => ?_)
    ·obtain ⟨u19, hu19, h⟩ := zA h
     refine zY ?_
     refine YR 2 ?_
     refine L1 rfl rfl (qP (z := zv40) (els := [e16].map c40) Tryz.underlying50 iz40 rfl (by decide) rfl kk rfl (by simp [c40]) (by decide) (by decide)) ?_
     refine zL rfl (zAn (c := c40) (xs := l11) (ys := [e16]) (id := 24) (z := zv40) rfl rfl Tryz.underlying50 izb40 rfl kk kk kk (fun _ => rfl) (by simp) (zAK hu19) (by decide)) ?_
     refine YF ?_
     show V _ _ _ _
     obtain ⟨t20, ht20, h⟩ := zT h
     refine jC (mb 52 917513) [136, 24, 80000] (s1 := ⟨.pt 80000 0 :: .bot :: .bot :: .ow 24 :: bt 13 (.ow 136 :: I ((y9.1.length : Int)) :: I t20 :: bt 32 []), [(136, .arr 40 7 (y9.1.map c40)), (24, .arr 40 7 ((l11 ++ ([e16])).map c40)), (80000, .pbox (σ 80000) [.sl (y9.2.1.map c5), Ti y9.2.2.1, .v (.int .u64 y9.2.2.2)])]⟩) ?_ ?_
     ·refine XR 2 ?_
      refine zM ?_
      subst ht20
      kernel_rfl
     exact ⟨n, Nat.lt_succ_self n, _, _,  kk, h⟩
    ·refine zH ?_
     show V _ _ _ _
     obtain ⟨t21, ht21, h⟩ := zT h
     refine jC (mb 52 917513) [136, 24, 80000] (s1 := ⟨.pt 80000 0 :: .bot :: .bot :: .ow 24 :: bt 13 (.ow 136 :: I ((y9.1.length : Int)) :: I t21 :: bt 32 []), [(136, .arr 40 7 (y9.1.map c40)), (24, .arr 40 7 (l11.map c40)), (80000, .pbox (σ 80000) [.sl (y9.2.1.map c5), Ti y9.2.2.1, .v (.int .u64 y9.2.2.2)])]⟩) ?_ ?_
     ·refine XR 2 ?_
      refine zM ?_
      subst ht21
      kernel_rfl
     exact ⟨n, Nat.lt_succ_self n, _, _,  kk, h⟩
   ·refine jE ?_
    obtain rfl := zB h
    show St.keep _ _ _ = _
    kernel_rfl
 show V _ _ _ _
 obtain ⟨y22, hy22, h⟩ := zA h
 refine VS ?_
 refine YR 1 ?_
 refine L1 rfl rfl (zBy (zJt hy22) zJj rfl kk rfl rfl) ?_
 refine YF ?_
 refine zK ?_
 refine VS ?_
 refine YF ?_
 refine VC h (fun h => ?_) (fun h => ?_)
 ·refine VE ?_
  cases h
  exact zF VTR
 ·refine zH ?_
  show V _ _ _ _
  refine zK ?_
  obtain ⟨y24, hy24, h⟩ := zA h
  refine VS ?_
  refine YR 1 ?_
  refine zL rfl (zS [(80000, 80000)] 37 (zI hy24) zG rfl rfl kk rfl (zR kk zX) rfl kk rfl rfl rfl) ?_
  refine YF ?_
  refine zN ?_
  refine VE ?_
  refine VC h (fun h => ?_) (fun h => ?_)
  ·obtain ⟨y26, hy26, h⟩ := zA h
   obtain ⟨u27, hu27, h⟩ := zA h
   refine VS ?_
   refine YR 4 ?_
   refine zL rfl (zS [(80000, 80000)] 44 (zI hy26) zG rfl rfl kk rfl (zR kk zX) rfl kk rfl rfl rfl) ?_
   refine L0 rfl rfl (zBF (b := y22) (l := 0) (h := y26.1) Tryz.underlying9 rfl kk (fun y hy => by cases hy) (fun _ => rfl) (fun y hy => by cases hy; exact ⟨.i64, kk⟩) (fun hh => by cases hh) (zAY hu27)) ?_
   refine YF ?_
   cases h
   exact zF VTR
  ·refine VE ?_
   refine VC h (fun h => ?_) (fun h => ?_)
   ·obtain ⟨y29, hy29, h⟩ := zA h
    refine VS ?_
    refine YR 2 ?_
    refine zL rfl (zS [(80000, 80000)] 50 (zIX hy29) zHt rfl rfl kk rfl (zR kk zX) rfl kk rfl rfl rfl) ?_
    refine YF ?_
    cases h
    exact zF VTR
   ·refine zH ?_
    show V _ _ _ _
    refine VE ?_
    cases h
    exact zF VTR
theorem zHD : CfW Tryz.prog 85 := cfW Tryz.func85
theorem zHY {vs1 : ByteArray} {b2 : Int} {r : List ByteArray} (h : zBd vs1 b2 = some r) : zV Tryz.prog 85 [.c (.v (.string vs1)), .c (.v (.int .u8 b2))] (.ow 0) [(0, .arr 9 1 (r.map c9))] := by
 refine CtW [4] Tryz.func85 rfl rfl 34 ?_
 unfold zBd at h
 refine VS ?_
 refine L1 rfl rfl (zAc (e := 9) 1 (by decide) (.inl rfl)) ?_
 refine YF ?_
 refine VS ?_
 refine L1 rfl rfl (zAc (e := 9) 1 (by decide) (.inl rfl)) ?_
 refine YF ?_
 refine VE ?_
 refine zK ?_
 refine VE ?_
 obtain ⟨o7, hLo7, h⟩ := zA h
 refine zCS (mb 34 97) [40] (s1 := ⟨.c (.v (.string vs1)) :: bt 4 (.ow 40 :: I o7.1 :: bt 27 []), [(40, .arr 9 1 (o7.2.map c9))]⟩) ?_ ?_
 ·clear h
  refine zN (jM (fun n s => ∃ (vfrom3 : Int) (i4 : Int) (l5 : List ByteArray), s.keep (mb 34 227) [40] = (⟨.c (.v (.string vs1)) :: .c (.v (.int .u8 b2)) :: bt 3 (.ow 40 :: I vfrom3 :: I i4 :: bt 26 []), [(40, .arr 9 1 (l5.map c9))]⟩ : St) ∧ zAT b2 vs1 n vfrom3 i4 l5 = some o7) FU ⟨_, _, _,  kk, hLo7⟩ ?_)
  clear hLo7
  rintro n s ⟨vfrom3, i4, l5, hs, h⟩
  refine jF _ _ hs ?_
  clear hs
  cases n with
  | zero => cases h
  | succ n =>
   rw [zAT] at h
   refine zK ?_
   refine VS ?_
   refine YF ?_
   refine VC h (fun h => ?_) (fun h => ?_)
   ·refine zH ?_
    show V _ _ _ _
    refine zK ?_
    refine zN ?_
    obtain ⟨e9, he9, h⟩ := zA h
    refine VS ?_
    refine YR 2 ?_
    refine L0 rfl rfl (zC9 (b := vs1) (k := .i64) (n := i4) (v := e9) Tryz.underlying9 rfl kk kk he9) ?_
    refine YF ?_
    refine VC h (fun h => ?_) (fun h => ?_)
    ·obtain ⟨u11, hu11, h⟩ := zA h
     obtain ⟨u12, hu12, h⟩ := zA h
     refine VS ?_
     refine YR 4 ?_
     refine L0 rfl rfl (zBF (b := vs1) (l := vfrom3) (h := i4) Tryz.underlying9 rfl kk (fun y hy => by cases hy; exact ⟨.i64, kk⟩) (fun hh => by cases hh) (fun y hy => by cases hy; exact ⟨.i64, kk⟩) (fun hh => by cases hh) (zAY hu11)) ?_
     refine L1 rfl rfl (qP (z := zv9) (els := [vs1.extract (Int.toNat vfrom3) (Int.toNat i4)].map c9) Tryz.underlying66 iz9 rfl (by decide) rfl kk rfl (by simp [c9]) (by decide) (by decide)) ?_
     refine zL rfl (zAn (c := c9) (xs := l5) (ys := [vs1.extract (Int.toNat vfrom3) (Int.toNat i4)]) (id := 40) (z := zv9) rfl rfl Tryz.underlying66 izb9 rfl kk kk kk (fun _ => rfl) (by simp) (zAK hu12) (by decide)) ?_
     refine YF ?_
     obtain ⟨vfrom13, hvfrom13, h⟩ := zT h
     refine jC (mb 34 227) [40] (s1 := ⟨.c (.v (.string vs1)) :: .c (.v (.int .u8 b2)) :: bt 3 (.ow 40 :: I vfrom13 :: I i4 :: bt 26 []), [(40, .arr 9 1 ((l5 ++ ([vs1.extract (Int.toNat vfrom3) (Int.toNat i4)])).map c9))]⟩) ?_ ?_
     ·refine XR 3 ?_
      refine zM ?_
      subst hvfrom13
      kernel_rfl
     show V _ _ _ _
     obtain ⟨i14, hi14, h⟩ := zT h
     refine jC (mb 34 227) [40] (s1 := ⟨.c (.v (.string vs1)) :: .c (.v (.int .u8 b2)) :: bt 3 (.ow 40 :: I vfrom13 :: I i14 :: bt 26 []), [(40, .arr 9 1 ((l5 ++ ([vs1.extract (Int.toNat vfrom3) (Int.toNat i4)])).map c9))]⟩) ?_ ?_
     ·refine XR 3 ?_
      refine zM ?_
      subst hi14
      kernel_rfl
     exact ⟨n, Nat.lt_succ_self n, _, _, _,  kk, h⟩
    ·refine zH ?_
     show V _ _ _ _
     obtain ⟨i15, hi15, h⟩ := zT h
     refine jC (mb 34 227) [40] (s1 := ⟨.c (.v (.string vs1)) :: .c (.v (.int .u8 b2)) :: bt 3 (.ow 40 :: I vfrom3 :: I i15 :: bt 26 []), [(40, .arr 9 1 (l5.map c9))]⟩) ?_ ?_
     ·refine XR 3 ?_
      refine zM ?_
      subst hi15
      kernel_rfl
     exact ⟨n, Nat.lt_succ_self n, _, _, _,  kk, h⟩
   ·refine jE ?_
    obtain rfl := zB h
    show St.keep _ _ _ = _
    kernel_rfl
 show V _ _ _ _
 obtain ⟨u16, hu16, h⟩ := zA h
 obtain ⟨u17, hu17, h⟩ := zA h
 obtain ⟨l18, hl18, h⟩ := zA h
 have hl18 := zB hl18
 refine zO (mb 34 16) [40] (s1 := ⟨bt 4 (.ow 40 :: bt 29 []), [(40, .arr 9 1 (l18.map c9))]⟩) ?_ ?_
 ·refine XR 3 ?_
  refine L0 rfl rfl (zBF (b := vs1) (l := o7.1) (h := (vs1.size : Int)) Tryz.underlying9 rfl kk (fun y hy => by cases hy; exact ⟨.i64, kk⟩) (fun hh => by cases hh) (fun y hy => by cases hy) (fun _ => rfl) (zAY hu16)) ?_
  refine L1 rfl rfl (qP (z := zv9) (els := [vs1.extract (Int.toNat o7.1) (Int.toNat ((vs1.size : Int)))].map c9) Tryz.underlying66 iz9 rfl (by decide) rfl kk rfl (by simp [c9]) (by decide) (by decide)) ?_
  refine zL rfl (zAn (c := c9) (xs := o7.2) (ys := [vs1.extract (Int.toNat o7.1) (Int.toNat ((vs1.size : Int)))]) (id := 40) (z := zv9) rfl rfl Tryz.underlying66 izb9 rfl kk kk kk (fun _ => rfl) (by simp) (zAK hu17) (by decide)) ?_
  refine XR 1 ?_
  refine zM ?_
  subst hl18
  kernel_rfl
 cases h
 exact zF VT
theorem zKW : CfW Tryz.prog 214 := cfW Tryz.func214
theorem zKm {vs1 : ByteArray} {first2 : Int} {last3 : Int} {r : (ByteArray × Bool)} (h : zBU vs1 first2 last3 = some r) : zV Tryz.prog 214 [.c (.v (.string vs1)), .c (.v (.int .u8 first2)), .c (.v (.int .u8 last3))] (.tc (.c (.v (.string r.1))) (.tc (Bo r.2) .tn)) [] := by
 refine CtW [6, 7] Tryz.func214 rfl rfl 31 ?_
 unfold zBU at h
 refine VE ?_
 refine zK ?_
 obtain ⟨b6, hb6, h⟩ := zA h
 obtain ⟨b9, hb9, h⟩ := zA h
 refine zO (mb 31 33554433) [] (s1 := ⟨.c (.v (.string vs1)) :: bt 24 (Bo b9 :: bt 5 []), []⟩) ?_ ?_
 ·refine YR 4 ?_
  refine zE (ltI ((vs1.size : Int)) 2) (fun hc4 => ?_) (fun hc4 => ?_)
  ·have hb6 := zB (qH hb6 hc4)
   refine YQ hc4 ?_
   refine YR 6 ?_
   subst hb6
   have hc7 : true = true := rfl
   have hb9 := zB (qH hb9 hc7)
   exact YE (by rw [← hb9]; (try rw [hc4]); kernel_rfl)
  ·have hb6 := z7 hb6 hc4
   obtain ⟨e5, he5, hb6⟩ := zA hb6
   have hb6 := zB hb6
   refine YQ hc4 ?_
   refine YR 1 ?_
   refine YT (qB rfl (zC9 (b := vs1) (k := .i64) (n := 0) (v := e5) Tryz.underlying9 rfl kk kk he5)) ?_
   refine YR 4 ?_
   refine zE b6 (fun hc7 => ?_) (fun hc7 => ?_)
   ·have hb9 := zB (qH hb9 hc7)
    refine YQ hc7 ?_ (by rw [← hb6]; (try rw [← hb9]); (try rw [hc4]); kernel_rfl)
    exact YE (by rw [← hb9]; (try rw [hc4]); (try rw [hc7]); kernel_rfl)
   ·have hb9 := z7 hb9 hc7
    obtain ⟨e8, he8, hb9⟩ := zA hb9
    have hb9 := zB hb9
    refine YQ hc7 ?_ (by rw [← hb6]; (try rw [← hb9]); (try rw [hc4]); kernel_rfl)
    refine YR 4 ?_
    refine YT (qB rfl (zC9 (b := vs1) (k := .i64) (n := w64 (((vs1.size : Int)) - 1)) (v := e8) Tryz.underlying9 rfl kk kk he8)) ?_
    exact YE (by rw [← hb9]; (try rw [hc4]); (try rw [hc7]); kernel_rfl)
 refine VC h (fun h => ?_) (fun h => ?_)
 ·refine VE ?_
  cases h
  exact zF VT
 ·refine zH ?_
  show V _ _ _ _
  obtain ⟨u11, hu11, h⟩ := zA h
  refine VS ?_
  refine YR 4 ?_
  refine L0 rfl rfl (zBF (b := vs1) (l := 1) (h := w64 (((vs1.size : Int)) - 1)) Tryz.underlying9 rfl kk (fun y hy => by cases hy; exact ⟨.i64, kk⟩) (fun hh => by cases hh) (fun y hy => by cases hy; exact ⟨.i64, kk⟩) (fun hh => by cases hh) (zAY hu11)) ?_
  refine YF ?_
  cases h
  exact zF VT
theorem zLz : CfW Tryz.prog 216 := cfW Tryz.func216
theorem s_spec_nuRead {vs1 : ByteArray} {r : Int} (h : zDy vs1 = some r) : zV Tryz.prog 216 [.c (.v (.string vs1))] (I r) [] := by
 refine CtW [2] Tryz.func216 rfl rfl 44 ?_
 unfold zDy at h
 refine VE ?_
 refine zK ?_
 obtain ⟨y2, hy2, h⟩ := zA h
 obtain ⟨b6, hb6, h⟩ := zA h
 refine zO (mb 44 262145) [] (s1 := ⟨.c (.v (.string vs1)) :: bt 17 (Bo b6 :: bt 25 []), []⟩) ?_ ?_
 ·refine YK 2 (zET hy2) zDp ?_
  refine YR 2 ?_
  refine zE (!y2) (fun hc3 => ?_) (fun hc3 => ?_)
  ·have hb6 := zB (qH hb6 hc3)
   refine YQ hc3 ?_
   exact YE (by rw [← hb6]; (try rw [hc3]); kernel_rfl)
  ·have hb6 := z7 hb6 hc3
   obtain ⟨e4, he4, hb6⟩ := zA hb6
   have hb6 := zB hb6
   refine YQ hc3 ?_
   refine YR 1 ?_
   refine YT (qB rfl (zC9 (b := vs1) (k := .i64) (n := 0) (v := e4) Tryz.underlying9 rfl kk kk he4)) ?_
   refine YR 2 ?_
   refine zE (eqI e4 48) (fun hc5 => ?_) (fun hc5 => ?_)
   ·refine YQ hc5 ?_
    exact YE (by rw [← hb6]; (try rw [hc5]); (try rw [hc3]); kernel_rfl)
   ·refine YQ hc5 ?_
    exact YE (by rw [← hb6]; (try rw [hc5]); (try rw [hc3]); kernel_rfl)
 refine VC h (fun h => ?_) (fun h => ?_)
 ·refine VE ?_
  cases h
  exact zF VT
 ·refine zH ?_
  show V _ _ _ _
  refine VE ?_
  refine zK ?_
  refine VE ?_
  obtain ⟨qo11, hLo11, hko11⟩ := zA h
  refine zFN (q := qo11) (S := fun o11 => ⟨bt 3 (I o11 :: bt 40 []), []⟩) (mb 44 8) [] ?_ ?_
  ·refine zN (jM (fun n s => ∃ (vn8 : Int) (i9 : Int), s.keep (mb 44 25) [] = (⟨.c (.v (.string vs1)) :: .bot :: .bot :: I vn8 :: I i9 :: bt 39 [], []⟩ : St) ∧ zAj vs1 n vn8 i9 = some qo11) FU ⟨_, _,  kk, hLo11⟩ ?_)
   clear hLo11
   rintro n s ⟨vn8, i9, hs, h⟩
   refine jF _ _ hs ?_
   clear hs
   cases n with
   | zero => cases h
   | succ n =>
    rw [zAj] at h
    refine zK ?_
    refine VS ?_
    refine YF ?_
    refine VC h (fun h => ?_) (fun h => ?_)
    ·refine zH ?_
     show V _ _ _ _
     refine zK ?_
     refine zN ?_
     refine zK ?_
     obtain ⟨e13, he13, h⟩ := zA h
     obtain ⟨b16, hb16, h⟩ := zA h
     refine zO (mb 44 17179869209) [] (s1 := ⟨.c (.v (.string vs1)) :: .bot :: .bot :: I vn8 :: I i9 :: bt 29 (Bo b16 :: bt 9 []), []⟩) ?_ ?_
     ·refine YR 2 ?_
      refine L0 rfl rfl (zC9 (b := vs1) (k := .i64) (n := i9) (v := e13) Tryz.underlying9 rfl kk kk he13) ?_
      refine YR 2 ?_
      refine zE (ltI e13 48) (fun hc14 => ?_) (fun hc14 => ?_)
      ·have hb16 := zB (qH hb16 hc14)
       refine YQ hc14 ?_
       exact YE (by rw [← hb16]; (try rw [hc14]); kernel_rfl)
      ·have hb16 := z7 hb16 hc14
       obtain ⟨e15, he15, hb16⟩ := zA hb16
       have hb16 := zB hb16
       refine YQ hc14 ?_
       refine YR 2 ?_
       refine YT (qB rfl (zC9 (b := vs1) (k := .i64) (n := i9) (v := e15) Tryz.underlying9 rfl kk kk he15)) ?_
       exact YE (by rw [← hb16]; (try rw [hc14]); kernel_rfl)
     refine VC h (fun h => ?_) (fun h => ?_)
     ·refine VE ?_
      refine zF ?_
      obtain rfl := zB h
      have h := hko11
      obtain rfl := zB h
      exact VT
     ·refine zH ?_
      show V _ _ _ _
      obtain ⟨e18, he18, h⟩ := zA h
      obtain ⟨vn19, hvn19, h⟩ := zT h
      refine jC (mb 44 25) [] (s1 := ⟨.c (.v (.string vs1)) :: .bot :: .bot :: I vn19 :: I i9 :: bt 39 [], []⟩) ?_ ?_
      ·refine XR 4 ?_
       refine L0 rfl rfl (zC9 (b := vs1) (k := .i64) (n := i9) (v := e18) Tryz.underlying9 rfl kk kk he18) ?_
       refine L0 rfl rfl (Y0_sub (k := .u8) (a := e18) (b := 48) rfl kk kk) ?_
       refine L0 rfl rfl (zFD (k2 := .u8) (a := IntKind.u8.wrap (e18 - 48)) Tryz.underlying5 Tryz.underlying3 rfl kk) ?_
       refine XR 2 ?_
       refine zM ?_
       subst hvn19
       kernel_rfl
      show V _ _ _ _
      obtain ⟨i20, hi20, h⟩ := zT h
      refine jC (mb 44 25) [] (s1 := ⟨.c (.v (.string vs1)) :: .bot :: .bot :: I vn19 :: I i20 :: bt 39 [], []⟩) ?_ ?_
      ·refine XR 3 ?_
       refine zM ?_
       subst hi20
       kernel_rfl
      exact ⟨n, Nat.lt_succ_self n, _, _,  kk, h⟩
    ·refine jE ?_
     obtain rfl := zB h
     exact ⟨_, rfl, kk⟩
  rintro o11 rfl
  have h := hko11
  clear hko11
  show V _ _ _ _
  refine VE ?_
  cases h
  exact zF VT
theorem cf_spec_foInt : CfW Tryz.prog 146 := cfW Tryz.func146
theorem s_spec_foInt {vs1 : ByteArray} {r : (Int × Bool)} (h : zDF vs1 = some r) : zV Tryz.prog 146 [.c (.v (.string vs1))] (.tc (I r.1) (.tc (Bo r.2) .tn)) [] := by
 refine CtW [2, 3] Tryz.func146 rfl rfl 36 ?_
 unfold zDF at h
 refine VE ?_
 obtain ⟨b4, hb4, h⟩ := zA h
 refine zO (mb 36 17) [] (s1 := ⟨.c (.v (.string vs1)) :: bt 3 (Bo b4 :: bt 31 []), []⟩) ?_ ?_
 ·refine YR 4 ?_
  refine zE (ltI 1 ((vs1.size : Int))) (fun hc2 => ?_) (fun hc2 => ?_)
  ·have hb4 := qH hb4 hc2
   obtain ⟨e3, he3, hb4⟩ := zA hb4
   have hb4 := zB hb4
   refine YQ hc2 ?_
   refine YR 1 ?_
   refine YT (qB rfl (zC9 (b := vs1) (k := .i64) (n := 0) (v := e3) Tryz.underlying9 rfl kk kk he3)) ?_
   exact YE (by rw [← hb4]; (try rw [hc2]); kernel_rfl)
  ·have hb4 := zB (z7 hb4 hc2)
   refine YQ hc2 ?_
   exact YE (by rw [← hb4]; (try rw [hc2]); kernel_rfl)
 obtain ⟨j5, hj5, h⟩ := zA h
 refine zCw (mb 36 17) [] (s1 := ⟨.c (.v (.string j5)) :: bt 3 (Bo b4 :: bt 31 []), []⟩) ?_ ?_
 ·clear h
  have h := hj5
  clear hj5
  refine VE ?_
  refine VC h (fun h => ?_) (fun h => ?_)
  ·obtain ⟨u7, hu7, h⟩ := zA h
   refine zY ?_
   refine YR 1 ?_
   refine L0 rfl rfl (zBF (b := vs1) (l := 1) (h := (vs1.size : Int)) Tryz.underlying9 rfl kk (fun y hy => by cases hy; exact ⟨.i64, kk⟩) (fun hh => by cases hh) (fun y hy => by cases hy) (fun _ => rfl) (zAY hu7)) ?_
   refine YF ?_
   obtain rfl := zB h
   show St.keep _ _ _ = _
   kernel_rfl
  ·refine zH ?_
   obtain rfl := zB h
   show St.keep _ _ _ = _
   kernel_rfl
 obtain ⟨y8, hy8, h⟩ := zA h
 refine VS ?_
 refine YK 1 (s_spec_nuRead hy8) zLz ?_
 refine YF ?_
 refine zK ?_
 obtain ⟨t12, ht12, h⟩ := zA h
 have ht12 := zB ht12
 refine zO (mb 36 2147483696) [] (s1 := ⟨bt 4 (Bo b4 :: I y8 :: bt 25 (Bo t12 :: bt 4 [])), []⟩) ?_ ?_
 ·refine YR 3 ?_
  refine zE (ltI y8 0) (fun hc9 => ?_) (fun hc9 => ?_)
  ·refine YQ hc9 ?_
   refine YR 7 ?_
   refine zE (bif (ltI y8 0) then true else (bif b4 then (eqI y8 0) else false)) (fun hc11 => ?_) (fun hc11 => ?_)
   ·refine YQ hc11 ?_ (by rw [hc9]; kernel_rfl)
    exact YE (by rw [← ht12]; (try rw [hc11]); (try rw [hc9]); kernel_rfl)
   ·refine YQ hc11 ?_ (by rw [hc9]; kernel_rfl)
    exact YE (by rw [← ht12]; (try rw [hc11]); (try rw [hc9]); kernel_rfl)
  ·refine YQ hc9 ?_
   refine YR 2 ?_
   refine zE b4 (fun hc10 => ?_) (fun hc10 => ?_)
   ·refine YQ hc10 ?_
    refine YR 5 ?_
    refine zE (bif (ltI y8 0) then true else (bif b4 then (eqI y8 0) else false)) (fun hc11 => ?_) (fun hc11 => ?_)
    ·refine YQ hc11 ?_ (by rw [hc9]; (try rw [hc10]); kernel_rfl)
     exact YE (by rw [← ht12]; (try rw [hc11]); (try rw [hc9]); (try rw [hc10]); kernel_rfl)
    ·refine YQ hc11 ?_ (by rw [hc9]; (try rw [hc10]); kernel_rfl)
     exact YE (by rw [← ht12]; (try rw [hc11]); (try rw [hc9]); (try rw [hc10]); kernel_rfl)
   ·refine YQ hc10 ?_
    refine YR 5 ?_
    refine zE (bif (ltI y8 0) then true else (bif b4 then (eqI y8 0) else false)) (fun hc11 => ?_) (fun hc11 => ?_)
    ·refine YQ hc11 ?_ (by rw [hc9]; (try rw [hc10]); kernel_rfl)
     exact YE (by rw [← ht12]; (try rw [hc11]); (try rw [hc9]); (try rw [hc10]); kernel_rfl)
    ·refine YQ hc11 ?_ (by rw [hc9]; (try rw [hc10]); kernel_rfl)
     exact YE (by rw [← ht12]; (try rw [hc11]); (try rw [hc9]); (try rw [hc10]); kernel_rfl)
 refine VC h (fun h => ?_) (fun h => ?_)
 ·refine VE ?_
  cases h
  exact zF VT
 ·refine zH ?_
  show V _ _ _ _
  refine zK ?_
  refine VE ?_
  refine VC h (fun h => ?_) (fun h => ?_)
  ·obtain ⟨t15, ht15, h⟩ := zT h
   refine zO (mb 36 12) [] (s1 := ⟨.bot :: .bot :: I t15 :: Bo true :: bt 32 [], []⟩) ?_ ?_
   ·refine XR 4 ?_
    refine zM ?_
    subst ht15
    kernel_rfl
   cases h
   exact zF VT
  ·refine zH ?_
   show V _ _ _ _
   refine VE ?_
   cases h
   exact zF VT
theorem zME : CfW Tryz.prog 215 := cfW Tryz.func215
theorem s_spec_foInts {vs1 : ByteArray} {b2 : Int} {count3 : Int} {r : List Int} (h : zB9 vs1 b2 count3 = some r) : zV Tryz.prog 215 [.c (.v (.string vs1)), .c (.v (.int .u8 b2)), I count3] (.ow 0) [(0, .arr 3 1 (r.map c3))] := by
 refine CtW [6] Tryz.func215 rfl rfl 39 ?_
 unfold zB9 at h
 refine VS ?_
 refine L1 rfl rfl (zAc (e := 3) 1 (by decide) (.inl rfl)) ?_
 refine YF ?_
 obtain ⟨y4, hy4, h⟩ := zA h
 refine VS ?_
 refine YK 2 (zHY hy4) zHD ?_
 refine YF ?_
 refine zK ?_
 refine VS ?_
 refine YR 1 ?_
 refine L0 rfl rfl (qQ (c := c9) (xs := y4) Tryz.underlying66 rfl kk) ?_
 refine YF ?_
 refine VC h (fun h => ?_) (fun h => ?_)
 ·refine VS ?_
  refine L1 rfl rfl (zAc (e := 3) 1 (by decide) (.inl rfl)) ?_
  refine YF ?_
  cases h
  exact zF VT
 ·refine zH ?_
  show V _ _ _ _
  refine VS ?_
  refine L1 rfl rfl (zAc (e := 3) 1 (by decide) (.inl rfl)) ?_
  refine YF ?_
  refine zK ?_
  refine VS ?_
  refine YR 1 ?_
  refine L0 rfl rfl (qQ (c := c9) (xs := y4) Tryz.underlying66 rfl kk) ?_
  refine YF ?_
  obtain ⟨qo9, hLo9, hko9⟩ := zA h
  refine zFN (q := qo9) (S := fun o9 => ⟨bt 8 (.ow 64 :: bt 30 []), [(64, .arr 3 1 (o9.map c3))]⟩) (mb 39 256) [64] ?_ ?_
  ·refine zN (jM (fun n s => ∃ (t6 : Int) (l7 : List Int), s.keep (mb 39 7340288) [64, 120] = (⟨bt 8 (.ow 64 :: bt 11 (.ow 120 :: I ((y4.length : Int)) :: I t6 :: bt 16 [])), [(64, .arr 3 1 (l7.map c3)), (120, .arr 9 1 (y4.map c9))]⟩ : St) ∧ zAL y4 n t6 l7 = some qo9) FU ⟨_, _,  kk, hLo9⟩ ?_)
   clear hLo9
   rintro n s ⟨t6, l7, hs, h⟩
   refine jF _ _ hs ?_
   clear hs
   cases n with
   | zero => cases h
   | succ n =>
    rw [zAL] at h
    refine VE ?_
    refine zK ?_
    refine VC h (fun h => ?_) (fun h => ?_)
    ·refine zH ?_
     show V _ _ _ _
     refine zK ?_
     refine zN ?_
     obtain ⟨e11, he11, h⟩ := zA h
     obtain ⟨e12, he12, h⟩ := zA h
     refine VS ?_
     refine L0 rfl rfl (zAV (c := c9) (xs := y4) (v := e11) (id := 120) (T := 9) (sz := 1) (n := t6) Tryz.underlying66 sz9 rfl kk kk kk he11) ?_
     refine L0 rfl rfl (zAd (c := c9) (xs := y4) (v := e12) (id := 120) (sz := 1) (T := 9) (off := 0) (n := t6) (d := .v (.string e12)) (ds := []) sc9 rfl kk kk he12 kk) ?_
     refine YF ?_
     obtain ⟨y13, hy13, h⟩ := zA h
     refine VS ?_
     refine YK 1 (s_spec_foInt hy13) cf_spec_foInt ?_
     refine YF ?_
     refine zK ?_
     refine VE ?_
     refine VC h (fun h => ?_) (fun h => ?_)
     ·refine VS ?_
      refine L1 rfl rfl (zAc (e := 3) 1 (by decide) (.inl rfl)) ?_
      refine YF ?_
      refine zF ?_
      obtain rfl := zB h
      have h := hko9
      obtain rfl := zB h
      exact VT
     ·refine zH ?_
      show V _ _ _ _
      obtain ⟨u15, hu15, h⟩ := zA h
      refine zY ?_
      refine YR 2 ?_
      refine L1 rfl rfl (qP (z := zv3) (els := [y13.1].map c3) Tryz.underlying24 iz3 rfl (by decide) rfl kk rfl (by simp [c3]) (by decide) (by decide)) ?_
      refine zL rfl (zAn (c := c3) (xs := l7) (ys := [y13.1]) (id := 64) (z := zv3) rfl rfl Tryz.underlying24 izb3 rfl kk kk kk (fun _ => rfl) (by simp) (zAK hu15) (by decide)) ?_
      refine YF ?_
      show V _ _ _ _
      obtain ⟨t16, ht16, h⟩ := zT h
      refine jC (mb 39 7340288) [64, 120] (s1 := ⟨bt 8 (.ow 64 :: bt 11 (.ow 120 :: I ((y4.length : Int)) :: I t16 :: bt 16 [])), [(64, .arr 3 1 ((l7 ++ ([y13.1])).map c3)), (120, .arr 9 1 (y4.map c9))]⟩) ?_ ?_
      ·refine XR 2 ?_
       refine zM ?_
       subst ht16
       kernel_rfl
      exact ⟨n, Nat.lt_succ_self n, _, _,  kk, h⟩
    ·refine jE ?_
     obtain rfl := zB h
     exact ⟨_, rfl, kk⟩
  rintro o9 rfl
  have h := hko9
  clear hko9
  show V _ _ _ _
  refine VE ?_
  cases h
  exact zF VT
theorem zMD : CfW Tryz.prog 144 := cfW Tryz.func144
theorem s_spec_foRead {vs1 : ByteArray} {r : (((Int × Int × Int)) × Bool)} (h : zCF vs1 = some r) : zV Tryz.prog 144 [.c (.v (.string vs1))] (.tc (.ag [Ti r.1.1, Ti r.1.2.1, Ti r.1.2.2]) (.tc (Bo r.2) .tn)) [] := by
 refine zZ (rs := [.w 2 3, .t 3]) (vs := [.cell 2 38, .tmp 3]) Tryz.func144 rfl rfl (.cons ⟨rfl, wd38⟩ (.cons rfl FitsL.nil)) (by decide) 32 rfl ?_
 unfold zCF at h
 refine VE ?_
 obtain ⟨y2, hy2, h⟩ := zA h
 refine VS ?_
 refine YK 1 (zKm hy2) zKW ?_
 refine YF ?_
 obtain ⟨y3, hy3, h⟩ := zA h
 refine VS ?_
 refine YK 1 (s_spec_foInts hy3) zME ?_
 refine YF ?_
 refine zK ?_
 refine zO (mb 32 1048644) [104, 16] (s1 := ⟨.bot :: .bot :: .pt 16 0 :: bt 3 (.ow 104 :: bt 13 (Bo (bif (!y2.2) then true else (!eqI ((y3.length : Int)) 3)) :: bt 11 [])), [(104, .arr 3 1 (y3.map c3)), (16, .box [Ti 0, Ti 0, Ti 0])]⟩) ?_ ?_
 ·refine YR 3 ?_
  refine zE (!y2.2) (fun hc4 => ?_) (fun hc4 => ?_)
  ·refine YQ hc4 ?_
   exact YE (by rw [hc4]; kernel_rfl)
  ·refine YQ hc4 ?_
   refine YR 1 ?_
   refine YT (qB rfl (qQ (c := c3) (xs := y3) Tryz.underlying24 rfl kk)) ?_
   exact YE (by rw [hc4]; kernel_rfl)
 refine VC h (fun h => ?_) (fun h => ?_)
 ·refine VS ?_
  refine L0 rfl rfl (zW (cs := [Ti 0, Ti 0, Ti 0]) pl38 bt38 rfl rfl kk) ?_
  refine YF ?_
  cases h
  exact zF VT
 ·refine zH ?_
  show V _ _ _ _
  obtain ⟨e6, he6, h⟩ := zA h
  obtain ⟨e7, he7, h⟩ := zA h
  obtain ⟨e8, he8, h⟩ := zA h
  obtain ⟨e9, he9, h⟩ := zA h
  obtain ⟨e10, he10, h⟩ := zA h
  obtain ⟨e11, he11, h⟩ := zA h
  refine VDS [0, 1, 3, 0, 8, 24, 0, 64, 192, 511, 1023, 2047] 10 (cdm 10 [174720, 174721, 174725, 172074, 172138, 172394, 2730, 6826, 23210, 87381]) ?_
  refine ER 1 ?_
  refine E0 1 rfl rfl (zAV (c := c3) (xs := y3) (v := e6) (id := 104) (T := 3) (sz := 1) (n := 0) Tryz.underlying24 sz3 rfl kk kk kk he6) ?_
  refine E0 2 rfl rfl (zAd (c := c3) (xs := y3) (v := e7) (id := 104) (sz := 1) (T := 3) (off := 0) (n := 0) (d := Ti e7) (ds := []) sc3 rfl kk kk he7 kk) ?_
  refine ER 1 ?_
  refine E0 4 rfl rfl (zAV (c := c3) (xs := y3) (v := e8) (id := 104) (T := 3) (sz := 1) (n := 1) Tryz.underlying24 sz3 rfl kk kk kk he8) ?_
  refine E0 5 rfl rfl (zAd (c := c3) (xs := y3) (v := e9) (id := 104) (sz := 1) (T := 3) (off := 0) (n := 1) (d := Ti e9) (ds := []) sc3 rfl kk kk he9 kk) ?_
  refine ER 1 ?_
  refine E0 7 rfl rfl (zAV (c := c3) (xs := y3) (v := e10) (id := 104) (T := 3) (sz := 1) (n := 2) Tryz.underlying24 sz3 rfl kk kk kk he10) ?_
  refine E0 8 rfl rfl (zAd (c := c3) (xs := y3) (v := e11) (id := 104) (sz := 1) (T := 3) (off := 0) (n := 2) (d := Ti e11) (ds := []) sc3 rfl kk kk he11 kk) ?_
  refine E0 9 rfl rfl (zW (cs := [Ti e7, Ti e9, Ti e11]) pl38 bt38 rfl rfl kk) ?_
  refine EF 0 ?_
  cases h
  exact zF VT
theorem zMA : CfW Tryz.prog 88 := cfW Tryz.func88
theorem s_spec_lgRead {vs1 : ByteArray} {r : (((Int × ByteArray × ByteArray × ByteArray × ((Int × Int × Int)))) × Bool)} (h : zBH vs1 = some r) : zV Tryz.prog 88 [.c (.v (.string vs1))] (.tc (.ag [Ti r.1.1, .v (.string r.1.2.1), .v (.string r.1.2.2.1), .v (.string r.1.2.2.2.1), Ti r.1.2.2.2.2.1, Ti r.1.2.2.2.2.2.1, Ti r.1.2.2.2.2.2.2]) (.tc (Bo r.2) .tn)) [] := by
 refine zZ (rs := [.w 2 7, .t 3]) (vs := [.cell 2 40, .tmp 3]) Tryz.func88 rfl rfl (.cons ⟨rfl, wd40⟩ (.cons rfl FitsL.nil)) (by decide) 84 rfl ?_
 unfold zBH at h
 refine VE ?_
 obtain ⟨y2, hy2, h⟩ := zA h
 refine VS ?_
 refine YK 1 (zHY hy2) zHD ?_
 refine YF ?_
 refine zK ?_
 obtain ⟨y3, hy3, h⟩ := zA h
 refine VS ?_
 refine YR 1 ?_
 refine L0 rfl rfl (qQ (c := c9) (xs := y2) Tryz.underlying66 rfl kk) ?_
 refine YK 0 (zET hy3) zDp ?_
 refine YF ?_
 refine VC h (fun h => ?_) (fun h => ?_)
 ·refine VS ?_
  refine L0 rfl rfl (zW (cs := [Ti 0, .v (.string ByteArray.empty), .v (.string ByteArray.empty), .v (.string ByteArray.empty), Ti 0, Ti 0, Ti 0]) pl40 bt40 rfl rfl kk) ?_
  refine YF ?_
  cases h
  exact zF VT
 ·refine zH ?_
  show V _ _ _ _
  obtain ⟨e5, he5, h⟩ := zA h
  obtain ⟨e6, he6, h⟩ := zA h
  refine VS ?_
  refine YR 1 ?_
  refine L0 rfl rfl (zAV (c := c9) (xs := y2) (v := e5) (id := 88) (T := 9) (sz := 1) (n := 1) Tryz.underlying66 sz9 rfl kk kk kk he5) ?_
  refine L0 rfl rfl (zAd (c := c9) (xs := y2) (v := e6) (id := 88) (sz := 1) (T := 9) (off := 0) (n := 1) (d := .v (.string e6)) (ds := []) sc9 rfl kk kk he6 kk) ?_
  refine L0 rfl rfl (zW (cs := [Ti 0, .v (.string e6), .v (.string ByteArray.empty), .v (.string ByteArray.empty), Ti 0, Ti 0, Ti 0]) pl40 bt40 rfl rfl kk) ?_
  refine YF ?_
  refine zK ?_
  obtain ⟨y7, hy7, h⟩ := zA h
  refine VS ?_
  refine YK 0 (zHX hy7) zHC ?_
  refine L0 rfl rfl (qQ (c := c9) (xs := y7) Tryz.underlying66 rfl kk) ?_
  refine YF ?_
  obtain ⟨o11, hLo11, h⟩ := zA h
  refine zCS (mb 84 53) [40, 88, 16] (s1 := ⟨.c (.v (.string vs1)) :: .bot :: .pt 16 0 :: .bot :: .ow 88 :: .pt 40 0 :: bt 78 [], [(40, .box [Ti o11, .v (.string e6), .v (.string ByteArray.empty), .v (.string ByteArray.empty), Ti 0, Ti 0, Ti 0]), (88, .arr 9 1 (y2.map c9)), (16, .box [Ti 0, .v (.string ByteArray.empty), .v (.string ByteArray.empty), .v (.string ByteArray.empty), Ti 0, Ti 0, Ti 0])]⟩) ?_ ?_
  ·clear h
   refine zN (jM (fun n s => ∃ (t8 : Int) (f9 : Int), s.keep (mb 84 14680117) [168, 40, 88, 16] = (⟨.c (.v (.string vs1)) :: .bot :: .pt 16 0 :: .bot :: .ow 88 :: .pt 40 0 :: bt 15 (.ow 168 :: I ((y7.length : Int)) :: I t8 :: bt 60 []), [(168, .arr 9 1 (y7.map c9)), (40, .box [Ti f9, .v (.string e6), .v (.string ByteArray.empty), .v (.string ByteArray.empty), Ti 0, Ti 0, Ti 0]), (88, .arr 9 1 (y2.map c9)), (16, .box [Ti 0, .v (.string ByteArray.empty), .v (.string ByteArray.empty), .v (.string ByteArray.empty), Ti 0, Ti 0, Ti 0])]⟩ : St) ∧ jP e6 vs1 y2 y7 n t8 f9 = some o11) FU ⟨_, _,  kk, hLo11⟩ ?_)
   clear hLo11
   rintro n s ⟨t8, f9, hs, h⟩
   refine jF _ _ hs ?_
   clear hs
   cases n with
   | zero => cases h
   | succ n =>
    rw [jP] at h
    refine VE ?_
    refine zK ?_
    refine VC h (fun h => ?_) (fun h => ?_)
    ·refine zH ?_
     show V _ _ _ _
     refine zK ?_
     refine zN ?_
     obtain ⟨e13, he13, h⟩ := zA h
     obtain ⟨e14, he14, h⟩ := zA h
     refine VS ?_
     refine YR 1 ?_
     refine L0 rfl rfl (zAV (c := c9) (xs := y7) (v := e13) (id := 168) (T := 9) (sz := 1) (n := t8) Tryz.underlying66 sz9 rfl kk kk kk he13) ?_
     refine L0 rfl rfl (zAd (c := c9) (xs := y7) (v := e14) (id := 168) (sz := 1) (T := 9) (off := 0) (n := t8) (d := .v (.string e14)) (ds := []) sc9 rfl kk kk he14 kk) ?_
     refine YF ?_
     obtain ⟨b18, hb18, h⟩ := zA h
     refine zO (mb 84 68734156917) [168, 40, 88, 16] (s1 := ⟨.c (.v (.string vs1)) :: .bot :: .pt 16 0 :: .bot :: .ow 88 :: .pt 40 0 :: I t8 :: bt 14 (.ow 168 :: I ((y7.length : Int)) :: I t8 :: bt 12 (Bo b18 :: bt 47 [])), [(168, .arr 9 1 (y7.map c9)), (40, .box [Ti f9, .v (.string e6), .v (.string ByteArray.empty), .v (.string ByteArray.empty), Ti 0, Ti 0, Ti 0]), (88, .arr 9 1 (y2.map c9)), (16, .box [Ti 0, .v (.string ByteArray.empty), .v (.string ByteArray.empty), .v (.string ByteArray.empty), Ti 0, Ti 0, Ti 0])]⟩) ?_ ?_
     ·refine YR 3 ?_
      refine zE (ltI 0 t8) (fun hc15 => ?_) (fun hc15 => ?_)
      ·have hb18 := qH hb18 hc15
       obtain ⟨e16, he16, hb18⟩ := zA hb18
       obtain ⟨e17, he17, hb18⟩ := zA hb18
       have hb18 := zB hb18
       refine YQ hc15 ?_
       refine YR 2 ?_
       refine YT (qB rfl (zAV (c := c9) (xs := y2) (v := e16) (id := 88) (T := 9) (sz := 1) (n := 0) Tryz.underlying66 sz9 rfl kk kk kk he16)) ?_
       refine YT (qB rfl (zAd (c := c9) (xs := y2) (v := e17) (id := 88) (sz := 1) (T := 9) (off := 0) (n := 0) (d := .v (.string e17)) (ds := []) sc9 rfl kk kk he17 kk)) ?_
       exact YE (by rw [← hb18]; (try rw [hc15]); kernel_rfl)
      ·have hb18 := zB (z7 hb18 hc15)
       refine YQ hc15 ?_
       exact YE (by rw [← hb18]; (try rw [hc15]); kernel_rfl)
     refine VC h (fun h => ?_) (fun h => ?_)
     ·refine zY ?_
      refine YF ?_
      show V _ _ _ _
      obtain ⟨t20, ht20, h⟩ := zT h
      refine jC (mb 84 14680117) [168, 40, 88, 16] (s1 := ⟨.c (.v (.string vs1)) :: .bot :: .pt 16 0 :: .bot :: .ow 88 :: .pt 40 0 :: bt 15 (.ow 168 :: I ((y7.length : Int)) :: I t20 :: bt 60 []), [(168, .arr 9 1 (y7.map c9)), (40, .box [Ti t8, .v (.string e6), .v (.string ByteArray.empty), .v (.string ByteArray.empty), Ti 0, Ti 0, Ti 0]), (88, .arr 9 1 (y2.map c9)), (16, .box [Ti 0, .v (.string ByteArray.empty), .v (.string ByteArray.empty), .v (.string ByteArray.empty), Ti 0, Ti 0, Ti 0])]⟩) ?_ ?_
      ·refine XR 2 ?_
       refine zM ?_
       subst ht20
       kernel_rfl
      exact ⟨n, Nat.lt_succ_self n, _, _,  kk, h⟩
     ·refine zH ?_
      show V _ _ _ _
      obtain ⟨t21, ht21, h⟩ := zT h
      refine jC (mb 84 14680117) [168, 40, 88, 16] (s1 := ⟨.c (.v (.string vs1)) :: .bot :: .pt 16 0 :: .bot :: .ow 88 :: .pt 40 0 :: bt 15 (.ow 168 :: I ((y7.length : Int)) :: I t21 :: bt 60 []), [(168, .arr 9 1 (y7.map c9)), (40, .box [Ti f9, .v (.string e6), .v (.string ByteArray.empty), .v (.string ByteArray.empty), Ti 0, Ti 0, Ti 0]), (88, .arr 9 1 (y2.map c9)), (16, .box [Ti 0, .v (.string ByteArray.empty), .v (.string ByteArray.empty), .v (.string ByteArray.empty), Ti 0, Ti 0, Ti 0])]⟩) ?_ ?_
      ·refine XR 2 ?_
       refine zM ?_
       subst ht21
       kernel_rfl
      exact ⟨n, Nat.lt_succ_self n, _, _,  kk, h⟩
    ·refine jE ?_
     obtain rfl := zB h
     show St.keep _ _ _ = _
     kernel_rfl
  show V _ _ _ _
  obtain ⟨qo22, hLo22, hko22⟩ := zA h
  clear h
  refine V_cutS (q := qo22) (S := fun o22 => ⟨.c (.v (.string vs1)) :: .bot :: .pt 16 0 :: .bot :: .bot :: .pt 40 0 :: bt 78 [], [(40, .box [Ti o11, .v (.string e6), .v (.string o22.1), .v (.string o22.2.1), Ti o22.2.2.1, Ti o22.2.2.2.1, Ti o22.2.2.2.2]), (16, .box [Ti 0, .v (.string ByteArray.empty), .v (.string ByteArray.empty), .v (.string ByteArray.empty), Ti 0, Ti 0, Ti 0])]⟩) (mb 84 37) [40, 16] ?_ ?_
  ·have h := hLo22
   clear hLo22
   obtain ⟨y23, hy23, h⟩ := zA h
   refine VS ?_
   refine YK 2 (zEp hy23) zEd ?_
   refine YF ?_
   refine VC h (fun h => ?_) (fun h => ?_)
   ·refine zK ?_
    refine VS ?_
    refine YR 1 ?_
    refine L0 rfl rfl (qQ (c := c9) (xs := y2) Tryz.underlying66 rfl kk) ?_
    refine YF ?_
    refine VC h (fun h => ?_) (fun h => ?_)
    ·refine VS ?_
     refine L0 rfl rfl (zW (cs := [Ti 0, .v (.string ByteArray.empty), .v (.string ByteArray.empty), .v (.string ByteArray.empty), Ti 0, Ti 0, Ti 0]) pl40 bt40 rfl rfl kk) ?_
     refine YF ?_
     refine zF ?_
     obtain rfl := zB h
     have h := hko22
     obtain rfl := zB h
     exact VT
    ·refine zH ?_
     show V _ _ _ _
     obtain ⟨e26, he26, h⟩ := zA h
     obtain ⟨e27, he27, h⟩ := zA h
     obtain ⟨y28, hy28, h⟩ := zA h
     refine VS ?_
     refine YR 1 ?_
     refine L0 rfl rfl (zAV (c := c9) (xs := y2) (v := e26) (id := 88) (T := 9) (sz := 1) (n := 2) Tryz.underlying66 sz9 rfl kk kk kk he26) ?_
     refine L0 rfl rfl (zAd (c := c9) (xs := y2) (v := e27) (id := 88) (sz := 1) (T := 9) (off := 0) (n := 2) (d := .v (.string e27)) (ds := []) sc9 rfl kk kk he27 kk) ?_
     refine YK 0 (s_spec_foRead hy28) zMD ?_
     refine YF ?_
     refine zK ?_
     refine VE ?_
     refine VC h (fun h => ?_) (fun h => ?_)
     ·refine VS ?_
      refine L0 rfl rfl (zW (cs := [Ti 0, .v (.string ByteArray.empty), .v (.string ByteArray.empty), .v (.string ByteArray.empty), Ti 0, Ti 0, Ti 0]) pl40 bt40 rfl rfl kk) ?_
      refine YF ?_
      refine zF ?_
      obtain rfl := zB h
      have h := hko22
      obtain rfl := zB h
      exact VT
     ·refine zH ?_
      show V _ _ _ _
      refine zY ?_
      refine YF ?_
      obtain rfl := zB h
      exact ⟨_, rfl, kk⟩
   ·obtain ⟨j30, hj30, h⟩ := zA h
    refine zCw (mb 84 53) [40, 88, 16] (s1 := ⟨.c (.v (.string vs1)) :: .bot :: .pt 16 0 :: .bot :: .ow 88 :: .pt 40 0 :: bt 78 [], [(40, .box [Ti o11, .v (.string e6), .v (.string j30), .v (.string ByteArray.empty), Ti 0, Ti 0, Ti 0]), (88, .arr 9 1 (y2.map c9)), (16, .box [Ti 0, .v (.string ByteArray.empty), .v (.string ByteArray.empty), .v (.string ByteArray.empty), Ti 0, Ti 0, Ti 0])]⟩) ?_ ?_
    ·clear h
     have h := hj30
     clear hj30
     refine VS ?_
     refine YR 1 ?_
     refine L0 rfl rfl (qQ (c := c9) (xs := y2) Tryz.underlying66 rfl kk) ?_
     refine YF ?_
     refine VC h (fun h => ?_) (fun h => ?_)
     ·obtain ⟨e32, he32, h⟩ := zA h
      obtain ⟨e33, he33, h⟩ := zA h
      refine zY ?_
      refine YR 1 ?_
      refine L0 rfl rfl (zAV (c := c9) (xs := y2) (v := e32) (id := 88) (T := 9) (sz := 1) (n := 2) Tryz.underlying66 sz9 rfl kk kk kk he32) ?_
      refine L0 rfl rfl (zAd (c := c9) (xs := y2) (v := e33) (id := 88) (sz := 1) (T := 9) (off := 0) (n := 2) (d := .v (.string e33)) (ds := []) sc9 rfl kk kk he33 kk) ?_
      refine YF ?_
      obtain rfl := zB h
      show St.keep _ _ _ = _
      kernel_rfl
     ·refine zH ?_
      obtain rfl := zB h
      show St.keep _ _ _ = _
      kernel_rfl
    refine VS ?_
    refine YR 1 ?_
    refine L0 rfl rfl (qQ (c := c9) (xs := y2) Tryz.underlying66 rfl kk) ?_
    refine YF ?_
    refine VC h (fun h => ?_) (fun h => ?_)
    ·obtain ⟨e35, he35, h⟩ := zA h
     obtain ⟨e36, he36, h⟩ := zA h
     refine zY ?_
     refine YR 1 ?_
     refine L0 rfl rfl (zAV (c := c9) (xs := y2) (v := e35) (id := 88) (T := 9) (sz := 1) (n := 3) Tryz.underlying66 sz9 rfl kk kk kk he35) ?_
     refine L0 rfl rfl (zAd (c := c9) (xs := y2) (v := e36) (id := 88) (sz := 1) (T := 9) (off := 0) (n := 3) (d := .v (.string e36)) (ds := []) sc9 rfl kk kk he36 kk) ?_
     refine YF ?_
     obtain rfl := zB h
     exact ⟨_, rfl, kk⟩
    ·refine zH ?_
     obtain rfl := zB h
     exact ⟨_, rfl, kk⟩
  rintro o22 rfl
  have h := hko22
  clear hko22
  refine zK ?_
  obtain ⟨y37, hy37, h⟩ := zA h
  obtain ⟨b40, hb40, h⟩ := zA h
  refine zO (mb 84 2417851639229258349412388) [40, 16] (s1 := ⟨.bot :: .bot :: .pt 16 0 :: .bot :: .bot :: .pt 40 0 :: bt 75 (Bo b40 :: .bot :: .bot :: []), [(40, .box [Ti o11, .v (.string e6), .v (.string o22.1), .v (.string o22.2.1), Ti o22.2.2.1, Ti o22.2.2.2.1, Ti o22.2.2.2.2]), (16, .box [Ti 0, .v (.string ByteArray.empty), .v (.string ByteArray.empty), .v (.string ByteArray.empty), Ti 0, Ti 0, Ti 0])]⟩) ?_ ?_
  ·refine YK 1 (zDi hy37) zD2 ?_
   refine YR 2 ?_
   refine zE (!y37) (fun hc38 => ?_) (fun hc38 => ?_)
   ·have hb40 := zB (qH hb40 hc38)
    refine YQ hc38 ?_
    exact YE (by rw [← hb40]; (try rw [hc38]); kernel_rfl)
   ·have hb40 := z7 hb40 hc38
    obtain ⟨y39, hy39, hb40⟩ := zA hb40
    have hb40 := zB hb40
    refine YQ hc38 ?_
    refine YK 1 (zFx hy39) zFg ?_
    exact YE (by rw [← hb40]; (try rw [hc38]); kernel_rfl)
  refine VC h (fun h => ?_) (fun h => ?_)
  ·refine VS ?_
   refine L0 rfl rfl (zW (cs := [Ti 0, .v (.string ByteArray.empty), .v (.string ByteArray.empty), .v (.string ByteArray.empty), Ti 0, Ti 0, Ti 0]) pl40 bt40 rfl rfl kk) ?_
   refine YF ?_
   cases h
   exact zF VT
  ·refine zH ?_
   show V _ _ _ _
   refine VE ?_
   cases h
   exact zF VT
end Go.Proofs.YtfmjfofocklgpaaGreatDoor
