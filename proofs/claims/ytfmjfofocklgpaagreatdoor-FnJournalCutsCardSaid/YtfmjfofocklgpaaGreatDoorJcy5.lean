/-
  Rules of walks, plain functions and their laws, part 5.
  Conditions: none.
-/
import Derived.Test.YtfmjfofocklgpaaGreatDoorRows
import Derived.Test.YtfmjfofocklgpaaGreatDoorJcy4
namespace Go.Proofs.YtfmjfofocklgpaaGreatDoor
open Go.RowKit
set_option linter.unusedVariables false
set_option linter.unusedSimpArgs false
set_option maxRecDepth 100000
set_option maxHeartbeats 400000
def c5 (x : Int) : List Tr := [.v (.int .u8 x)]
def c3 (x : Int) : List Tr := [Ti x]
def c9 (x : ByteArray) : List Tr := [.v (.string x)]
def c38 (x : (Int × Int × Int)) : List Tr := [Ti x.1, Ti x.2.1, Ti x.2.2]
def c73 (x : (ByteArray × ((Int × Int × Int)))) : List Tr := [.v (.string x.1), Ti x.2.1, Ti x.2.2.1, Ti x.2.2.2]
def c40 (x : (Int × ByteArray × ByteArray × ByteArray × ((Int × Int × Int)))) : List Tr := [Ti x.1, .v (.string x.2.1), .v (.string x.2.2.1), .v (.string x.2.2.2.1), Ti x.2.2.2.2.1, Ti x.2.2.2.2.2.1, Ti x.2.2.2.2.2.2]
def zv3 : Value := .int .i64 0
def zv5 : Value := .int .u8 0
def zv9 : Value := .string ByteArray.empty
def zv38 : Value := .agg #[.int .i64 0, .int .i64 0, .int .i64 0]
theorem zf38 : (Tryz.prog.info? 38).bind (·.zero) = some zv38 := by kernel_rfl
def zv40 : Value := .agg #[.int .i64 0, .string ByteArray.empty, .string ByteArray.empty, .string ByteArray.empty, .int .i64 0, .int .i64 0, .int .i64 0]
def zv73 : Value := .agg #[.string ByteArray.empty, .int .i64 0, .int .i64 0, .int .i64 0]
theorem iz3 : (Tryz.prog.info? 3).map (fun i => (i.zero, i.size)) = some (some zv3, 1) := by kernel_rfl
theorem iz5 : (Tryz.prog.info? 5).map (fun i => (i.zero, i.size)) = some (some zv5, 1) := by kernel_rfl
theorem iz9 : (Tryz.prog.info? 9).map (fun i => (i.zero, i.size)) = some (some zv9, 1) := by kernel_rfl
theorem iz38 : (Tryz.prog.info? 38).map (fun i => (i.zero, i.size)) = some (some zv38, 3) := by kernel_rfl
theorem iz40 : (Tryz.prog.info? 40).map (fun i => (i.zero, i.size)) = some (some zv40, 7) := by kernel_rfl
theorem iz73 : (Tryz.prog.info? 73).map (fun i => (i.zero, i.size)) = some (some zv73, 4) := by kernel_rfl
theorem izb3 : (Tryz.prog.info? 3).map (fun i => (i.zero, i.size, i.bytes)) = some (some zv3, 1, 8) := by kernel_rfl
theorem izb9 : (Tryz.prog.info? 9).map (fun i => (i.zero, i.size, i.bytes)) = some (some zv9, 1, 16) := by kernel_rfl
theorem izb38 : (Tryz.prog.info? 38).map (fun i => (i.zero, i.size, i.bytes)) = some (some zv38, 3, 24) := by kernel_rfl
theorem izb40 : (Tryz.prog.info? 40).map (fun i => (i.zero, i.size, i.bytes)) = some (some zv40, 7, 80) := by kernel_rfl
theorem izb73 : (Tryz.prog.info? 73).map (fun i => (i.zero, i.size, i.bytes)) = some (some zv73, 4, 40) := by kernel_rfl
theorem sc3 : scalar Tryz.prog 3 := ⟨_, Tryz.underlying3, rfl⟩
theorem sc9 : scalar Tryz.prog 9 := ⟨_, Tryz.underlying9, rfl⟩
theorem sz3 : (Tryz.prog.info? 3).map (·.size) = some 1 := by kernel_rfl
theorem sz5 : (Tryz.prog.info? 5).map (·.size) = some 1 := by kernel_rfl
theorem sz9 : (Tryz.prog.info? 9).map (·.size) = some 1 := by kernel_rfl
theorem sz38 : (Tryz.prog.info? 38).map (·.size) = some 3 := by kernel_rfl
theorem sz40 : (Tryz.prog.info? 40).map (·.size) = some 7 := by kernel_rfl
theorem sz73 : (Tryz.prog.info? 73).map (·.size) = some 4 := by kernel_rfl
theorem wd38 : wide Tryz.prog 38 3 := ⟨⟨_, Tryz.underlying38, rfl⟩, by kernel_rfl⟩
theorem wd40 : wide Tryz.prog 40 7 := ⟨⟨_, Tryz.underlying40, rfl⟩, by kernel_rfl⟩
theorem wd73 : wide Tryz.prog 73 4 := ⟨⟨_, Tryz.underlying73, rfl⟩, by kernel_rfl⟩
theorem wd109 : wide Tryz.prog 109 4 := ⟨⟨_, Tryz.underlying109, rfl⟩, by kernel_rfl⟩
theorem wd178 : wide Tryz.prog 178 12 := ⟨⟨_, Tryz.underlying178, rfl⟩, by kernel_rfl⟩
def pl38 : Nat → Option (Nat × Nat) := fun i => (#[(0, 1), (1, 1), (2, 1)] : Array (Nat × Nat))[i]?
theorem bt38 : ∀ ps, Tryz.prog.built 38 ps = Instr.fill pl38 #[.int .i64 0, .int .i64 0, .int .i64 0] ps := fun ps => by kernel_rfl
def pl40 : Nat → Option (Nat × Nat) := fun i => (#[(0, 1), (1, 1), (2, 1), (3, 1), (4, 3)] : Array (Nat × Nat))[i]?
theorem bt40 : ∀ ps, Tryz.prog.built 40 ps = Instr.fill pl40 #[.int .i64 0, .string ByteArray.empty, .string ByteArray.empty, .string ByteArray.empty, .int .i64 0, .int .i64 0, .int .i64 0] ps := fun ps => by kernel_rfl
def pl73 : Nat → Option (Nat × Nat) := fun i => (#[(0, 1), (1, 3)] : Array (Nat × Nat))[i]?
theorem bt73 : ∀ ps, Tryz.prog.built 73 ps = Instr.fill pl73 #[.string ByteArray.empty, .int .i64 0, .int .i64 0, .int .i64 0] ps := fun ps => by kernel_rfl
def pl84 : Nat → Option (Nat × Nat) := fun i => (#[(0, 1), (1, 1), (2, 1)] : Array (Nat × Nat))[i]?
theorem bt84 : ∀ ps, Tryz.prog.built 84 ps = Instr.fill pl84 #[.slice none 0 0, .int .i64 0, .int .u64 0] ps := fun ps => by kernel_rfl
def zEK : Nat → Option (Nat × Nat) := fun i => (#[(0, 1), (1, 1), (2, 1), (3, 1)] : Array (Nat × Nat))[i]?
theorem bt109 : ∀ ps, Tryz.prog.built 109 ps = Instr.fill zEK #[.int .i64 0, .int .i64 0, .int .i64 0, .int .i64 0] ps := fun ps => by kernel_rfl
def pl178 : Nat → Option (Nat × Nat) := fun i => (#[(0, 1), (1, 1), (2, 1), (3, 1), (4, 4), (8, 4)] : Array (Nat × Nat))[i]?
theorem bt178 : ∀ ps, Tryz.prog.built 178 ps = Instr.fill pl178 #[.int .i64 0, .int .i64 0, .int .i64 0, .int .i64 0, .int .i64 0, .int .i64 0, .int .i64 0, .int .i64 0, .int .i64 0, .int .i64 0, .int .i64 0, .int .i64 0] ps := fun ps => by kernel_rfl
theorem eqg38 : EqAg3 Tryz.prog .eql 38 := by
 intro a0 a1 a2 b0 b1 b2 x y w
 have hg : (eqGuard .eql 38 x y (.agg #[.int .i64 a0, .int .i64 a1, .int .i64 a2]) (.agg #[.int .i64 b0, .int .i64 b1, .int .i64 b2])).run Tryz.prog w = .ok () w := by simp [eqGuard, (by kernel_rfl : Tryz.prog.eqGuardType Tryz.prog.depth 38 = false)]
 have hf : (Tryz.prog.fieldsOf 38).toList = (match Tryz.prog.underlying 38 with | some (.struct fs) => fs.toList | _ => []) := by kernel_rfl
 refine ⟨hg, ?_⟩
 rw [run_eql_struct, run_equalIn_agg (d := 9999) (ht := by kernel_rfl) (hp := by kernel_rfl), hf, Tryz.underlying38]
 by_cases h0 : a0 = b0 <;> by_cases h1 : a1 = b1 <;> by_cases h2 : a2 = b2 <;> simp [Op.eqFields, part, go_sem, h0, h1, h2]
theorem neg38 : EqAg3 Tryz.prog .neq 38 := by
 intro a0 a1 a2 b0 b1 b2 x y w
 have hg : (eqGuard .neq 38 x y (.agg #[.int .i64 a0, .int .i64 a1, .int .i64 a2]) (.agg #[.int .i64 b0, .int .i64 b1, .int .i64 b2])).run Tryz.prog w = .ok () w := by simp [eqGuard, (by kernel_rfl : Tryz.prog.eqGuardType Tryz.prog.depth 38 = false)]
 have hf : (Tryz.prog.fieldsOf 38).toList = (match Tryz.prog.underlying 38 with | some (.struct fs) => fs.toList | _ => []) := by kernel_rfl
 refine ⟨hg, ?_⟩
 rw [run_neq_struct, run_equalIn_agg (d := 9999) (ht := by kernel_rfl) (hp := by kernel_rfl), hf, Tryz.underlying38]
 by_cases h0 : a0 = b0 <;> by_cases h1 : a1 = b1 <;> by_cases h2 : a2 = b2 <;> simp [Op.eqFields, part, go_sem, h0, h1, h2]
theorem ngS73 : EqAgS Tryz.prog .neq 73 := by
 intro n m a1 a2 a3 b1 b2 b3 x y w
 have hg : (eqGuard .neq 73 x y (.agg #[.string n, .int .i64 a1, .int .i64 a2, .int .i64 a3]) (.agg #[.string m, .int .i64 b1, .int .i64 b2, .int .i64 b3])).run Tryz.prog w = .ok () w := by simp [eqGuard, (by kernel_rfl : Tryz.prog.eqGuardType Tryz.prog.depth 73 = false)]
 have hf : (Tryz.prog.fieldsOf 73).toList = (match Tryz.prog.underlying 73 with | some (.struct fs) => fs.toList | _ => []) := by kernel_rfl
 have hf2 : (Tryz.prog.fieldsOf 38).toList = (match Tryz.prog.underlying 38 with | some (.struct fs) => fs.toList | _ => []) := by kernel_rfl
 refine ⟨hg, ?_⟩
 rw [run_neq_struct, run_equalIn_agg (d := 9999) (ht := by kernel_rfl) (hp := by kernel_rfl), hf, Tryz.underlying73]
 by_cases hn : n.toList = m.toList <;> by_cases h1 : a1 = b1 <;> by_cases h2 : a2 = b2 <;> by_cases h3 : a3 = b3 <;> simp [Op.eqFields, part, go_sem, hn, h1, h2, h3]
theorem cx_242 : ∀ args w, (callFunc 242 args).run Tryz.prog w = ((Extern.BytealgIndexByte.indexByte args).run Tryz.prog w).andThen fun v w' => .ok (.value v) w' := fun args w => run_callFunc_extern Tryz.func242 kk kk kk kk args w
def ek176 (x : ByteArray) : Value := .string x
def ev176 (x : Int) : Value := .int .i64 x
def kv176 (p : ByteArray × Int) : Value × Value := (ek176 p.1, ev176 p.2)
theorem kt176 : KeyT Tryz.prog 9 ek176 := by
 refine keyT_now (.string) Tryz.underlying9 (fun b a w => ?_) (fun a b => ?_) (fun a => ?_)
 ·exact MapKept.run_checkKey Tryz.underlying9 (by simp [MapKept.IsKey, ek176]) b 9999
 ·simp [ek176, Instr.sameNow, ba_beq]
 ·simp [ek176, Instr.sameBits, ba_beq]
theorem mo176 : MpOk Tryz.prog 176 ek176 ev176 0 := ⟨9, 3, Tryz.underlying176, kt176, by kernel_rfl, fun _ => rfl⟩
theorem cf_laws_big : CfW Tryz.prog 29 := cfW Tryz.func29
theorem s_laws_big {code1 : List Int} {more2 : List Int} {r : Bool} (h : zCr code1 more2 = some r) : zT Tryz.prog 29 [.c (.sl (code1.map c5)), .c (.sl (more2.map c5))] (Bo r) [] := by
 refine CtW [4] Tryz.func29 rfl rfl 16 ?_
 unfold zCr at h
 refine VE ?_
 obtain ⟨t4, ht4, h⟩ := zA h
 have ht4 := zB ht4
 refine zO (mb 16 16) [] (s1 := ⟨bt 4 (Bo t4 :: bt 11 []), []⟩) ?_ ?_
 ·refine YR 1 ?_
  refine L0 rfl rfl (qK (c := c5) (xs := code1) Tryz.underlying48 rfl kk) ?_
  refine YR 2 ?_
  refine zD (ltI 1048576 ((code1.length : Int))) (fun hc3 => ?_) (fun hc3 => ?_)
  ·refine YQ hc3 ?_
   exact YE (by rw [← ht4]; (try rw [hc3]); kernel_rfl)
  ·refine YQ hc3 ?_
   refine YR 1 ?_
   refine YT (qD rfl (qK (c := c5) (xs := more2) Tryz.underlying48 rfl kk)) ?_
   refine YR 1 ?_
   refine YT (qD rfl (qK (c := c5) (xs := code1) Tryz.underlying48 rfl kk)) ?_
   exact YE (by rw [← ht4]; (try rw [hc3]); kernel_rfl)
 cases h
 exact zE VT
theorem cf_spec_l1Cur_next : CfW Tryz.prog 147 := cfW Tryz.func147
theorem s_spec_l1Cur_next {c1 : ((List Int) × Int × Int)} {r : (Int × (((List Int) × Int × Int)))} (h : zB7 c1 = some r) : zDz Tryz.prog 147 [.pt 80000 0] [(80000, .box [.sl (c1.1.map c5), Ti c1.2.1, .v (.int .u64 c1.2.2)])] (I r.1) [] [(80000, .box [.sl (r.2.1.map c5), Ti r.2.2.1, .v (.int .u64 r.2.2.2)])] := by
 refine qZ (rs := [.t 2]) (vs := [.tmp 2]) Tryz.func147 rfl rfl (.cons rfl FitsL.nil) (by decide) 62 rfl rfl fun σ => ?_
 unfold zB7 at h
 show V _ _ ⟨.pt 80000 0 :: bt 61 [], [(80000, .pbox (σ 80000) [.sl (c1.1.map c5), Ti c1.2.1, .v (.int .u64 c1.2.2)])]⟩ _
 refine VE ?_
 refine VE ?_
 obtain ⟨j2, hj2, h⟩ := zA h
 refine zCw (mb 62 9) [80000] (s1 := ⟨.pt 80000 0 :: .bot :: .bot :: I j2 :: bt 58 [], [(80000, .pbox (σ 80000) [.sl (c1.1.map c5), Ti c1.2.1, .v (.int .u64 c1.2.2)])]⟩) ?_ ?_
 ·clear h
  have h := hj2
  clear hj2
  refine VDS [0, 1, 3, 7, 0, 16, 48, 112, 240, 511] 10 (cdm 10 [174592, 174593, 174597, 174613, 170, 426, 1450, 5546, 21930, 87381]) ?_
  refine ER 1 ?_
  refine E0 1 rfl rfl (E_nil (.pt 80000 0) rfl kk (by intro hh; cases hh)) ?_
  refine ER 3 ?_
  refine E0 5 rfl rfl (E_nil (.pt 80000 0) rfl kk (by intro hh; cases hh)) ?_
  refine ER 2 ?_
  refine E0 8 rfl rfl (qK (c := c5) (xs := c1.1) Tryz.underlying48 rfl kk) ?_
  refine EF 1 ?_
  refine VC h (fun h => ?_) (fun h => ?_)
  ·obtain ⟨e4, he4, h⟩ := zA h
   obtain ⟨b5, hb5, h⟩ := zS h
   refine V_dreg [0, 1, 3, 7, 0, 16, 48, 112, 255, 511, 1023, 2047] 12 (cdm 12 [43520, 43521, 43525, 43541, 170, 426, 1450, 5546, 21845, 87381, 349525, 1398101]) (mb 62 9) [80000] (s1 := ⟨.pt 80000 0 :: .bot :: .bot :: I b5 :: bt 58 [], [(80000, .pbox (σ 80000) [.sl (c1.1.map c5), Ti c1.2.1, .v (.int .u64 c1.2.2)])]⟩) kk kk ?_ ?_
   ·refine DR 1 ?_
    refine DE_0 1 (.pt 80000 0) kk rfl rfl rfl (qO rfl) kk (E_nil (.pt 80000 0) rfl kk (by intro hh; cases hh)) 15 rfl ?_
    refine DR 3 ?_
    refine DE_0 5 (.pt 80000 0) kk rfl rfl rfl (qO rfl) kk (E_nil (.pt 80000 0) rfl kk (by intro hh; cases hh)) 19 rfl ?_
    refine DR 2 ?_
    refine DE_0 8 (.pe [.v (.int .u8 e4)]) kk rfl rfl rfl (qO rfl) kk (zAn (c := c5) (xs := c1.1) (v := e4) (n := c1.2.1) Tryz.underlying48 sz5 rfl kk kk he4) 22 rfl ?_
    refine DR 1 ?_
    refine DE_0 10 (I (IntKind.i64.wrap e4)) kk rfl rfl rfl (qO rfl) kk (Y0_conv (k2 := .u8) (a := e4) Tryz.underlying5 Tryz.underlying3 rfl kk) 24 rfl ?_
    refine DA 1 ?_
    refine zK ?_
    subst hb5
    kernel_rfl
   obtain rfl := zB h
   show St.keep _ _ _ = _
   kernel_rfl
  ·refine zG ?_
   obtain rfl := zB h
   show St.keep _ _ _ = _
   kernel_rfl
 obtain ⟨f6, hf6, h⟩ := zS h
 refine zO (mb 62 9) [80000] (s1 := ⟨.pt 80000 0 :: .bot :: .bot :: I j2 :: bt 58 [], [(80000, .pbox (σ 80000) [.sl (c1.1.map c5), Ti f6, .v (.int .u64 c1.2.2)])]⟩) ?_ ?_
 ·refine XR 1 ?_
  refine L0 rfl rfl (E_nil (.pt 80000 0) rfl kk (by intro hh; cases hh)) ?_
  refine XR 3 ?_
  refine L0 rfl rfl (E_nil (.pt 80000 0) rfl kk (by intro hh; cases hh)) ?_
  refine XR 2 ?_
  refine zK ?_
  subst hf6
  kernel_rfl
 obtain ⟨f7, hf7, h⟩ := zS h
 refine zO (mb 62 9) [80000] (s1 := ⟨.pt 80000 0 :: .bot :: .bot :: I j2 :: bt 58 [], [(80000, .pbox (σ 80000) [.sl (c1.1.map c5), Ti f6, .v (.int .u64 f7)])]⟩) ?_ ?_
 ·refine XR 2 ?_
  refine L0 rfl rfl (E_nil (.pt 80000 0) rfl kk (by intro hh; cases hh)) ?_
  refine XR 2 ?_
  refine L0 rfl rfl (Y0_mul (k := .u64) (a := c1.2.2) (b := 6364136223846793005) rfl kk kk) ?_
  refine XR 1 ?_
  refine L0 rfl rfl (Y0_conv (k2 := .i64) (a := j2) Tryz.underlying3 Tryz.underlying82 rfl kk) ?_
  refine L0 rfl rfl (Y0_add (k := .u64) (a := IntKind.u64.wrap (c1.2.2 * 6364136223846793005)) (b := IntKind.u64.wrap j2) rfl kk kk) ?_
  refine L0 rfl rfl (Y0_add (k := .u64) (a := IntKind.u64.wrap ((IntKind.u64.wrap (c1.2.2 * 6364136223846793005)) + (IntKind.u64.wrap j2))) (b := 1442695040888963407) rfl kk kk) ?_
  refine L0 rfl rfl (E_nil (.pt 80000 0) rfl kk (by intro hh; cases hh)) ?_
  refine XR 2 ?_
  refine zK ?_
  subst hf7
  kernel_rfl
 refine zJ ?_
 refine VDS [0, 1, 3, 7, 0, 16, 48, 112, 240, 511] 10 (cdm 10 [174592, 174593, 174597, 174613, 170, 426, 1450, 5546, 21930, 87381]) ?_
 refine ER 1 ?_
 refine E0 1 rfl rfl (E_nil (.pt 80000 0) rfl kk (by intro hh; cases hh)) ?_
 refine ER 3 ?_
 refine E0 5 rfl rfl (E_nil (.pt 80000 0) rfl kk (by intro hh; cases hh)) ?_
 refine ER 2 ?_
 refine E0 8 rfl rfl (qK (c := c5) (xs := c1.1) Tryz.underlying48 rfl kk) ?_
 refine EF 1 ?_
 refine VC h (fun h => ?_) (fun h => ?_)
 ·refine VE ?_
  cases h
  exact zE VTR
 ·refine zG ?_
  show V _ _ _ _
  obtain ⟨t9, ht9, h⟩ := zS h
  refine zO (mb 62 4) [80000] (s1 := ⟨.bot :: .bot :: I t9 :: bt 59 [], [(80000, .pbox (σ 80000) [.sl (c1.1.map c5), Ti f6, .v (.int .u64 f7)])]⟩) ?_ ?_
  ·refine XR 1 ?_
   refine L0 rfl rfl (E_nil (.pt 80000 0) rfl kk (by intro hh; cases hh)) ?_
   refine XR 2 ?_
   refine L0 rfl rfl (Y0_shr (k := .u64) (k2 := .u64) (a := f7) (b := 40) rfl kk kk (by decide)) ?_
   refine L0 rfl rfl (Y0_and (k := .u64) (a := shrI .u64 f7 40) (b := 255) rfl kk kk) ?_
   refine L0 rfl rfl (Y0_conv (k2 := .u64) (a := andI .u64 (shrI .u64 f7 40) 255) Tryz.underlying82 Tryz.underlying3 rfl kk) ?_
   refine XR 1 ?_
   refine zK ?_
   subst ht9
   kernel_rfl
  cases h
  exact zE VTR
theorem zH : CfW Tryz.prog 68 := cfW Tryz.func68
theorem zL {c1 : ((List Int) × Int × Int)} {vn2 : Int} {r : (Int × (((List Int) × Int × Int)))} (h : zF c1 vn2 = some r) : zDz Tryz.prog 68 [.pt 80000 0, I vn2] [(80000, .box [.sl (c1.1.map c5), Ti c1.2.1, .v (.int .u64 c1.2.2)])] (I r.1) [] [(80000, .box [.sl (r.2.1.map c5), Ti r.2.2.1, .v (.int .u64 r.2.2.2)])] := by
 refine qZ (rs := [.t 4]) (vs := [.tmp 4]) Tryz.func68 rfl rfl (.cons rfl FitsL.nil) (by decide) 20 rfl rfl fun σ => ?_
 unfold zF at h
 show V _ _ ⟨.pt 80000 0 :: I vn2 :: bt 18 [], [(80000, .pbox (σ 80000) [.sl (c1.1.map c5), Ti c1.2.1, .v (.int .u64 c1.2.2)])]⟩ _
 refine VE ?_
 refine zJ ?_
 refine VE ?_
 refine VC h (fun h => ?_) (fun h => ?_)
 ·refine VE ?_
  cases h
  exact zE VTR
 ·refine zG ?_
  show V _ _ _ _
  obtain ⟨y4, hy4, h⟩ := zA h
  refine VS ?_
  refine YR 1 ?_
  refine zM rfl (zV [(80000, 80000)] 9 (s_spec_l1Cur_next hy4) cf_spec_l1Cur_next rfl rfl kk rfl (zU kk zZ) rfl kk rfl rfl rfl) ?_
  refine YF ?_
  refine zJ ?_
  refine VE ?_
  refine VC h (fun h => ?_) (fun h => ?_)
  ·obtain ⟨y6, hy6, h⟩ := zA h
   obtain ⟨x7, hx7, h⟩ := zS h
   refine jD (mb 20 34) [80000] (s1 := ⟨.bot :: I vn2 :: bt 3 (I x7 :: bt 14 []), [(80000, .pbox (σ 80000) [.sl (y6.2.1.map c5), Ti y6.2.2.1, .v (.int .u64 y6.2.2.2)])]⟩) ?_ ?_
   ·refine XR 3 ?_
    refine zM rfl (zV [(80000, 80000)] 15 (s_spec_l1Cur_next hy6) cf_spec_l1Cur_next rfl rfl kk rfl (zU kk zZ) rfl kk rfl rfl rfl) ?_
    refine XR 2 ?_
    refine zK ?_
    subst hx7
    kernel_rfl
   show V _ _ _ _
   obtain ⟨z8, hz8, h⟩ := zA h
   obtain ⟨t9, ht9, h⟩ := zS h
   refine zO (mb 20 16) [80000] (s1 := ⟨bt 4 (I t9 :: bt 15 []), [(80000, .pbox (σ 80000) [.sl (y6.2.1.map c5), Ti y6.2.2.1, .v (.int .u64 y6.2.2.2)])]⟩) ?_ ?_
   ·refine XR 2 ?_
    refine L0 rfl rfl (Y0_rem (k := .i64) (a := x7) (b := vn2) rfl kk kk (jT hz8)) ?_
    refine XR 1 ?_
    refine zK ?_
    subst ht9
    kernel_rfl
   cases h
   exact zE VTR
  ·refine zG ?_
   show V _ _ _ _
   obtain ⟨z10, hz10, h⟩ := zA h
   obtain ⟨t11, ht11, h⟩ := zS h
   refine zO (mb 20 16) [80000] (s1 := ⟨bt 4 (I t11 :: bt 15 []), [(80000, .pbox (σ 80000) [.sl (y4.2.1.map c5), Ti y4.2.2.1, .v (.int .u64 y4.2.2.2)])]⟩) ?_ ?_
   ·refine XR 2 ?_
    refine L0 rfl rfl (Y0_rem (k := .i64) (a := y4.1) (b := vn2) rfl kk kk (jT hz10)) ?_
    refine XR 1 ?_
    refine zK ?_
    subst ht11
    kernel_rfl
   cases h
   exact zE VTR
theorem zA9 : CfW Tryz.prog 60 := cfW Tryz.func60
theorem zAo {c1 : ((List Int) × Int × Int)} {list2 : List Int} {r : (Int × (((List Int) × Int × Int)))} (h : q7 c1 list2 = some r) : zDz Tryz.prog 60 [.pt 80000 0, .c (.sl (list2.map c3))] [(80000, .box [.sl (c1.1.map c5), Ti c1.2.1, .v (.int .u64 c1.2.2)])] (I r.1) [] [(80000, .box [.sl (r.2.1.map c5), Ti r.2.2.1, .v (.int .u64 r.2.2.2)])] := by
 refine qZ (rs := [.t 4]) (vs := [.tmp 4]) Tryz.func60 rfl rfl (.cons rfl FitsL.nil) (by decide) 12 rfl rfl fun σ => ?_
 unfold q7 at h
 show V _ _ ⟨.pt 80000 0 :: .c (.sl (list2.map c3)) :: bt 10 [], [(80000, .pbox (σ 80000) [.sl (c1.1.map c5), Ti c1.2.1, .v (.int .u64 c1.2.2)])]⟩ _
 refine VE ?_
 obtain ⟨y3, hy3, h⟩ := zA h
 obtain ⟨e4, he4, h⟩ := zA h
 refine VS ?_
 refine YR 3 ?_
 refine L0 rfl rfl (qK (c := c3) (xs := list2) Tryz.underlying24 rfl kk) ?_
 refine zM rfl (zV [(80000, 80000)] 9 (zL hy3) zH rfl rfl kk rfl (zU kk zZ) rfl kk rfl rfl rfl) ?_
 refine L0 rfl rfl (zAn (c := c3) (xs := list2) (v := e4) (n := y3.1) Tryz.underlying24 sz3 rfl kk kk he4) ?_
 refine YF ?_
 cases h
 exact zE VTR
theorem zCN : CfW Tryz.prog 69 := cfW Tryz.func69
theorem zC3 {c1 : ((List Int) × Int × Int)} {vn2 : Int} {r : (Bool × (((List Int) × Int × Int)))} (h : zAE c1 vn2 = some r) : zDz Tryz.prog 69 [.pt 80000 0, I vn2] [(80000, .box [.sl (c1.1.map c5), Ti c1.2.1, .v (.int .u64 c1.2.2)])] (Bo r.1) [] [(80000, .box [.sl (r.2.1.map c5), Ti r.2.2.1, .v (.int .u64 r.2.2.2)])] := by
 refine qZ (rs := [.t 4]) (vs := [.tmp 4]) Tryz.func69 rfl rfl (.cons rfl FitsL.nil) (by decide) 9 rfl rfl fun σ => ?_
 unfold zAE at h
 show V _ _ ⟨.pt 80000 0 :: I vn2 :: bt 7 [], [(80000, .pbox (σ 80000) [.sl (c1.1.map c5), Ti c1.2.1, .v (.int .u64 c1.2.2)])]⟩ _
 refine VE ?_
 obtain ⟨y3, hy3, h⟩ := zA h
 refine VS ?_
 refine YR 2 ?_
 refine zM rfl (zV [(80000, 80000)] 7 (zL hy3) zH rfl rfl kk rfl (zU kk zZ) rfl kk rfl rfl rfl) ?_
 refine YF ?_
 cases h
 exact zE VTR
theorem cf_spec_l1Cur_of : CfW Tryz.prog 124 := cfW Tryz.func124
theorem s_spec_l1Cur_of {c1 : ((List Int) × Int × Int)} {list2 : List ByteArray} {r : (ByteArray × (((List Int) × Int × Int)))} (h : zBc c1 list2 = some r) : zDz Tryz.prog 124 [.pt 80000 0, .c (.sl (list2.map c9))] [(80000, .box [.sl (c1.1.map c5), Ti c1.2.1, .v (.int .u64 c1.2.2)])] (.c (.v (.string r.1))) [] [(80000, .box [.sl (r.2.1.map c5), Ti r.2.2.1, .v (.int .u64 r.2.2.2)])] := by
 refine qZ (rs := [.t 4]) (vs := [.tmp 4]) Tryz.func124 rfl rfl (.cons rfl FitsL.nil) (by decide) 12 rfl rfl fun σ => ?_
 unfold zBc at h
 show V _ _ ⟨.pt 80000 0 :: .c (.sl (list2.map c9)) :: bt 10 [], [(80000, .pbox (σ 80000) [.sl (c1.1.map c5), Ti c1.2.1, .v (.int .u64 c1.2.2)])]⟩ _
 refine VE ?_
 obtain ⟨y3, hy3, h⟩ := zA h
 obtain ⟨e4, he4, h⟩ := zA h
 refine VS ?_
 refine YR 3 ?_
 refine L0 rfl rfl (qK (c := c9) (xs := list2) Tryz.underlying66 rfl kk) ?_
 refine zM rfl (zV [(80000, 80000)] 9 (zL hy3) zH rfl rfl kk rfl (zU kk zZ) rfl kk rfl rfl rfl) ?_
 refine L0 rfl rfl (zAn (c := c9) (xs := list2) (v := e4) (n := y3.1) Tryz.underlying66 sz9 rfl kk kk he4) ?_
 refine YF ?_
 cases h
 exact zE VTR
theorem zCc : CfW Tryz.prog 121 := cfW Tryz.func121
theorem zCk {c1 : ((List Int) × Int × Int)} {r : (ByteArray × (((List Int) × Int × Int)))} (h : jY c1 = some r) : zDz Tryz.prog 121 [.pt 80000 0] [(80000, .box [.sl (c1.1.map c5), Ti c1.2.1, .v (.int .u64 c1.2.2)])] (.c (.v (.string r.1))) [] [(80000, .box [.sl (r.2.1.map c5), Ti r.2.2.1, .v (.int .u64 r.2.2.2)])] := by
 refine qZ (rs := [.t 2]) (vs := [.tmp 2]) Tryz.func121 rfl rfl (.cons rfl FitsL.nil) (by decide) 11 rfl rfl fun σ => ?_
 unfold jY at h
 show V _ _ ⟨.pt 80000 0 :: bt 10 [], [(80000, .pbox (σ 80000) [.sl (c1.1.map c5), Ti c1.2.1, .v (.int .u64 c1.2.2)])]⟩ _
 refine VE ?_
 refine zJ ?_
 obtain ⟨y2, hy2, h⟩ := zA h
 refine VS ?_
 refine YR 1 ?_
 refine zM rfl (zV [(80000, 80000)] 4 (zC3 hy2) zCN rfl rfl kk rfl (zU kk zZ) rfl kk rfl rfl rfl) ?_
 refine YF ?_
 refine VC h (fun h => ?_) (fun h => ?_)
 ·obtain ⟨y4, hy4, h⟩ := zA h
  refine VS ?_
  refine YR 1 ?_
  refine L1 rfl rfl (qP (z := zv9) (els := [(⟨#[]⟩ : ByteArray), (⟨#[97, 98, 99, 100, 101, 102, 103, 104]⟩ : ByteArray), (⟨#[97, 98, 99, 100, 101, 102, 103, 104, 105]⟩ : ByteArray), (⟨#[65]⟩ : ByteArray), (⟨#[97, 32, 98]⟩ : ByteArray), (⟨#[122]⟩ : ByteArray)].map c9) Tryz.underlying66 iz9 rfl (by decide) rfl kk rfl (by simp [c9]) (by decide) (by decide)) ?_
  refine zCh 48 (T := 9) (sz := 1) (els := ([(⟨#[]⟩ : ByteArray), (⟨#[97, 98, 99, 100, 101, 102, 103, 104]⟩ : ByteArray), (⟨#[97, 98, 99, 100, 101, 102, 103, 104, 105]⟩ : ByteArray), (⟨#[65]⟩ : ByteArray), (⟨#[97, 32, 98]⟩ : ByteArray), (⟨#[122]⟩ : ByteArray)]).map c9) kk rfl ?_
  refine zM rfl (zV [(80000, 80000)] 7 (s_spec_l1Cur_of hy4) cf_spec_l1Cur_of rfl rfl kk rfl (zU kk zZ) rfl kk rfl rfl rfl) ?_
  refine YF ?_
  cases h
  exact zE VTR
 ·refine zG ?_
  show V _ _ _ _
  obtain ⟨y5, hy5, h⟩ := zA h
  refine VS ?_
  refine YR 1 ?_
  refine L1 rfl rfl (qP (z := zv9) (els := [(⟨#[97]⟩ : ByteArray), (⟨#[98]⟩ : ByteArray), (⟨#[99]⟩ : ByteArray), (⟨#[100]⟩ : ByteArray), (⟨#[101]⟩ : ByteArray), (⟨#[102]⟩ : ByteArray), (⟨#[103]⟩ : ByteArray), (⟨#[97, 98]⟩ : ByteArray), (⟨#[98, 97]⟩ : ByteArray), (⟨#[120]⟩ : ByteArray)].map c9) Tryz.underlying66 iz9 rfl (by decide) rfl kk rfl (by simp [c9]) (by decide) (by decide)) ?_
  refine zCh 72 (T := 9) (sz := 1) (els := ([(⟨#[97]⟩ : ByteArray), (⟨#[98]⟩ : ByteArray), (⟨#[99]⟩ : ByteArray), (⟨#[100]⟩ : ByteArray), (⟨#[101]⟩ : ByteArray), (⟨#[102]⟩ : ByteArray), (⟨#[103]⟩ : ByteArray), (⟨#[97, 98]⟩ : ByteArray), (⟨#[98, 97]⟩ : ByteArray), (⟨#[120]⟩ : ByteArray)]).map c9) kk rfl ?_
  refine zM rfl (zV [(80000, 80000)] 10 (s_spec_l1Cur_of hy5) cf_spec_l1Cur_of rfl rfl kk rfl (zU kk zZ) rfl kk rfl rfl rfl) ?_
  refine YF ?_
  cases h
  exact zE VTR
theorem zDV : CfW Tryz.prog 253 := cfW Tryz.func253
theorem zD7 {c1 : ((List Int) × Int × Int)} {r : (Int × (((List Int) × Int × Int)))} (h : zA8 c1 = some r) : zDz Tryz.prog 253 [.pt 80000 0] [(80000, .box [.sl (c1.1.map c5), Ti c1.2.1, .v (.int .u64 c1.2.2)])] (I r.1) [] [(80000, .box [.sl (r.2.1.map c5), Ti r.2.2.1, .v (.int .u64 r.2.2.2)])] := by
 refine qZ (rs := [.t 2]) (vs := [.tmp 2]) Tryz.func253 rfl rfl (.cons rfl FitsL.nil) (by decide) 32 rfl rfl fun σ => ?_
 unfold zA8 at h
 show V _ _ ⟨.pt 80000 0 :: bt 31 [], [(80000, .pbox (σ 80000) [.sl (c1.1.map c5), Ti c1.2.1, .v (.int .u64 c1.2.2)])]⟩ _
 refine VE ?_
 refine zJ ?_
 obtain ⟨y2, hy2, h⟩ := zA h
 refine VS ?_
 refine YR 1 ?_
 refine zM rfl (zV [(80000, 80000)] 4 (zL hy2) zH rfl rfl kk rfl (zU kk zZ) rfl kk rfl rfl rfl) ?_
 refine YF ?_
 refine zN ?_
 refine VE ?_
 refine VC h (fun h => ?_) (fun h => ?_)
 ·obtain ⟨y4, hy4, h⟩ := zA h
  refine VS ?_
  refine YR 1 ?_
  refine L1 rfl rfl (qP (z := zv3) (els := [0, 1, -1, 1000000, -1000000, 1000001, -1000001, -9223372036854775808, 9223372036854775807, 999983, 999999, 1000].map c3) Tryz.underlying24 iz3 rfl (by decide) rfl kk rfl (by simp [c3]) (by decide) (by decide)) ?_
  refine zCh 64 (T := 3) (sz := 1) (els := ([0, 1, -1, 1000000, -1000000, 1000001, -1000001, -9223372036854775808, 9223372036854775807, 999983, 999999, 1000]).map c3) kk rfl ?_
  refine zM rfl (zV [(80000, 80000)] 9 (zAo hy4) zA9 rfl rfl kk rfl (zU kk zZ) rfl kk rfl rfl rfl) ?_
  refine YF ?_
  cases h
  exact zE VTR
 ·obtain ⟨j5, hj5, h⟩ := zA h
  refine zCw (mb 32 1041) [80000] (s1 := ⟨.pt 80000 0 :: bt 3 (I y2.1 :: bt 5 (Bo j5 :: bt 21 [])), [(80000, .pbox (σ 80000) [.sl (y2.2.1.map c5), Ti y2.2.2.1, .v (.int .u64 y2.2.2.2)])]⟩) ?_ ?_
  ·clear h
   have h := hj5
   clear hj5
   refine VE ?_
   refine VC h (fun h => ?_) (fun h => ?_)
   ·refine zG ?_
    obtain rfl := zB h
    show St.keep _ _ _ = _
    kernel_rfl
   ·refine zX ?_
    refine YF ?_
    obtain rfl := zB h
    show St.keep _ _ _ = _
    kernel_rfl
  refine VC h (fun h => ?_) (fun h => ?_)
  ·obtain ⟨y8, hy8, h⟩ := zA h
   obtain ⟨y9, hy9, h⟩ := zA h
   obtain ⟨y10, hy10, h⟩ := zA h
   obtain ⟨t11, ht11, h⟩ := zS h
   refine zO (mb 32 4) [80000] (s1 := ⟨.bot :: .bot :: I t11 :: bt 29 [], [(80000, .pbox (σ 80000) [.sl (y10.2.1.map c5), Ti y10.2.2.1, .v (.int .u64 y10.2.2.2)])]⟩) ?_ ?_
   ·refine XR 1 ?_
    refine zM rfl (zV [(80000, 80000)] 14 (zL hy8) zH rfl rfl kk rfl (zU kk zZ) rfl kk rfl rfl rfl) ?_
    refine XR 1 ?_
    refine zM rfl (zV [(80000, 80000)] 16 (zL hy9) zH rfl rfl kk rfl (zU kk zZ) rfl kk rfl rfl rfl) ?_
    refine XR 3 ?_
    refine zM rfl (zV [(80000, 80000)] 20 (zL hy10) zH rfl rfl kk rfl (zU kk zZ) rfl kk rfl rfl rfl) ?_
    refine XR 4 ?_
    refine zK ?_
    subst ht11
    kernel_rfl
   cases h
   exact zE VTR
  ·obtain ⟨j12, hj12, h⟩ := zA h
   refine zCw (mb 32 16777217) [80000] (s1 := ⟨.pt 80000 0 :: bt 23 (Bo j12 :: bt 7 []), [(80000, .pbox (σ 80000) [.sl (y2.2.1.map c5), Ti y2.2.2.1, .v (.int .u64 y2.2.2.2)])]⟩) ?_ ?_
   ·clear h
    have h := hj12
    clear hj12
    refine VE ?_
    refine VC h (fun h => ?_) (fun h => ?_)
    ·refine zG ?_
     obtain rfl := zB h
     show St.keep _ _ _ = _
     kernel_rfl
    ·refine zX ?_
     refine YF ?_
     obtain rfl := zB h
     show St.keep _ _ _ = _
     kernel_rfl
   refine VC h (fun h => ?_) (fun h => ?_)
   ·obtain ⟨y15, hy15, h⟩ := zA h
    refine VS ?_
    refine YR 1 ?_
    refine zM rfl (zV [(80000, 80000)] 28 (zL hy15) zH rfl rfl kk rfl (zU kk zZ) rfl kk rfl rfl rfl) ?_
    refine YF ?_
    cases h
    exact zE VTR
   ·refine zG ?_
    show V _ _ _ _
    obtain ⟨y16, hy16, h⟩ := zA h
    obtain ⟨t17, ht17, h⟩ := zS h
    refine zO (mb 32 4) [80000] (s1 := ⟨.bot :: .bot :: I t17 :: bt 29 [], [(80000, .pbox (σ 80000) [.sl (y16.2.1.map c5), Ti y16.2.2.1, .v (.int .u64 y16.2.2.2)])]⟩) ?_ ?_
    ·refine XR 1 ?_
     refine zM rfl (zV [(80000, 80000)] 30 (zL hy16) zH rfl rfl kk rfl (zU kk zZ) rfl kk rfl rfl rfl) ?_
     refine XR 2 ?_
     refine zK ?_
     subst ht17
     kernel_rfl
    cases h
    exact zE VTR
theorem cf_spec_l1Cur_form : CfW Tryz.prog 201 := cfW Tryz.func201
theorem s_spec_l1Cur_form {c1 : ((List Int) × Int × Int)} {r : (((Int × Int × Int)) × (((List Int) × Int × Int)))} (h : zCD c1 = some r) : zDz Tryz.prog 201 [.pt 80000 0] [(80000, .box [.sl (c1.1.map c5), Ti c1.2.1, .v (.int .u64 c1.2.2)])] (.ag [Ti r.1.1, Ti r.1.2.1, Ti r.1.2.2]) [] [(80000, .box [.sl (r.2.1.map c5), Ti r.2.2.1, .v (.int .u64 r.2.2.2)])] := by
 refine qZ (rs := [.w 2 3]) (vs := [.cell 2 38]) Tryz.func201 rfl rfl (.cons ⟨rfl, wd38⟩ FitsL.nil) (by decide) 85 rfl rfl fun σ => ?_
 unfold zCD at h
 show V _ _ ⟨.pt 80000 0 :: bt 84 [], [(80000, .pbox (σ 80000) [.sl (c1.1.map c5), Ti c1.2.1, .v (.int .u64 c1.2.2)])]⟩ _
 refine VE ?_
 refine zJ ?_
 obtain ⟨y2, hy2, h⟩ := zA h
 refine VS ?_
 refine YR 1 ?_
 refine zM rfl (zV [(80000, 80000)] 8 (zL hy2) zH rfl rfl kk rfl (zU kk zZ) rfl kk rfl rfl rfl) ?_
 refine YF ?_
 refine zN ?_
 refine VE ?_
 refine VC h (fun h => ?_) (fun h => ?_)
 ·obtain ⟨y4, hy4, h⟩ := zA h
  obtain ⟨y5, hy5, h⟩ := zA h
  obtain ⟨y6, hy6, h⟩ := zA h
  refine VS ?_
  refine YR 1 ?_
  refine zM rfl (zV [(80000, 80000)] 12 (zD7 hy4) zDV rfl rfl kk rfl (zU kk zZ) rfl kk rfl rfl rfl) ?_
  refine YR 1 ?_
  refine zM rfl (zV [(80000, 80000)] 14 (zD7 hy5) zDV rfl rfl kk rfl (zU kk zZ) rfl kk rfl rfl rfl) ?_
  refine YR 1 ?_
  refine zM rfl (zV [(80000, 80000)] 16 (zD7 hy6) zDV rfl rfl kk rfl (zU kk zZ) rfl kk rfl rfl rfl) ?_
  refine L0 rfl rfl (zW (cs := [Ti y4.1, Ti y5.1, Ti y6.1]) pl38 bt38 rfl rfl kk) ?_
  refine YF ?_
  cases h
  exact zE VTR
 ·refine VE ?_
  refine VC h (fun h => ?_) (fun h => ?_)
  ·obtain ⟨y8, hy8, h⟩ := zA h
   refine VS ?_
   refine YR 1 ?_
   refine L1 rfl rfl (qP (z := zv3) (els := [2, 3, -1, 0, 1000].map c3) Tryz.underlying24 iz3 rfl (by decide) rfl kk rfl (by simp [c3]) (by decide) (by decide)) ?_
   refine zCh 168 (T := 3) (sz := 1) (els := ([2, 3, -1, 0, 1000]).map c3) kk rfl ?_
   refine zM rfl (zV [(80000, 80000)] 22 (zAo hy8) zA9 rfl rfl kk rfl (zU kk zZ) rfl kk rfl rfl rfl) ?_
   refine YF ?_
   obtain ⟨y9, hy9, h⟩ := zA h
   obtain ⟨y10, hy10, h⟩ := zA h
   obtain ⟨y11, hy11, h⟩ := zA h
   obtain ⟨f12, hf12, h⟩ := zS h
   obtain ⟨f13, hf13, h⟩ := zS h
   obtain ⟨f14, hf14, h⟩ := zS h
   refine zO (mb 85 4) [16, 80000] (s1 := ⟨.bot :: .bot :: .pt 16 0 :: bt 82 [], [(16, .box [Ti f12, Ti f13, Ti f14]), (80000, .pbox (σ 80000) [.sl (y11.2.1.map c5), Ti y11.2.2.1, .v (.int .u64 y11.2.2.2)])]⟩) ?_ ?_
   ·refine XR 2 ?_
    refine zM rfl (zV [(80000, 80000)] 25 (zL hy9) zH rfl rfl kk rfl (zU kk zZ) rfl kk rfl rfl rfl) ?_
    refine XR 3 ?_
    refine zM rfl (zV [(80000, 80000)] 29 (zL hy10) zH rfl rfl kk rfl (zU kk zZ) rfl kk rfl rfl rfl) ?_
    refine XR 4 ?_
    refine zM rfl (zV [(80000, 80000)] 34 (zL hy11) zH rfl rfl kk rfl (zU kk zZ) rfl kk rfl rfl rfl) ?_
    refine XR 1 ?_
    refine L0 rfl rfl (zW (cs := [Ti (w64 (y8.1 * y9.1)), Ti (w64 (y8.1 * (w64 (y10.1 - 10)))), Ti (w64 (y8.1 * y11.1))]) pl38 bt38 rfl rfl kk) ?_
    refine XR 1 ?_
    refine zK ?_
    subst hf12 hf13 hf14
    kernel_rfl
   cases h
   exact zE VTR
  ·refine VE ?_
   refine VC h (fun h => ?_) (fun h => ?_)
   ·obtain ⟨y16, hy16, h⟩ := zA h
    obtain ⟨y17, hy17, h⟩ := zA h
    obtain ⟨y18, hy18, h⟩ := zA h
    obtain ⟨f19, hf19, h⟩ := zS h
    refine zO (mb 85 4) [16, 80000] (s1 := ⟨.bot :: .bot :: .pt 16 0 :: bt 82 [], [(16, .box [Ti y16.1, Ti f19, Ti y18.1]), (80000, .pbox (σ 80000) [.sl (y18.2.1.map c5), Ti y18.2.2.1, .v (.int .u64 y18.2.2.2)])]⟩) ?_ ?_
    ·refine XR 1 ?_
     refine zM rfl (zV [(80000, 80000)] 40 (zL hy16) zH rfl rfl kk rfl (zU kk zZ) rfl kk rfl rfl rfl) ?_
     refine XR 1 ?_
     refine zM rfl (zV [(80000, 80000)] 42 (zL hy17) zH rfl rfl kk rfl (zU kk zZ) rfl kk rfl rfl rfl) ?_
     refine XR 2 ?_
     refine zM rfl (zV [(80000, 80000)] 45 (zL hy18) zH rfl rfl kk rfl (zU kk zZ) rfl kk rfl rfl rfl) ?_
     refine L0 rfl rfl (zW (cs := [Ti y16.1, Ti (w64 (y17.1 - 1500)), Ti y18.1]) pl38 bt38 rfl rfl kk) ?_
     refine XR 1 ?_
     refine zK ?_
     subst hf19
     kernel_rfl
    cases h
    exact zE VTR
   ·refine VE ?_
    refine VC h (fun h => ?_) (fun h => ?_)
    ·obtain ⟨y21, hy21, h⟩ := zA h
     obtain ⟨y22, hy22, h⟩ := zA h
     obtain ⟨y23, hy23, h⟩ := zA h
     obtain ⟨f24, hf24, h⟩ := zS h
     obtain ⟨f25, hf25, h⟩ := zS h
     obtain ⟨f26, hf26, h⟩ := zS h
     refine zO (mb 85 4) [16, 80000] (s1 := ⟨.bot :: .bot :: .pt 16 0 :: bt 82 [], [(16, .box [Ti f24, Ti f25, Ti f26]), (80000, .pbox (σ 80000) [.sl (y23.2.1.map c5), Ti y23.2.2.1, .v (.int .u64 y23.2.2.2)])]⟩) ?_ ?_
     ·refine XR 1 ?_
      refine zM rfl (zV [(80000, 80000)] 50 (zL hy21) zH rfl rfl kk rfl (zU kk zZ) rfl kk rfl rfl rfl) ?_
      refine XR 2 ?_
      refine zM rfl (zV [(80000, 80000)] 53 (zL hy22) zH rfl rfl kk rfl (zU kk zZ) rfl kk rfl rfl rfl) ?_
      refine XR 2 ?_
      refine zM rfl (zV [(80000, 80000)] 56 (zL hy23) zH rfl rfl kk rfl (zU kk zZ) rfl kk rfl rfl rfl) ?_
      refine XR 1 ?_
      refine L0 rfl rfl (zW (cs := [Ti (w64 (y21.1 - 10)), Ti (w64 (y22.1 - 10)), Ti (w64 (y23.1 - 10))]) pl38 bt38 rfl rfl kk) ?_
      refine XR 1 ?_
      refine zK ?_
      subst hf24 hf25 hf26
      kernel_rfl
     cases h
     exact zE VTR
    ·refine zG ?_
     show V _ _ _ _
     obtain ⟨y27, hy27, h⟩ := zA h
     obtain ⟨y28, hy28, h⟩ := zA h
     obtain ⟨a29, ha29, h⟩ := zS h
     refine zO (mb 85 53) [16, 80000] (s1 := ⟨.pt 80000 0 :: .bot :: .pt 16 0 :: .bot :: I a29 :: I y28.1 :: bt 79 [], [(16, .box [Ti 0, Ti 0, Ti 0]), (80000, .pbox (σ 80000) [.sl (y28.2.1.map c5), Ti y28.2.2.1, .v (.int .u64 y28.2.2.2)])]⟩) ?_ ?_
     ·refine XR 1 ?_
      refine zM rfl (zV [(80000, 80000)] 60 (zL hy27) zH rfl rfl kk rfl (zU kk zZ) rfl kk rfl rfl rfl) ?_
      refine XR 2 ?_
      refine zM rfl (zV [(80000, 80000)] 63 (zL hy28) zH rfl rfl kk rfl (zU kk zZ) rfl kk rfl rfl rfl) ?_
      refine XR 2 ?_
      refine zK ?_
      subst ha29
      kernel_rfl
     obtain ⟨y30, hy30, h⟩ := zA h
     obtain ⟨b31, hb31, h⟩ := zS h
     refine zO (mb 85 116) [16, 80000] (s1 := ⟨.bot :: .bot :: .pt 16 0 :: .bot :: I a29 :: I y28.1 :: I b31 :: bt 78 [], [(16, .box [Ti 0, Ti 0, Ti 0]), (80000, .pbox (σ 80000) [.sl (y30.2.1.map c5), Ti y30.2.2.1, .v (.int .u64 y30.2.2.2)])]⟩) ?_ ?_
     ·refine XR 3 ?_
      refine zM rfl (zV [(80000, 80000)] 67 (zL hy30) zH rfl rfl kk rfl (zU kk zZ) rfl kk rfl rfl rfl) ?_
      refine XR 4 ?_
      refine zK ?_
      subst hb31
      kernel_rfl
     obtain ⟨z32, hz32, h⟩ := zA h
     obtain ⟨f33, hf33, h⟩ := zS h
     refine zO (mb 85 4) [16, 80000] (s1 := ⟨.bot :: .bot :: .pt 16 0 :: bt 82 [], [(16, .box [Ti a29, Ti b31, Ti f33]), (80000, .pbox (σ 80000) [.sl (y30.2.1.map c5), Ti y30.2.2.1, .v (.int .u64 y30.2.2.2)])]⟩) ?_ ?_
     ·refine XR 10 ?_
      refine L0 rfl rfl (zAC (a := w64 ((w64 (b31 * b31)) + (w64 (4 * a29)))) (b := w64 (4 * a29)) rfl kk kk (jT hz32)) ?_
      refine XR 2 ?_
      refine L0 rfl rfl (zW (cs := [Ti a29, Ti b31, Ti (w64 ((w64 (Int.tdiv (w64 ((w64 (b31 * b31)) + (w64 (4 * a29)))) (w64 (4 * a29)))) + y28.1))]) pl38 bt38 rfl rfl kk) ?_
      refine XR 1 ?_
      refine zK ?_
      subst hf33
      kernel_rfl
     cases h
     exact zE VTR
theorem zB0 : CfW Tryz.prog 218 := cfW Tryz.func218
theorem zBg {a1 : Int} {vm2 : Int} {r : Int} (h : zAK a1 vm2 = some r) : zT Tryz.prog 218 [I a1, I vm2] (I r) [] := by
 refine CtW [4] Tryz.func218 rfl rfl 15 ?_
 unfold zAK at h
 refine VE ?_
 obtain ⟨z3, hz3, h⟩ := zA h
 obtain ⟨vr4, hvr4, h⟩ := zS h
 refine zO (mb 15 34) [] (s1 := ⟨.bot :: I vm2 :: bt 3 (I vr4 :: bt 9 []), []⟩) ?_ ?_
 ·refine XR 2 ?_
  refine L0 rfl rfl (Y0_rem (k := .i64) (a := a1) (b := vm2) rfl kk kk (jT hz3)) ?_
  refine XR 1 ?_
  refine zK ?_
  subst hvr4
  kernel_rfl
 refine zJ ?_
 refine VE ?_
 refine VC h (fun h => ?_) (fun h => ?_)
 ·obtain ⟨vr6, hvr6, h⟩ := zS h
  refine jD (mb 15 32) [] (s1 := ⟨bt 5 (I vr6 :: bt 9 []), []⟩) ?_ ?_
  ·refine XR 4 ?_
   refine zK ?_
   subst hvr6
   kernel_rfl
  show V _ _ _ _
  refine VE ?_
  cases h
  exact zE VT
 ·refine zG ?_
  show V _ _ _ _
  refine VE ?_
  cases h
  exact zE VT
theorem cf_spec_l1Most : CfW Tryz.prog 225 := cfW Tryz.func225
theorem s_spec_l1Most {a1 : Int} {b2 : Int} {r : Int} (h : zBX a1 b2 = some r) : zT Tryz.prog 225 [I a1, I b2] (I r) [] := by
 refine CtW [4] Tryz.func225 rfl rfl 10 ?_
 unfold zBX at h
 refine VE ?_
 refine zJ ?_
 refine VE ?_
 refine VC h (fun h => ?_) (fun h => ?_)
 ·refine VE ?_
  cases h
  exact zE VT
 ·refine zG ?_
  show V _ _ _ _
  refine VE ?_
  cases h
  exact zE VT
theorem cf_spec_l1Cur_disc : CfW Tryz.prog 206 := cfW Tryz.func206
theorem s_spec_l1Cur_disc {c1 : ((List Int) × Int × Int)} {r : (Int × (((List Int) × Int × Int)))} (h : zCE c1 = some r) : zDz Tryz.prog 206 [.pt 80000 0] [(80000, .box [.sl (c1.1.map c5), Ti c1.2.1, .v (.int .u64 c1.2.2)])] (I r.1) [] [(80000, .box [.sl (r.2.1.map c5), Ti r.2.2.1, .v (.int .u64 r.2.2.2)])] := by
 refine qZ (rs := [.t 2]) (vs := [.tmp 2]) Tryz.func206 rfl rfl (.cons rfl FitsL.nil) (by decide) 42 rfl rfl fun σ => ?_
 unfold zCE at h
 show V _ _ ⟨.pt 80000 0 :: bt 41 [], [(80000, .pbox (σ 80000) [.sl (c1.1.map c5), Ti c1.2.1, .v (.int .u64 c1.2.2)])]⟩ _
 refine VE ?_
 refine zJ ?_
 obtain ⟨y2, hy2, h⟩ := zA h
 refine VS ?_
 refine YR 1 ?_
 refine zM rfl (zV [(80000, 80000)] 5 (zL hy2) zH rfl rfl kk rfl (zU kk zZ) rfl kk rfl rfl rfl) ?_
 refine YF ?_
 refine zN ?_
 refine VE ?_
 refine VC h (fun h => ?_) (fun h => ?_)
 ·obtain ⟨y4, hy4, h⟩ := zA h
  refine VS ?_
  refine YR 1 ?_
  refine L1 rfl rfl (qP (z := zv3) (els := [-3, -4, -2000, -1999, -1996, -1995, -163, -2001, -2003, -2004, 0, 1, 5, -1, -2, -5, -9223372036854775808].map c3) Tryz.underlying24 iz3 rfl (by decide) rfl kk rfl (by simp [c3]) (by decide) (by decide)) ?_
  refine zCh 72 (T := 3) (sz := 1) (els := ([-3, -4, -2000, -1999, -1996, -1995, -163, -2001, -2003, -2004, 0, 1, 5, -1, -2, -5, -9223372036854775808]).map c3) kk rfl ?_
  refine zM rfl (zV [(80000, 80000)] 10 (zAo hy4) zA9 rfl rfl kk rfl (zU kk zZ) rfl kk rfl rfl rfl) ?_
  refine YF ?_
  cases h
  exact zE VTR
 ·obtain ⟨j5, hj5, h⟩ := zA h
  refine zCw (mb 42 2081) [80000] (s1 := ⟨.pt 80000 0 :: bt 4 (I y2.1 :: bt 5 (Bo j5 :: bt 30 [])), [(80000, .pbox (σ 80000) [.sl (y2.2.1.map c5), Ti y2.2.2.1, .v (.int .u64 y2.2.2.2)])]⟩) ?_ ?_
  ·clear h
   have h := hj5
   clear hj5
   refine VE ?_
   refine VC h (fun h => ?_) (fun h => ?_)
   ·refine zG ?_
    obtain rfl := zB h
    show St.keep _ _ _ = _
    kernel_rfl
   ·refine zX ?_
    refine YF ?_
    obtain rfl := zB h
    show St.keep _ _ _ = _
    kernel_rfl
  refine VC h (fun h => ?_) (fun h => ?_)
  ·obtain ⟨y8, hy8, h⟩ := zA h
   obtain ⟨d9, hd9, h⟩ := zS h
   refine zO (mb 42 8) [80000] (s1 := ⟨bt 3 (I d9 :: bt 38 []), [(80000, .pbox (σ 80000) [.sl (y8.2.1.map c5), Ti y8.2.2.1, .v (.int .u64 y8.2.2.2)])]⟩) ?_ ?_
   ·refine XR 1 ?_
    refine zM rfl (zV [(80000, 80000)] 15 (zL hy8) zH rfl rfl kk rfl (zU kk zZ) rfl kk rfl rfl rfl) ?_
    refine XR 2 ?_
    refine zK ?_
    subst hd9
    kernel_rfl
   refine zJ ?_
   obtain ⟨y10, hy10, h⟩ := zA h
   refine VS ?_
   refine YK 1 (zBg hy10) zB0 ?_
   refine YF ?_
   refine VC h (fun h => ?_) (fun h => ?_)
   ·obtain ⟨y12, hy12, h⟩ := zA h
    refine zX ?_
    refine YK 2 (s_spec_l1Most hy12) cf_spec_l1Most ?_
    refine YF ?_
    show V _ _ _ _
    refine VE ?_
    cases h
    exact zE VTR
   ·refine zG ?_
    show V _ _ _ _
    refine VE ?_
    cases h
    exact zE VTR
  ·obtain ⟨j13, hj13, h⟩ := zA h
   refine zCw (mb 42 16777249) [80000] (s1 := ⟨.pt 80000 0 :: bt 4 (I y2.1 :: bt 18 (Bo j13 :: bt 17 [])), [(80000, .pbox (σ 80000) [.sl (y2.2.1.map c5), Ti y2.2.2.1, .v (.int .u64 y2.2.2.2)])]⟩) ?_ ?_
   ·clear h
    have h := hj13
    clear hj13
    refine VE ?_
    refine VC h (fun h => ?_) (fun h => ?_)
    ·refine zG ?_
     obtain rfl := zB h
     show St.keep _ _ _ = _
     kernel_rfl
    ·refine VE ?_
     refine VC h (fun h => ?_) (fun h => ?_)
     ·refine zG ?_
      obtain rfl := zB h
      show St.keep _ _ _ = _
      kernel_rfl
     ·refine zX ?_
      refine YF ?_
      obtain rfl := zB h
      show St.keep _ _ _ = _
      kernel_rfl
   refine VC h (fun h => ?_) (fun h => ?_)
   ·obtain ⟨y17, hy17, h⟩ := zA h
    refine VS ?_
    refine YR 1 ?_
    refine L1 rfl rfl (qP (z := zv3) (els := [-84, -420, -231, -260, -455, -520, -660, -1155, -1320, -1380, -1428, -1540, -399, -1092, -1560, -1785].map c3) Tryz.underlying24 iz3 rfl (by decide) rfl kk rfl (by simp [c3]) (by decide) (by decide)) ?_
    refine zCh 232 (T := 3) (sz := 1) (els := ([-84, -420, -231, -260, -455, -520, -660, -1155, -1320, -1380, -1428, -1540, -399, -1092, -1560, -1785]).map c3) kk rfl ?_
    refine zM rfl (zV [(80000, 80000)] 30 (zAo hy17) zA9 rfl rfl kk rfl (zU kk zZ) rfl kk rfl rfl rfl) ?_
    refine YF ?_
    cases h
    exact zE VTR
   ·obtain ⟨j18, hj18, h⟩ := zA h
    refine zCw (mb 42 2147483649) [80000] (s1 := ⟨.pt 80000 0 :: bt 30 (Bo j18 :: bt 10 []), [(80000, .pbox (σ 80000) [.sl (y2.2.1.map c5), Ti y2.2.2.1, .v (.int .u64 y2.2.2.2)])]⟩) ?_ ?_
    ·clear h
     have h := hj18
     clear hj18
     refine VE ?_
     refine VC h (fun h => ?_) (fun h => ?_)
     ·refine zG ?_
      obtain rfl := zB h
      show St.keep _ _ _ = _
      kernel_rfl
     ·refine zX ?_
      refine YF ?_
      obtain rfl := zB h
      show St.keep _ _ _ = _
      kernel_rfl
    refine VC h (fun h => ?_) (fun h => ?_)
    ·obtain ⟨y21, hy21, h⟩ := zA h
     obtain ⟨t22, ht22, h⟩ := zS h
     refine zO (mb 42 4) [80000] (s1 := ⟨.bot :: .bot :: I t22 :: bt 39 [], [(80000, .pbox (σ 80000) [.sl (y21.2.1.map c5), Ti y21.2.2.1, .v (.int .u64 y21.2.2.2)])]⟩) ?_ ?_
     ·refine XR 1 ?_
      refine zM rfl (zV [(80000, 80000)] 35 (zL hy21) zH rfl rfl kk rfl (zU kk zZ) rfl kk rfl rfl rfl) ?_
      refine XR 3 ?_
      refine zK ?_
      subst ht22
      kernel_rfl
     cases h
     exact zE VTR
    ·refine zG ?_
     show V _ _ _ _
     obtain ⟨y23, hy23, h⟩ := zA h
     obtain ⟨t24, ht24, h⟩ := zS h
     refine zO (mb 42 4) [80000] (s1 := ⟨.bot :: .bot :: I t24 :: bt 39 [], [(80000, .pbox (σ 80000) [.sl (y23.2.1.map c5), Ti y23.2.2.1, .v (.int .u64 y23.2.2.2)])]⟩) ?_ ?_
     ·refine XR 1 ?_
      refine zM rfl (zV [(80000, 80000)] 39 (zL hy23) zH rfl rfl kk rfl (zU kk zZ) rfl kk rfl rfl rfl) ?_
      refine XR 3 ?_
      refine zK ?_
      subst ht24
      kernel_rfl
     cases h
     exact zE VTR
theorem zD4 : CfW Tryz.prog 91 := cfW Tryz.func91
theorem zDv {vn1 : Int} {lo2 : Int} {hi3 : Int} {r : Bool} (h : jK vn1 lo2 hi3 = some r) : zT Tryz.prog 91 [I vn1, I lo2, I hi3] (Bo r) [] := by
 refine CtW [6] Tryz.func91 rfl rfl 15 ?_
 unfold jK at h
 refine VE ?_
 refine zO (mb 15 64) [] (s1 := ⟨bt 6 (Bo (bif (leI lo2 vn1) then (leI vn1 hi3) else false) :: bt 8 []), []⟩) ?_ ?_
 ·refine YR 4 ?_
  refine zD (leI lo2 vn1) (fun hc4 => ?_) (fun hc4 => ?_)
  ·refine YQ hc4 ?_
   exact YE (by rw [hc4]; kernel_rfl)
  ·refine YQ hc4 ?_
   exact YE (by rw [hc4]; kernel_rfl)
 cases h
 exact zE VT
theorem cf_spec_reDisc : CfW Tryz.prog 152 := cfW Tryz.func152
theorem s_spec_reDisc {d1 : Int} {r : Bool} (h : zDd d1 = some r) : zT Tryz.prog 152 [I d1] (Bo r) [] := by
 refine CtW [2] Tryz.func152 rfl rfl 10 ?_
 unfold zDd at h
 refine VE ?_
 obtain ⟨y2, hy2, h⟩ := zA h
 obtain ⟨b5, hb5, h⟩ := zA h
 refine zO (mb 10 4) [] (s1 := ⟨.bot :: .bot :: Bo b5 :: bt 7 [], []⟩) ?_ ?_
 ·refine YK 1 (zDv hy2) zD4 ?_
  refine YR 1 ?_
  refine zD y2 (fun hc3 => ?_) (fun hc3 => ?_)
  ·have hb5 := qM hb5 hc3
   obtain ⟨y4, hy4, hb5⟩ := zA hb5
   have hb5 := zB hb5
   refine YQ hc3 ?_
   refine YK 1 (zBg hy4) zB0 ?_
   exact YE (by rw [← hb5]; (try rw [hc3]); kernel_rfl)
  ·have hb5 := zB (qB hb5 hc3)
   refine YQ hc3 ?_
   exact YE (by rw [← hb5]; (try rw [hc3]); kernel_rfl)
 cases h
 exact zE VT
theorem zCu : CfW Tryz.prog 132 := cfW Tryz.func132
theorem zDH {c1 : ((List Int) × Int × Int)} {r : (Int × (((List Int) × Int × Int)))} (h : zAJ c1 = some r) : zDz Tryz.prog 132 [.pt 80000 0] [(80000, .box [.sl (c1.1.map c5), Ti c1.2.1, .v (.int .u64 c1.2.2)])] (I r.1) [] [(80000, .box [.sl (r.2.1.map c5), Ti r.2.2.1, .v (.int .u64 r.2.2.2)])] := by
 refine qZ (rs := [.t 2]) (vs := [.tmp 2]) Tryz.func132 rfl rfl (.cons rfl FitsL.nil) (by decide) 10 rfl rfl fun σ => ?_
 unfold zAJ at h
 show V _ _ ⟨.pt 80000 0 :: bt 9 [], [(80000, .pbox (σ 80000) [.sl (c1.1.map c5), Ti c1.2.1, .v (.int .u64 c1.2.2)])]⟩ _
 refine VE ?_
 obtain ⟨y2, hy2, h⟩ := zA h
 refine VS ?_
 refine YR 1 ?_
 refine zM rfl (zV [(80000, 80000)] 5 (s_spec_l1Cur_disc hy2) cf_spec_l1Cur_disc rfl rfl kk rfl (zU kk zZ) rfl kk rfl rfl rfl) ?_
 refine YF ?_
 refine zJ ?_
 obtain ⟨y3, hy3, h⟩ := zA h
 refine VS ?_
 refine YK 1 (s_spec_reDisc hy3) cf_spec_reDisc ?_
 refine YF ?_
 refine VC h (fun h => ?_) (fun h => ?_)
 ·refine VE ?_
  cases h
  exact zE VTR
 ·refine zG ?_
  show V _ _ _ _
  refine VE ?_
  cases h
  exact zE VTR
theorem zBr : CfW Tryz.prog 99 := cfW Tryz.func99
theorem zCP {f1 : (Int × Int × Int)} {r : Int} (h : zAG f1 = some r) : zT Tryz.prog 99 [.ag [Ti f1.1, Ti f1.2.1, Ti f1.2.2]] (I r) [] := by
 refine CtW [2] Tryz.func99 rfl rfl 15 ?_
 unfold zAG at h
 refine VE ?_
 obtain ⟨t2, ht2, h⟩ := zS h
 refine zO (mb 15 4) [] (s1 := ⟨.bot :: .bot :: I t2 :: bt 12 [], []⟩) ?_ ?_
 ·refine XR 13 ?_
  refine zK ?_
  subst ht2
  kernel_rfl
 cases h
 exact zE VT
theorem cf_spec_reIs : CfW Tryz.prog 149 := cfW Tryz.func149
theorem s_spec_reIs {f1 : (Int × Int × Int)} {r : Bool} (h : zCi f1 = some r) : zT Tryz.prog 149 [.ag [Ti f1.1, Ti f1.2.1, Ti f1.2.2]] (Bo r) [] := by
 refine CtW [2] Tryz.func149 rfl rfl 35 ?_
 unfold zCi at h
 refine VE ?_
 obtain ⟨t6, ht6, h⟩ := zA h
 have ht6 := zB ht6
 refine zO (mb 35 4) [] (s1 := ⟨.bot :: .bot :: Bo t6 :: bt 32 [], []⟩) ?_ ?_
 ·refine YR 7 ?_
  refine zD (ltI (w64 (0 - f1.1)) f1.2.1) (fun hc2 => ?_) (fun hc2 => ?_)
  ·refine YQ hc2 ?_
   refine YR 7 ?_
   refine zD (bif (ltI (w64 (0 - f1.1)) f1.2.1) then (leI f1.2.1 f1.1) else false) (fun hc3 => ?_) (fun hc3 => ?_)
   ·refine YQ hc3 ?_ (by rw [hc2]; kernel_rfl)
    refine YR 6 ?_
    refine zD (ltI f1.1 f1.2.2) (fun hc4 => ?_) (fun hc4 => ?_)
    ·refine YQ hc4 ?_
     exact YE (by rw [← ht6]; (try rw [hc3]); (try rw [hc2]); (try rw [hc4]); kernel_rfl)
    ·refine YQ hc4 ?_
     refine YR 6 ?_
     refine zD (eqI f1.1 f1.2.2) (fun hc5 => ?_) (fun hc5 => ?_)
     ·refine YQ hc5 ?_
      exact YE (by rw [← ht6]; (try rw [hc3]); (try rw [hc2]); (try rw [hc4]); (try rw [hc5]); kernel_rfl)
     ·refine YQ hc5 ?_
      exact YE (by rw [← ht6]; (try rw [hc3]); (try rw [hc2]); (try rw [hc4]); (try rw [hc5]); kernel_rfl)
   ·refine YQ hc3 ?_ (by rw [hc2]; kernel_rfl)
    exact YE (by rw [← ht6]; (try rw [hc3]); (try rw [hc2]); kernel_rfl)
  ·refine YQ hc2 ?_
   refine YR 7 ?_
   refine zD (bif (ltI (w64 (0 - f1.1)) f1.2.1) then (leI f1.2.1 f1.1) else false) (fun hc3 => ?_) (fun hc3 => ?_)
   ·refine YQ hc3 ?_ (by rw [hc2]; kernel_rfl)
    refine YR 6 ?_
    refine zD (ltI f1.1 f1.2.2) (fun hc4 => ?_) (fun hc4 => ?_)
    ·refine YQ hc4 ?_
     exact YE (by rw [← ht6]; (try rw [hc3]); (try rw [hc2]); (try rw [hc4]); kernel_rfl)
    ·refine YQ hc4 ?_
     refine YR 6 ?_
     refine zD (eqI f1.1 f1.2.2) (fun hc5 => ?_) (fun hc5 => ?_)
     ·refine YQ hc5 ?_
      exact YE (by rw [← ht6]; (try rw [hc3]); (try rw [hc2]); (try rw [hc4]); (try rw [hc5]); kernel_rfl)
     ·refine YQ hc5 ?_
      exact YE (by rw [← ht6]; (try rw [hc3]); (try rw [hc2]); (try rw [hc4]); (try rw [hc5]); kernel_rfl)
   ·refine YQ hc3 ?_ (by rw [hc2]; kernel_rfl)
    exact YE (by rw [← ht6]; (try rw [hc3]); (try rw [hc2]); kernel_rfl)
 cases h
 exact zE VT
theorem cf_spec_reAll : CfW Tryz.prog 287 := cfW Tryz.func287
theorem s_spec_reAll {d1 : Int} {r : List ((Int × Int × Int))} (h : r_spec_reAll d1 = some r) : zT Tryz.prog 287 [I d1] (.ow 0) [(0, .arr 38 3 (r.map c38))] := by
 refine CtW [2] Tryz.func287 rfl rfl 47 ?_
 unfold r_spec_reAll at h
 refine VS ?_
 refine L1 rfl rfl (zAU (e := 38) 3 (by decide) (.inl rfl)) ?_
 refine YF ?_
 refine VS ?_
 refine L1 rfl rfl (zAU (e := 38) 3 (by decide) (.inl rfl)) ?_
 refine YF ?_
 refine zJ ?_
 refine VE ?_
 obtain ⟨o5, hLo5, h⟩ := zA h
 refine zCV (mb 47 8) [24] (s1 := ⟨bt 3 (.ow 24 :: bt 43 []), [(24, .arr 38 3 (o5.map c38))]⟩) ?_ ?_
 ·clear h
  refine zN (jH (fun n s => ∃ (a2 : Int) (l3 : List ((Int × Int × Int))), s.keep (mb 47 25) [24] = (⟨I d1 :: .bot :: .bot :: .ow 24 :: I a2 :: bt 42 [], [(24, .arr 38 3 (l3.map c38))]⟩ : St) ∧ zBu d1 n a2 l3 = some o5) FU ⟨_, _,  kk, hLo5⟩ ?_)
  clear hLo5
  rintro n s ⟨a2, l3, hs, h⟩
  refine jE _ _ hs ?_
  clear hs
  cases n with
  | zero => cases h
  | succ n =>
   rw [zBu] at h
   refine zJ ?_
   refine VE ?_
   refine VC h (fun h => ?_) (fun h => ?_)
   ·refine zG ?_
    show V _ _ _ _
    refine zJ ?_
    refine zN ?_
    obtain ⟨b7, hb7, h⟩ := zS h
    refine zO (mb 47 57) [24] (s1 := ⟨I d1 :: .bot :: .bot :: .ow 24 :: I a2 :: I b7 :: bt 41 [], [(24, .arr 38 3 (l3.map c38))]⟩) ?_ ?_
    ·refine XR 3 ?_
     refine zK ?_
     subst hb7
     kernel_rfl
    obtain ⟨o11, hLo11, h⟩ := zA h
    refine zCV (mb 47 25) [24] (s1 := ⟨I d1 :: .bot :: .bot :: .ow 24 :: I a2 :: bt 42 [], [(24, .arr 38 3 (o11.map c38))]⟩) ?_ ?_
    ·clear h
     refine zN (jH (fun n s => ∃ (b8 : Int) (l9 : List ((Int × Int × Int))), s.keep (mb 47 57) [24] = (⟨I d1 :: .bot :: .bot :: .ow 24 :: I a2 :: I b8 :: bt 41 [], [(24, .arr 38 3 (l9.map c38))]⟩ : St) ∧ zAr a2 d1 n b8 l9 = some o11) FU ⟨_, _,  kk, hLo11⟩ ?_)
     clear hLo11
     rintro n s ⟨b8, l9, hs, h⟩
     refine jE _ _ hs ?_
     clear hs
     cases n with
     | zero => cases h
     | succ n =>
      rw [zAr] at h
      refine zJ ?_
      refine VE ?_
      refine VC h (fun h => ?_) (fun h => ?_)
      ·refine zG ?_
       show V _ _ _ _
       refine zJ ?_
       refine zN ?_
       obtain ⟨z13, hz13, h⟩ := zA h
       obtain ⟨f14, hf14, h⟩ := zS h
       refine zO (mb 47 121) [48, 24] (s1 := ⟨I d1 :: .bot :: .bot :: .ow 24 :: I a2 :: I b8 :: .pt 48 0 :: bt 40 [], [(48, .box [Ti a2, Ti b8, Ti f14]), (24, .arr 38 3 (l9.map c38))]⟩) ?_ ?_
       ·refine XR 9 ?_
        refine L0 rfl rfl (zAC (a := w64 ((w64 (b8 * b8)) - d1)) (b := w64 (4 * a2)) rfl kk kk (jT hz13)) ?_
        refine L0 rfl rfl (zW (cs := [Ti a2, Ti b8, Ti (w64 (Int.tdiv (w64 ((w64 (b8 * b8)) - d1)) (w64 (4 * a2))))]) pl38 bt38 rfl rfl kk) ?_
        refine XR 2 ?_
        refine zK ?_
        subst hf14
        kernel_rfl
       obtain ⟨y15, hy15, h⟩ := zA h
       obtain ⟨b18, hb18, h⟩ := zA h
       refine zO (mb 47 2199023255673) [48, 24] (s1 := ⟨I d1 :: .bot :: .bot :: .ow 24 :: I a2 :: I b8 :: .pt 48 0 :: bt 34 (Bo b18 :: bt 5 []), [(48, .box [Ti a2, Ti b8, Ti f14]), (24, .arr 38 3 (l9.map c38))]⟩) ?_ ?_
       ·refine YK 1 (zCP hy15) zBr ?_
        refine YR 3 ?_
        refine zD (eqI y15 d1) (fun hc16 => ?_) (fun hc16 => ?_)
        ·have hb18 := qM hb18 hc16
         obtain ⟨y17, hy17, hb18⟩ := zA hb18
         have hb18 := zB hb18
         refine YQ hc16 ?_
         refine YK 1 (s_spec_reIs hy17) cf_spec_reIs ?_
         exact YE (by rw [← hb18]; (try rw [hc16]); kernel_rfl)
        ·have hb18 := zB (qB hb18 hc16)
         refine YQ hc16 ?_
         exact YE (by rw [← hb18]; (try rw [hc16]); kernel_rfl)
       refine VC h (fun h => ?_) (fun h => ?_)
       ·obtain ⟨u20, hu20, h⟩ := zA h
        refine zX ?_
        refine YR 2 ?_
        refine L1 rfl rfl (qP (z := zv38) (els := [(a2, b8, f14)].map c38) Tryz.underlying59 iz38 rfl (by decide) rfl kk rfl (by simp [c38]) (by decide) (by decide)) ?_
        refine zM rfl (zBJ (c := c38) (xs := l9) (ys := [(a2, b8, f14)]) (id := 24) (z := zv38) rfl rfl Tryz.underlying59 izb38 rfl kk kk kk (fun _ => rfl) (by simp) (zAY hu20) (by decide)) ?_
        refine YF ?_
        show V _ _ _ _
        obtain ⟨b21, hb21, h⟩ := zS h
        refine jD (mb 47 57) [24] (s1 := ⟨I d1 :: .bot :: .bot :: .ow 24 :: I a2 :: I b21 :: bt 41 [], [(24, .arr 38 3 ((l9 ++ ([(a2, b8, f14)])).map c38))]⟩) ?_ ?_
        ·refine XR 3 ?_
         refine zK ?_
         subst hb21
         kernel_rfl
        exact ⟨n, Nat.lt_succ_self n, _, _,  kk, h⟩
       ·refine zG ?_
        show V _ _ _ _
        obtain ⟨b22, hb22, h⟩ := zS h
        refine jD (mb 47 57) [24] (s1 := ⟨I d1 :: .bot :: .bot :: .ow 24 :: I a2 :: I b22 :: bt 41 [], [(24, .arr 38 3 (l9.map c38))]⟩) ?_ ?_
        ·refine XR 3 ?_
         refine zK ?_
         subst hb22
         kernel_rfl
        exact ⟨n, Nat.lt_succ_self n, _, _,  kk, h⟩
      ·refine jA ?_
       obtain rfl := zB h
       show St.keep _ _ _ = _
       kernel_rfl
    show V _ _ _ _
    obtain ⟨a23, ha23, h⟩ := zS h
    refine jD (mb 47 25) [24] (s1 := ⟨I d1 :: .bot :: .bot :: .ow 24 :: I a23 :: bt 42 [], [(24, .arr 38 3 (o11.map c38))]⟩) ?_ ?_
    ·refine XR 3 ?_
     refine zK ?_
     subst ha23
     kernel_rfl
    exact ⟨n, Nat.lt_succ_self n, _, _,  kk, h⟩
   ·refine jA ?_
    obtain rfl := zB h
    show St.keep _ _ _ = _
    kernel_rfl
 show V _ _ _ _
 refine VE ?_
 cases h
 exact zE VT
theorem cf_spec_l1Abs : CfW Tryz.prog 158 := cfW Tryz.func158
theorem s_spec_l1Abs {vn1 : Int} {r : Int} (h : zCo vn1 = some r) : zT Tryz.prog 158 [I vn1] (I r) [] := by
 refine CtW [2] Tryz.func158 rfl rfl 7 ?_
 unfold zCo at h
 refine VE ?_
 obtain ⟨y2, hy2, h⟩ := zA h
 refine VS ?_
 refine YK 3 (s_spec_l1Most hy2) cf_spec_l1Most ?_
 refine YF ?_
 cases h
 exact zE VT
theorem zDG : CfW Tryz.prog 151 := cfW Tryz.func151
theorem zDY {a1 : Int} {b2 : Int} {r : Int} (h : zAl a1 b2 = some r) : zT Tryz.prog 151 [I a1, I b2] (I r) [] := by
 refine CtW [4] Tryz.func151 rfl rfl 16 ?_
 unfold zAl at h
 refine VE ?_
 obtain ⟨y3, hy3, h⟩ := zA h
 obtain ⟨y4, hy4, h⟩ := zA h
 refine VS ?_
 refine YK 1 (s_spec_l1Abs hy3) cf_spec_l1Abs ?_
 refine YK 1 (s_spec_l1Abs hy4) cf_spec_l1Abs ?_
 refine YF ?_
 refine zJ ?_
 obtain ⟨o8, hLo8, h⟩ := zA h
 refine zCV (mb 16 1) [] (s1 := ⟨I o8 :: bt 15 [], []⟩) ?_ ?_
 ·clear h
  refine zN (jH (fun n s => ∃ (a5 : Int) (b6 : Int), s.keep (mb 16 3) [] = (⟨I a5 :: I b6 :: bt 14 [], []⟩ : St) ∧ zAW n a5 b6 = some o8) FU ⟨_, _,  kk, hLo8⟩ ?_)
  clear hLo8
  rintro n s ⟨a5, b6, hs, h⟩
  refine jE _ _ hs ?_
  clear hs
  cases n with
  | zero => cases h
  | succ n =>
   rw [zAW] at h
   refine zJ ?_
   refine VE ?_
   refine VC h (fun h => ?_) (fun h => ?_)
   ·refine zG ?_
    show V _ _ _ _
    refine zN ?_
    obtain ⟨z10, hz10, h⟩ := zA h
    obtain ⟨b11, hb11, h⟩ := zS h
    refine V_dreg [0, 0, 0, 6, 3, 31] 6 (cdm 6 [168, 34, 522, 534, 165, 341]) (mb 16 3) [] (s1 := ⟨I b6 :: I b11 :: bt 14 [], []⟩) kk kk ?_ ?_
    ·refine DR 3 ?_
     refine DE_0 3 (I (Int.tmod a5 b6)) kk rfl rfl rfl (qO rfl) kk (Y0_rem (k := .i64) (a := a5) (b := b6) rfl kk kk (jT hz10)) 14 rfl ?_
     refine DA 2 ?_
     refine zK ?_
     subst hb11
     kernel_rfl
    exact ⟨n, Nat.lt_succ_self n, _, _,  kk, h⟩
   ·refine jA ?_
    obtain rfl := zB h
    show St.keep _ _ _ = _
    kernel_rfl
 show V _ _ _ _
 refine VE ?_
 cases h
 exact zE VT
theorem cf_spec_foContent : CfW Tryz.prog 182 := cfW Tryz.func182
theorem s_spec_foContent {f1 : (Int × Int × Int)} {r : Int} (h : zA1 f1 = some r) : zT Tryz.prog 182 [.ag [Ti f1.1, Ti f1.2.1, Ti f1.2.2]] (I r) [] := by
 refine CtW [2] Tryz.func182 rfl rfl 11 ?_
 unfold zA1 at h
 refine VE ?_
 obtain ⟨y2, hy2, h⟩ := zA h
 obtain ⟨y3, hy3, h⟩ := zA h
 refine VDS [0, 1, 0, 4, 15, 0, 32, 127, 255] 9 (cdm 9 [10400, 10401, 10250, 10266, 10325, 682, 1706, 5461, 21845]) ?_
 refine EK 4 (zDY hy2) zDG ?_
 refine EK 2 (zDY hy3) zDG ?_
 refine EF 1 ?_
 cases h
 exact zE VT
theorem cf_spec_reList : CfW Tryz.prog 251 := cfW Tryz.func251
theorem s_spec_reList {d1 : Int} {r : List ((Int × Int × Int))} (h : zDc d1 = some r) : zT Tryz.prog 251 [I d1] (.ow 0) [(0, .arr 38 3 (r.map c38))] := by
 refine CtW [2] Tryz.func251 rfl rfl 22 ?_
 unfold zDc at h
 refine VS ?_
 refine L1 rfl rfl (zAU (e := 38) 3 (by decide) (.inl rfl)) ?_
 refine YF ?_
 refine VS ?_
 refine L1 rfl rfl (zAU (e := 38) 3 (by decide) (.inl rfl)) ?_
 refine YF ?_
 refine zJ ?_
 obtain ⟨y2, hy2, h⟩ := zA h
 refine VS ?_
 refine YK 1 (s_spec_reAll hy2) cf_spec_reAll ?_
 refine L0 rfl rfl (qK (c := c38) (xs := y2) Tryz.underlying59 rfl kk) ?_
 refine YF ?_
 obtain ⟨o6, hLo6, h⟩ := zA h
 refine zCV (mb 22 8) [24] (s1 := ⟨bt 3 (.ow 24 :: bt 18 []), [(24, .arr 38 3 (o6.map c38))]⟩) ?_ ?_
 ·clear h
  refine zN (jH (fun n s => ∃ (t3 : Int) (l4 : List ((Int × Int × Int))), s.keep (mb 22 904) [56, 24] = (⟨bt 3 (.ow 24 :: bt 3 (.ow 56 :: I ((y2.length : Int)) :: I t3 :: bt 12 [])), [(56, .arr 38 3 (y2.map c38)), (24, .arr 38 3 (l4.map c38))]⟩ : St) ∧ zBS y2 n t3 l4 = some o6) FU ⟨_, _,  kk, hLo6⟩ ?_)
  clear hLo6
  rintro n s ⟨t3, l4, hs, h⟩
  refine jE _ _ hs ?_
  clear hs
  cases n with
  | zero => cases h
  | succ n =>
   rw [zBS] at h
   refine VE ?_
   refine zJ ?_
   refine VC h (fun h => ?_) (fun h => ?_)
   ·refine zG ?_
    show V _ _ _ _
    refine zJ ?_
    refine zN ?_
    obtain ⟨e8, he8, h⟩ := zA h
    obtain ⟨e9, he9, h⟩ := zA h
    refine VS ?_
    refine L0 rfl rfl (zAV (c := c38) (xs := y2) (v := e8) (id := 56) (T := 38) (sz := 3) (n := t3) Tryz.underlying59 sz38 rfl kk kk kk he8) ?_
    refine L0 rfl rfl (E_loadon (c := c38) (xs := y2) (v := e9) (id := 56) (sz := 3) (T := 38) (off := 0) (n := t3) [Ti e9.1, Ti e9.2.1, Ti e9.2.2] wd38 rfl kk kk he9 (Nat.le_of_ble_eq_true rfl) kk) ?_
    refine YF ?_
    obtain ⟨y10, hy10, h⟩ := zA h
    refine VS ?_
    refine YK 1 (s_spec_foContent hy10) cf_spec_foContent ?_
    refine YF ?_
    refine VC h (fun h => ?_) (fun h => ?_)
    ·obtain ⟨u12, hu12, h⟩ := zA h
     refine zX ?_
     refine YR 2 ?_
     refine L1 rfl rfl (qP (z := zv38) (els := [e9].map c38) Tryz.underlying59 iz38 rfl (by decide) rfl kk rfl (by simp [c38]) (by decide) (by decide)) ?_
     refine zM rfl (zBJ (c := c38) (xs := l4) (ys := [e9]) (id := 24) (z := zv38) rfl rfl Tryz.underlying59 izb38 rfl kk kk kk (fun _ => rfl) (by simp) (zAY hu12) (by decide)) ?_
     refine YF ?_
     show V _ _ _ _
     obtain ⟨t13, ht13, h⟩ := zS h
     refine jD (mb 22 904) [56, 24] (s1 := ⟨bt 3 (.ow 24 :: bt 3 (.ow 56 :: I ((y2.length : Int)) :: I t13 :: bt 12 [])), [(56, .arr 38 3 (y2.map c38)), (24, .arr 38 3 ((l4 ++ ([e9])).map c38))]⟩) ?_ ?_
     ·refine XR 2 ?_
      refine zK ?_
      subst ht13
      kernel_rfl
     exact ⟨n, Nat.lt_succ_self n, _, _,  kk, h⟩
    ·refine zG ?_
     show V _ _ _ _
     obtain ⟨t14, ht14, h⟩ := zS h
     refine jD (mb 22 904) [56, 24] (s1 := ⟨bt 3 (.ow 24 :: bt 3 (.ow 56 :: I ((y2.length : Int)) :: I t14 :: bt 12 [])), [(56, .arr 38 3 (y2.map c38)), (24, .arr 38 3 (l4.map c38))]⟩) ?_ ?_
     ·refine XR 2 ?_
      refine zK ?_
      subst ht14
      kernel_rfl
     exact ⟨n, Nat.lt_succ_self n, _, _,  kk, h⟩
   ·refine jA ?_
    obtain rfl := zB h
    show St.keep _ _ _ = _
    kernel_rfl
 show V _ _ _ _
 refine VE ?_
 cases h
 exact zE VT
theorem zDI : CfW Tryz.prog 197 := cfW Tryz.func197
theorem zDN {c1 : ((List Int) × Int × Int)} {d2 : Int} {r : (((Int × Int × Int)) × (((List Int) × Int × Int)))} (h : zAQ c1 d2 = some r) : zDz Tryz.prog 197 [.pt 80000 0, I d2] [(80000, .box [.sl (c1.1.map c5), Ti c1.2.1, .v (.int .u64 c1.2.2)])] (.ag [Ti r.1.1, Ti r.1.2.1, Ti r.1.2.2]) [] [(80000, .box [.sl (r.2.1.map c5), Ti r.2.2.1, .v (.int .u64 r.2.2.2)])] := by
 refine qZ (rs := [.w 4 3]) (vs := [.cell 4 38]) Tryz.func197 rfl rfl (.cons ⟨rfl, wd38⟩ FitsL.nil) (by decide) 15 rfl rfl fun σ => ?_
 unfold zAQ at h
 show V _ _ ⟨.pt 80000 0 :: I d2 :: bt 13 [], [(80000, .pbox (σ 80000) [.sl (c1.1.map c5), Ti c1.2.1, .v (.int .u64 c1.2.2)])]⟩ _
 refine VE ?_
 obtain ⟨y3, hy3, h⟩ := zA h
 refine VS ?_
 refine YK 1 (s_spec_reList hy3) cf_spec_reList ?_
 refine YF ?_
 obtain ⟨y4, hy4, h⟩ := zA h
 obtain ⟨e5, he5, h⟩ := zA h
 obtain ⟨e6, he6, h⟩ := zA h
 refine VS ?_
 refine YR 3 ?_
 refine L0 rfl rfl (qK (c := c38) (xs := y3) Tryz.underlying59 rfl kk) ?_
 refine zM rfl (zV [(80000, 80000)] 12 (zL hy4) zH rfl rfl kk rfl (zU kk zZ) rfl kk rfl rfl rfl) ?_
 refine L0 rfl rfl (zAV (c := c38) (xs := y3) (v := e5) (id := 56) (T := 38) (sz := 3) (n := y4.1) Tryz.underlying59 sz38 rfl kk kk kk he5) ?_
 refine L0 rfl rfl (E_loadon (c := c38) (xs := y3) (v := e6) (id := 56) (sz := 3) (T := 38) (off := 0) (n := y4.1) [Ti e6.1, Ti e6.2.1, Ti e6.2.2] wd38 rfl kk kk he6 (Nat.le_of_ble_eq_true rfl) kk) ?_
 refine YF ?_
 cases h
 exact zE VTR
theorem zCU : CfW Tryz.prog 237 := cfW Tryz.func237
theorem zCl {vm1 : (Int × Int × Int × Int)} {vn2 : (Int × Int × Int × Int)} {r : (Int × Int × Int × Int)} (h : qJ vm1 vn2 = some r) : zT Tryz.prog 237 [.ag [Ti vm1.1, Ti vm1.2.1, Ti vm1.2.2.1, Ti vm1.2.2.2], .ag [Ti vn2.1, Ti vn2.2.1, Ti vn2.2.2.1, Ti vn2.2.2.2]] (.ag [Ti r.1, Ti r.2.1, Ti r.2.2.1, Ti r.2.2.2]) [] := by
 refine zY (rs := [.w 4 4]) (vs := [.cell 4 109]) Tryz.func237 rfl rfl (.cons ⟨rfl, wd109⟩ FitsL.nil) (by decide) 50 rfl ?_
 unfold qJ at h
 refine VE ?_
 obtain ⟨f3, hf3, h⟩ := zS h
 obtain ⟨f4, hf4, h⟩ := zS h
 obtain ⟨f5, hf5, h⟩ := zS h
 obtain ⟨f6, hf6, h⟩ := zS h
 refine zO (mb 50 16) [32] (s1 := ⟨bt 4 (.pt 32 0 :: bt 45 []), [(32, .box [Ti f3, Ti f4, Ti f5, Ti f6])]⟩) ?_ ?_
 ·refine XR 44 ?_
  refine L0 rfl rfl (zW (cs := [Ti (w64 ((w64 (vm1.1 * vn2.1)) + (w64 (vm1.2.1 * vn2.2.2.1)))), Ti (w64 ((w64 (vm1.1 * vn2.2.1)) + (w64 (vm1.2.1 * vn2.2.2.2)))), Ti (w64 ((w64 (vm1.2.2.1 * vn2.1)) + (w64 (vm1.2.2.2 * vn2.2.2.1)))), Ti (w64 ((w64 (vm1.2.2.1 * vn2.2.1)) + (w64 (vm1.2.2.2 * vn2.2.2.2))))]) zEK bt109 rfl rfl kk) ?_
  refine XR 1 ?_
  refine zK ?_
  subst hf3 hf4 hf5 hf6
  kernel_rfl
 cases h
 exact zE VT
theorem zCM : CfW Tryz.prog 199 := cfW Tryz.func199
theorem zCX {c1 : ((List Int) × Int × Int)} {r : (((Int × Int × Int × Int)) × (((List Int) × Int × Int)))} (h : zBe c1 = some r) : zDz Tryz.prog 199 [.pt 80000 0] [(80000, .box [.sl (c1.1.map c5), Ti c1.2.1, .v (.int .u64 c1.2.2)])] (.ag [Ti r.1.1, Ti r.1.2.1, Ti r.1.2.2.1, Ti r.1.2.2.2]) [] [(80000, .box [.sl (r.2.1.map c5), Ti r.2.2.1, .v (.int .u64 r.2.2.2)])] := by
 refine qZ (rs := [.w 2 4]) (vs := [.cell 2 109]) Tryz.func199 rfl rfl (.cons ⟨rfl, wd109⟩ FitsL.nil) (by decide) 34 rfl rfl fun σ => ?_
 unfold zBe at h
 show V _ _ ⟨.pt 80000 0 :: bt 33 [], [(80000, .pbox (σ 80000) [.sl (c1.1.map c5), Ti c1.2.1, .v (.int .u64 c1.2.2)])]⟩ _
 refine VE ?_
 refine VS ?_
 refine L0 rfl rfl (zW (cs := [Ti 1, Ti 0, Ti 0, Ti 1]) zEK bt109 rfl rfl kk) ?_
 refine YF ?_
 refine zJ ?_
 obtain ⟨y2, hy2, h⟩ := zA h
 refine VS ?_
 refine YR 1 ?_
 refine zM rfl (zV [(80000, 80000)] 8 (zL hy2) zH rfl rfl kk rfl (zU kk zZ) rfl kk rfl rfl rfl) ?_
 refine YF ?_
 obtain ⟨o12, hLo12, h⟩ := zA h
 refine zCV (mb 34 12) [24, 16, 80000] (s1 := ⟨.bot :: .bot :: .pt 16 0 :: .pt 24 0 :: bt 30 [], [(24, .box [Ti o12.1, Ti o12.2.1, Ti o12.2.2.1, Ti o12.2.2.2.1]), (16, .box [Ti 0, Ti 0, Ti 0, Ti 0]), (80000, .pbox (σ 80000) [.sl (o12.2.2.2.2.1.map c5), Ti o12.2.2.2.2.2.1, .v (.int .u64 o12.2.2.2.2.2.2)])]⟩) ?_ ?_
 ·clear h
  refine zN (jH (fun n s => ∃ (k3 : Int) (f4 : Int) (f5 : Int) (f6 : Int) (f7 : Int) (f8 : List Int) (f9 : Int) (f10 : Int), s.keep (mb 34 29) [24, 16, 80000] = (⟨.pt 80000 0 :: .bot :: .pt 16 0 :: .pt 24 0 :: I k3 :: bt 29 [], [(24, .box [Ti f4, Ti f5, Ti f6, Ti f7]), (16, .box [Ti 0, Ti 0, Ti 0, Ti 0]), (80000, .pbox (σ 80000) [.sl (f8.map c5), Ti f9, .v (.int .u64 f10)])]⟩ : St) ∧ qV n k3 f4 f5 f6 f7 f8 f9 f10 = some o12) FU ⟨_, _, _, _, _, _, _, _,  kk, hLo12⟩ ?_)
  clear hLo12
  rintro n s ⟨k3, f4, f5, f6, f7, f8, f9, f10, hs, h⟩
  refine jE _ _ hs ?_
  clear hs
  cases n with
  | zero => cases h
  | succ n =>
   rw [qV] at h
   refine zJ ?_
   refine VE ?_
   refine VC h (fun h => ?_) (fun h => ?_)
   ·refine zG ?_
    show V _ _ _ _
    refine zJ ?_
    refine zN ?_
    obtain ⟨y14, hy14, h⟩ := zA h
    obtain ⟨t15, ht15, h⟩ := zS h
    refine zO (mb 34 61) [24, 16, 80000] (s1 := ⟨.pt 80000 0 :: .bot :: .pt 16 0 :: .pt 24 0 :: I k3 :: I t15 :: bt 28 [], [(24, .box [Ti f4, Ti f5, Ti f6, Ti f7]), (16, .box [Ti 0, Ti 0, Ti 0, Ti 0]), (80000, .pbox (σ 80000) [.sl (y14.2.1.map c5), Ti y14.2.2.1, .v (.int .u64 y14.2.2.2)])]⟩) ?_ ?_
    ·refine XR 1 ?_
     refine zM rfl (zV [(80000, 80000)] 14 (zL hy14) zH rfl rfl kk rfl (zU kk zZ) rfl kk rfl rfl rfl) ?_
     refine XR 2 ?_
     refine zK ?_
     subst ht15
     kernel_rfl
    obtain ⟨y16, hy16, h⟩ := zA h
    refine VS ?_
    refine YR 1 ?_
    refine zM rfl (zV [(80000, 80000)] 17 (zL hy16) zH rfl rfl kk rfl (zU kk zZ) rfl kk rfl rfl rfl) ?_
    refine YF ?_
    refine zN ?_
    refine VE ?_
    refine VC h (fun h => ?_) (fun h => ?_)
    ·obtain ⟨y18, hy18, h⟩ := zA h
     refine zX ?_
     refine YR 2 ?_
     refine L0 rfl rfl (zW (cs := [Ti 1, Ti t15, Ti 0, Ti 1]) zEK bt109 rfl rfl kk) ?_
     refine YK 0 (zCl hy18) zCU ?_
     refine YF ?_
     show V _ _ _ _
     obtain ⟨k19, hk19, h⟩ := zS h
     refine jD (mb 34 29) [24, 16, 80000] (s1 := ⟨.pt 80000 0 :: .bot :: .pt 16 0 :: .pt 24 0 :: I k19 :: bt 29 [], [(24, .box [Ti y18.1, Ti y18.2.1, Ti y18.2.2.1, Ti y18.2.2.2]), (16, .box [Ti 0, Ti 0, Ti 0, Ti 0]), (80000, .pbox (σ 80000) [.sl (y16.2.1.map c5), Ti y16.2.2.1, .v (.int .u64 y16.2.2.2)])]⟩) ?_ ?_
     ·refine XR 3 ?_
      refine zK ?_
      subst hk19
      kernel_rfl
     exact ⟨n, Nat.lt_succ_self n, _, _, _, _, _, _, _, _,  kk, h⟩
    ·refine VE ?_
     refine VC h (fun h => ?_) (fun h => ?_)
     ·obtain ⟨y21, hy21, h⟩ := zA h
      refine zX ?_
      refine YR 2 ?_
      refine L0 rfl rfl (zW (cs := [Ti 1, Ti 0, Ti t15, Ti 1]) zEK bt109 rfl rfl kk) ?_
      refine YK 0 (zCl hy21) zCU ?_
      refine YF ?_
      show V _ _ _ _
      obtain ⟨k22, hk22, h⟩ := zS h
      refine jD (mb 34 29) [24, 16, 80000] (s1 := ⟨.pt 80000 0 :: .bot :: .pt 16 0 :: .pt 24 0 :: I k22 :: bt 29 [], [(24, .box [Ti y21.1, Ti y21.2.1, Ti y21.2.2.1, Ti y21.2.2.2]), (16, .box [Ti 0, Ti 0, Ti 0, Ti 0]), (80000, .pbox (σ 80000) [.sl (y16.2.1.map c5), Ti y16.2.2.1, .v (.int .u64 y16.2.2.2)])]⟩) ?_ ?_
      ·refine XR 3 ?_
       refine zK ?_
       subst hk22
       kernel_rfl
      exact ⟨n, Nat.lt_succ_self n, _, _, _, _, _, _, _, _,  kk, h⟩
     ·obtain ⟨y23, hy23, h⟩ := zA h
      refine zX ?_
      refine YR 1 ?_
      refine L0 rfl rfl (zW (cs := [Ti 0, Ti (-1), Ti 1, Ti 0]) zEK bt109 rfl rfl kk) ?_
      refine YK 0 (zCl hy23) zCU ?_
      refine YF ?_
      show V _ _ _ _
      obtain ⟨k24, hk24, h⟩ := zS h
      refine jD (mb 34 29) [24, 16, 80000] (s1 := ⟨.pt 80000 0 :: .bot :: .pt 16 0 :: .pt 24 0 :: I k24 :: bt 29 [], [(24, .box [Ti y23.1, Ti y23.2.1, Ti y23.2.2.1, Ti y23.2.2.2]), (16, .box [Ti 0, Ti 0, Ti 0, Ti 0]), (80000, .pbox (σ 80000) [.sl (y16.2.1.map c5), Ti y16.2.2.1, .v (.int .u64 y16.2.2.2)])]⟩) ?_ ?_
      ·refine XR 3 ?_
       refine zK ?_
       subst hk24
       kernel_rfl
      exact ⟨n, Nat.lt_succ_self n, _, _, _, _, _, _, _, _,  kk, h⟩
   ·refine jA ?_
    obtain rfl := zB h
    show St.keep _ _ _ = _
    kernel_rfl
 show V _ _ _ _
 refine VE ?_
 cases h
 exact zE VTR
theorem zDq : CfW Tryz.prog 150 := cfW Tryz.func150
theorem zEG {f1 : (Int × Int × Int)} {x2 : Int} {y3 : Int} {r : Int} (h : zBA f1 x2 y3 = some r) : zT Tryz.prog 150 [.ag [Ti f1.1, Ti f1.2.1, Ti f1.2.2], I x2, I y3] (I r) [] := by
 refine CtW [6] Tryz.func150 rfl rfl 27 ?_
 unfold zBA at h
 refine VE ?_
 obtain ⟨t4, ht4, h⟩ := zS h
 refine zO (mb 27 64) [] (s1 := ⟨bt 6 (I t4 :: bt 20 []), []⟩) ?_ ?_
 ·refine XR 21 ?_
  refine zK ?_
  subst ht4
  kernel_rfl
 cases h
 exact zE VT
theorem cf_spec_foPolar : CfW Tryz.prog 252 := cfW Tryz.func252
theorem s_spec_foPolar {f1 : (Int × Int × Int)} {x2 : Int} {y3 : Int} {u4 : Int} {v5 : Int} {r : Int} (h : zC8 f1 x2 y3 u4 v5 = some r) : zT Tryz.prog 252 [.ag [Ti f1.1, Ti f1.2.1, Ti f1.2.2], I x2, I y3, I u4, I v5] (I r) [] := by
 refine CtW [10] Tryz.func252 rfl rfl 37 ?_
 unfold zC8 at h
 refine VE ?_
 obtain ⟨t6, ht6, h⟩ := zS h
 refine zO (mb 37 1024) [] (s1 := ⟨bt 10 (I t6 :: bt 26 []), []⟩) ?_ ?_
 ·refine XR 27 ?_
  refine zK ?_
  subst ht6
  kernel_rfl
 cases h
 exact zE VT
theorem cf_spec_foAct : CfW Tryz.prog 198 := cfW Tryz.func198
theorem s_spec_foAct {f1 : (Int × Int × Int)} {vm2 : (Int × Int × Int × Int)} {r : (Int × Int × Int)} (h : zCq f1 vm2 = some r) : zT Tryz.prog 198 [.ag [Ti f1.1, Ti f1.2.1, Ti f1.2.2], .ag [Ti vm2.1, Ti vm2.2.1, Ti vm2.2.2.1, Ti vm2.2.2.2]] (.ag [Ti r.1, Ti r.2.1, Ti r.2.2]) [] := by
 refine zY (rs := [.w 4 3]) (vs := [.cell 4 38]) Tryz.func198 rfl rfl (.cons ⟨rfl, wd38⟩ FitsL.nil) (by decide) 28 rfl ?_
 unfold zCq at h
 refine VE ?_
 obtain ⟨y3, hy3, h⟩ := zA h
 obtain ⟨y4, hy4, h⟩ := zA h
 obtain ⟨y5, hy5, h⟩ := zA h
 refine VDS [0, 0, 2, 0, 8, 31, 0, 0, 128, 0, 512, 0, 2048, 0, 8192, 32767, 0, 0, 131072, 0, 524288, 2097151, 4194303, 8388607] 23 (cdm 23 [2929883521704, 2929883521666, 2929883521670, 2929883521066, 2929883521130, 2929883521365, 2929883515562, 2929883359914, 2929883376298, 2929880902314, 2929881164458, 2929841580714, 2929845775018, 2929212435114, 2929279543978, 2929525609813, 2923441072810, 2760232315562, 2777412184746, 183251937962, 458129844906, 1466015503701, 5864062014805]) ?_
 refine EK 5 (zEG hy3) zDq ?_
 refine EK 9 (s_spec_foPolar hy4) cf_spec_foPolar ?_
 refine EK 5 (zEG hy5) zDq ?_
 refine E0 22 rfl rfl (zW (cs := [Ti y3, Ti y4, Ti y5]) pl38 bt38 rfl rfl kk) ?_
 refine EF 0 ?_
 cases h
 exact zE VT
theorem cf_spec_nuGood : CfW Tryz.prog 211 := cfW Tryz.func211
theorem s_spec_nuGood {vn1 : Int} {r : Bool} (h : zCQ vn1 = some r) : zT Tryz.prog 211 [I vn1] (Bo r) [] := by
 refine CtW [2] Tryz.func211 rfl rfl 5 ?_
 unfold zCQ at h
 refine VE ?_
 obtain ⟨y2, hy2, h⟩ := zA h
 refine VS ?_
 refine YK 1 (zDv hy2) zD4 ?_
 refine YF ?_
 cases h
 exact zE VT
theorem cf_spec_foGood : CfW Tryz.prog 200 := cfW Tryz.func200
theorem s_spec_foGood {f1 : (Int × Int × Int)} {r : Bool} (h : zDE f1 = some r) : zT Tryz.prog 200 [.ag [Ti f1.1, Ti f1.2.1, Ti f1.2.2]] (Bo r) [] := by
 refine CtW [2] Tryz.func200 rfl rfl 16 ?_
 unfold zDE at h
 refine VE ?_
 obtain ⟨y2, hy2, h⟩ := zA h
 obtain ⟨b5, hb5, h⟩ := zA h
 obtain ⟨b8, hb8, h⟩ := zA h
 refine zO (mb 16 4) [] (s1 := ⟨.bot :: .bot :: Bo b8 :: bt 13 [], []⟩) ?_ ?_
 ·refine YK 2 (s_spec_nuGood hy2) cf_spec_nuGood ?_
  refine YR 1 ?_
  refine zD y2 (fun hc3 => ?_) (fun hc3 => ?_)
  ·have hb5 := qM hb5 hc3
   obtain ⟨y4, hy4, hb5⟩ := zA hb5
   have hb5 := zB hb5
   refine YQ hc3 ?_
   refine YK 2 (s_spec_nuGood hy4) cf_spec_nuGood ?_
   refine YR 2 ?_
   refine zD b5 (fun hc6 => ?_) (fun hc6 => ?_)
   ·have hb8 := qM hb8 hc6
    obtain ⟨y7, hy7, hb8⟩ := zA hb8
    have hb8 := zB hb8
    refine YQ hc6 ?_ (by rw [← hb5]; (try rw [← hb8]); (try rw [hc3]); kernel_rfl)
    refine YK 2 (s_spec_nuGood hy7) cf_spec_nuGood ?_
    exact YE (by rw [← hb8]; (try rw [hc3]); (try rw [hc6]); kernel_rfl)
   ·have hb8 := zB (qB hb8 hc6)
    refine YQ hc6 ?_ (by rw [← hb5]; (try rw [← hb8]); (try rw [hc3]); kernel_rfl)
    exact YE (by rw [← hb8]; (try rw [hc3]); (try rw [hc6]); kernel_rfl)
  ·have hb5 := zB (qB hb5 hc3)
   refine YQ hc3 ?_
   refine YR 5 ?_
   subst hb5
   have hc6 : false = false := rfl
   have hb8 := zB (qB hb8 hc6)
   exact YE (by rw [← hb8]; (try rw [hc3]); kernel_rfl)
 cases h
 exact zE VT
theorem zCZ : CfW Tryz.prog 123 := cfW Tryz.func123
theorem zCj {c1 : ((List Int) × Int × Int)} {f2 : (Int × Int × Int)} {r : (((Int × Int × Int)) × (((List Int) × Int × Int)))} (h : jX c1 f2 = some r) : zDz Tryz.prog 123 [.pt 80000 0, .ag [Ti f2.1, Ti f2.2.1, Ti f2.2.2]] [(80000, .box [.sl (c1.1.map c5), Ti c1.2.1, .v (.int .u64 c1.2.2)])] (.ag [Ti r.1.1, Ti r.1.2.1, Ti r.1.2.2]) [] [(80000, .box [.sl (r.2.1.map c5), Ti r.2.2.1, .v (.int .u64 r.2.2.2)])] := by
 refine qZ (rs := [.w 4 3]) (vs := [.cell 4 38]) Tryz.func123 rfl rfl (.cons ⟨rfl, wd38⟩ FitsL.nil) (by decide) 15 rfl rfl fun σ => ?_
 unfold jX at h
 show V _ _ ⟨.pt 80000 0 :: .ag [Ti f2.1, Ti f2.2.1, Ti f2.2.2] :: bt 13 [], [(80000, .pbox (σ 80000) [.sl (c1.1.map c5), Ti c1.2.1, .v (.int .u64 c1.2.2)])]⟩ _
 refine VE ?_
 obtain ⟨y3, hy3, h⟩ := zA h
 obtain ⟨y4, hy4, h⟩ := zA h
 refine jE (mb 15 25) [32, 24, 80000] (s' := ⟨.pt 80000 0 :: .bot :: .bot :: .pt 24 0 :: .pt 32 0 :: bt 10 [], [(32, .box [Ti 0, Ti 0, Ti 0]), (24, .box [Ti f2.1, Ti f2.2.1, Ti f2.2.2]), (80000, .pbox (σ 80000) [.sl (c1.1.map c5), Ti c1.2.1, .v (.int .u64 c1.2.2)])]⟩) kk ?_
 refine V_sdagK (mb 15 56) [40, 32, 24, 80000] [0, 0, 2, 7, 0, 31] [(0, ⟨.pt 80000 0 :: .bot :: .bot :: .pt 24 0 :: .pt 32 0 :: bt 10 [], [(32, .box [Ti 0, Ti 0, Ti 0]), (24, .box [Ti f2.1, Ti f2.2.1, Ti f2.2.2]), (80000, .pbox (σ 80000) [.sl (c1.1.map c5), Ti c1.2.1, .v (.int .u64 c1.2.2)])]⟩), (1, ⟨.pt 80000 0 :: .bot :: .bot :: .pt 24 0 :: .pt 32 0 :: .bot :: .ag [Ti f2.1, Ti f2.2.1, Ti f2.2.2] :: bt 8 [], [(32, .box [Ti 0, Ti 0, Ti 0]), (24, .box [Ti f2.1, Ti f2.2.1, Ti f2.2.2]), (80000, .pbox (σ 80000) [.sl (c1.1.map c5), Ti c1.2.1, .v (.int .u64 c1.2.2)])]⟩), (2, ⟨.pt 80000 0 :: .bot :: .bot :: .pt 24 0 :: .pt 32 0 :: .bot :: .bot :: .pt 80000 0 :: bt 7 [], [(32, .box [Ti 0, Ti 0, Ti 0]), (24, .box [Ti f2.1, Ti f2.2.1, Ti f2.2.2]), (80000, .pbox (σ 80000) [.sl (c1.1.map c5), Ti c1.2.1, .v (.int .u64 c1.2.2)])]⟩), (3, ⟨.pt 80000 0 :: .bot :: .bot :: .pt 24 0 :: .pt 32 0 :: .bot :: .ag [Ti f2.1, Ti f2.2.1, Ti f2.2.2] :: .pt 80000 0 :: bt 7 [], [(32, .box [Ti 0, Ti 0, Ti 0]), (24, .box [Ti f2.1, Ti f2.2.1, Ti f2.2.2]), (80000, .pbox (σ 80000) [.sl (c1.1.map c5), Ti c1.2.1, .v (.int .u64 c1.2.2)])]⟩), (6, ⟨.pt 80000 0 :: .bot :: .bot :: .pt 24 0 :: .pt 32 0 :: .bot :: .bot :: .pt 80000 0 :: .ag [Ti y3.1.1, Ti y3.1.2.1, Ti y3.1.2.2.1, Ti y3.1.2.2.2] :: bt 6 [], [(32, .box [Ti 0, Ti 0, Ti 0]), (24, .box [Ti f2.1, Ti f2.2.1, Ti f2.2.2]), (80000, .pbox (σ 80000) [.sl (y3.2.1.map c5), Ti y3.2.2.1, .v (.int .u64 y3.2.2.2)])]⟩), (7, ⟨.pt 80000 0 :: .bot :: .bot :: .pt 24 0 :: .pt 32 0 :: .bot :: .ag [Ti f2.1, Ti f2.2.1, Ti f2.2.2] :: .pt 80000 0 :: .ag [Ti y3.1.1, Ti y3.1.2.1, Ti y3.1.2.2.1, Ti y3.1.2.2.2] :: bt 6 [], [(32, .box [Ti 0, Ti 0, Ti 0]), (24, .box [Ti f2.1, Ti f2.2.1, Ti f2.2.2]), (80000, .pbox (σ 80000) [.sl (y3.2.1.map c5), Ti y3.2.2.1, .v (.int .u64 y3.2.2.2)])]⟩), (15, ⟨.pt 80000 0 :: .bot :: .bot :: .pt 24 0 :: .pt 32 0 :: .bot :: .ag [Ti f2.1, Ti f2.2.1, Ti f2.2.2] :: .pt 80000 0 :: .ag [Ti y3.1.1, Ti y3.1.2.1, Ti y3.1.2.2.1, Ti y3.1.2.2.2] :: .ag [Ti y4.1, Ti y4.2.1, Ti y4.2.2] :: bt 5 [], [(32, .box [Ti 0, Ti 0, Ti 0]), (24, .box [Ti f2.1, Ti f2.2.1, Ti f2.2.2]), (80000, .pbox (σ 80000) [.sl (y3.2.1.map c5), Ti y3.2.2.1, .v (.int .u64 y3.2.2.2)])]⟩), (16, ⟨.pt 80000 0 :: .bot :: .bot :: .pt 24 0 :: .pt 32 0 :: .pt 40 0 :: bt 9 [], [(40, .box [Ti 0, Ti 0, Ti 0]), (32, .box [Ti 0, Ti 0, Ti 0]), (24, .box [Ti f2.1, Ti f2.2.1, Ti f2.2.2]), (80000, .pbox (σ 80000) [.sl (c1.1.map c5), Ti c1.2.1, .v (.int .u64 c1.2.2)])]⟩), (17, ⟨.pt 80000 0 :: .bot :: .bot :: .pt 24 0 :: .pt 32 0 :: .pt 40 0 :: .ag [Ti f2.1, Ti f2.2.1, Ti f2.2.2] :: bt 8 [], [(40, .box [Ti 0, Ti 0, Ti 0]), (32, .box [Ti 0, Ti 0, Ti 0]), (24, .box [Ti f2.1, Ti f2.2.1, Ti f2.2.2]), (80000, .pbox (σ 80000) [.sl (c1.1.map c5), Ti c1.2.1, .v (.int .u64 c1.2.2)])]⟩), (18, ⟨.pt 80000 0 :: .bot :: .bot :: .pt 24 0 :: .pt 32 0 :: .pt 40 0 :: .bot :: .pt 80000 0 :: bt 7 [], [(40, .box [Ti 0, Ti 0, Ti 0]), (32, .box [Ti 0, Ti 0, Ti 0]), (24, .box [Ti f2.1, Ti f2.2.1, Ti f2.2.2]), (80000, .pbox (σ 80000) [.sl (c1.1.map c5), Ti c1.2.1, .v (.int .u64 c1.2.2)])]⟩), (19, ⟨.pt 80000 0 :: .bot :: .bot :: .pt 24 0 :: .pt 32 0 :: .pt 40 0 :: .ag [Ti f2.1, Ti f2.2.1, Ti f2.2.2] :: .pt 80000 0 :: bt 7 [], [(40, .box [Ti 0, Ti 0, Ti 0]), (32, .box [Ti 0, Ti 0, Ti 0]), (24, .box [Ti f2.1, Ti f2.2.1, Ti f2.2.2]), (80000, .pbox (σ 80000) [.sl (c1.1.map c5), Ti c1.2.1, .v (.int .u64 c1.2.2)])]⟩), (22, ⟨.pt 80000 0 :: .bot :: .bot :: .pt 24 0 :: .pt 32 0 :: .pt 40 0 :: .bot :: .pt 80000 0 :: .ag [Ti y3.1.1, Ti y3.1.2.1, Ti y3.1.2.2.1, Ti y3.1.2.2.2] :: bt 6 [], [(40, .box [Ti 0, Ti 0, Ti 0]), (32, .box [Ti 0, Ti 0, Ti 0]), (24, .box [Ti f2.1, Ti f2.2.1, Ti f2.2.2]), (80000, .pbox (σ 80000) [.sl (y3.2.1.map c5), Ti y3.2.2.1, .v (.int .u64 y3.2.2.2)])]⟩), (23, ⟨.pt 80000 0 :: .bot :: .bot :: .pt 24 0 :: .pt 32 0 :: .pt 40 0 :: .ag [Ti f2.1, Ti f2.2.1, Ti f2.2.2] :: .pt 80000 0 :: .ag [Ti y3.1.1, Ti y3.1.2.1, Ti y3.1.2.2.1, Ti y3.1.2.2.2] :: bt 6 [], [(40, .box [Ti 0, Ti 0, Ti 0]), (32, .box [Ti 0, Ti 0, Ti 0]), (24, .box [Ti f2.1, Ti f2.2.1, Ti f2.2.2]), (80000, .pbox (σ 80000) [.sl (y3.2.1.map c5), Ti y3.2.2.1, .v (.int .u64 y3.2.2.2)])]⟩), (31, ⟨.pt 80000 0 :: .bot :: .bot :: .pt 24 0 :: .pt 32 0 :: .pt 40 0 :: .ag [Ti f2.1, Ti f2.2.1, Ti f2.2.2] :: .pt 80000 0 :: .ag [Ti y3.1.1, Ti y3.1.2.1, Ti y3.1.2.2.1, Ti y3.1.2.2.2] :: .ag [Ti y4.1, Ti y4.2.1, Ti y4.2.2] :: bt 5 [], [(40, .box [Ti 0, Ti 0, Ti 0]), (32, .box [Ti 0, Ti 0, Ti 0]), (24, .box [Ti f2.1, Ti f2.2.1, Ti f2.2.2]), (80000, .pbox (σ 80000) [.sl (y3.2.1.map c5), Ti y3.2.2.1, .v (.int .u64 y3.2.2.2)])]⟩), (63, ⟨.pt 80000 0 :: .bot :: .bot :: .pt 24 0 :: .pt 32 0 :: .pt 40 0 :: .ag [Ti f2.1, Ti f2.2.1, Ti f2.2.2] :: .pt 80000 0 :: .ag [Ti y3.1.1, Ti y3.1.2.1, Ti y3.1.2.2.1, Ti y3.1.2.2.2] :: .ag [Ti y4.1, Ti y4.2.1, Ti y4.2.2] :: bt 5 [], [(40, .box [Ti y4.1, Ti y4.2.1, Ti y4.2.2]), (32, .box [Ti 0, Ti 0, Ti 0]), (24, .box [Ti f2.1, Ti f2.2.1, Ti f2.2.2]), (80000, .pbox (σ 80000) [.sl (y3.2.1.map c5), Ti y3.2.2.1, .v (.int .u64 y3.2.2.2)])]⟩)] (s1 := ⟨bt 3 (.pt 24 0 :: .pt 32 0 :: .pt 40 0 :: bt 9 []), [(40, .box [Ti y4.1, Ti y4.2.1, Ti y4.2.2]), (32, .box [Ti 0, Ti 0, Ti 0]), (24, .box [Ti f2.1, Ti f2.2.1, Ti f2.2.2]), (80000, .pbox (σ 80000) [.sl (y3.2.1.map c5), Ti y3.2.2.1, .v (.int .u64 y3.2.2.2)])]⟩) kk kk kk ?_ ?_
 ·refine zDJ [4, 1, 0] kk kk ?_ ?_
  ·refine jN (s2 := ⟨.pt 80000 0 :: .bot :: .bot :: .pt 24 0 :: .pt 32 0 :: .pt 40 0 :: bt 9 [], [(40, .box [Ti 0, Ti 0, Ti 0]), (32, .box [Ti 0, Ti 0, Ti 0]), (24, .box [Ti f2.1, Ti f2.2.1, Ti f2.2.2]), (80000, .pbox (σ 80000) [.sl (c1.1.map c5), Ti c1.2.1, .v (.int .u64 c1.2.2)])]⟩) rfl rfl (zD5 rfl (Y1_alloc (z := zv38) rfl zf38 rfl)) kk rfl (zR kk (zR kk (zR kk (zR kk zBh)))) ?_
   refine jN (s2 := ⟨.pt 80000 0 :: .bot :: .bot :: .pt 24 0 :: .pt 32 0 :: .bot :: .bot :: .pt 80000 0 :: bt 7 [], [(32, .box [Ti 0, Ti 0, Ti 0]), (24, .box [Ti f2.1, Ti f2.2.1, Ti f2.2.2]), (80000, .pbox (σ 80000) [.sl (c1.1.map c5), Ti c1.2.1, .v (.int .u64 c1.2.2)])]⟩) rfl rfl (qD rfl (E_move (.pt 80000 0) rfl kk)) kk rfl (zR kk (zR kk (zR kk zBh))) ?_
   refine jN (s2 := ⟨.pt 80000 0 :: .bot :: .bot :: .pt 24 0 :: .pt 32 0 :: .bot :: .ag [Ti f2.1, Ti f2.2.1, Ti f2.2.2] :: bt 8 [], [(32, .box [Ti 0, Ti 0, Ti 0]), (24, .box [Ti f2.1, Ti f2.2.1, Ti f2.2.2]), (80000, .pbox (σ 80000) [.sl (c1.1.map c5), Ti c1.2.1, .v (.int .u64 c1.2.2)])]⟩) rfl rfl (qD rfl (E_loadn (cs := [Ti f2.1, Ti f2.2.1, Ti f2.2.2]) [Ti f2.1, Ti f2.2.1, Ti f2.2.2] wd38 rfl kk (Nat.le_of_ble_eq_true rfl) kk)) kk rfl (zR kk (zR kk (zR kk zBh))) ?_
   exact zCC
  refine zDJ [4, 1] kk kk ?_ ?_
  ·refine jN (s2 := ⟨.pt 80000 0 :: .bot :: .bot :: .pt 24 0 :: .pt 32 0 :: .pt 40 0 :: .ag [Ti f2.1, Ti f2.2.1, Ti f2.2.2] :: bt 8 [], [(40, .box [Ti 0, Ti 0, Ti 0]), (32, .box [Ti 0, Ti 0, Ti 0]), (24, .box [Ti f2.1, Ti f2.2.1, Ti f2.2.2]), (80000, .pbox (σ 80000) [.sl (c1.1.map c5), Ti c1.2.1, .v (.int .u64 c1.2.2)])]⟩) rfl rfl (zD5 rfl (Y1_alloc (z := zv38) rfl zf38 rfl)) kk rfl (zR kk (zR kk (zR kk (zR kk zBh)))) ?_
   refine jN (s2 := ⟨.pt 80000 0 :: .bot :: .bot :: .pt 24 0 :: .pt 32 0 :: .bot :: .ag [Ti f2.1, Ti f2.2.1, Ti f2.2.2] :: .pt 80000 0 :: bt 7 [], [(32, .box [Ti 0, Ti 0, Ti 0]), (24, .box [Ti f2.1, Ti f2.2.1, Ti f2.2.2]), (80000, .pbox (σ 80000) [.sl (c1.1.map c5), Ti c1.2.1, .v (.int .u64 c1.2.2)])]⟩) rfl rfl (qD rfl (E_move (.pt 80000 0) rfl kk)) kk rfl (zR kk (zR kk (zR kk zBh))) ?_
   exact zCC
  refine zDJ [4, 2, 0] kk kk ?_ ?_
  ·refine jN (s2 := ⟨.pt 80000 0 :: .bot :: .bot :: .pt 24 0 :: .pt 32 0 :: .pt 40 0 :: .bot :: .pt 80000 0 :: bt 7 [], [(40, .box [Ti 0, Ti 0, Ti 0]), (32, .box [Ti 0, Ti 0, Ti 0]), (24, .box [Ti f2.1, Ti f2.2.1, Ti f2.2.2]), (80000, .pbox (σ 80000) [.sl (c1.1.map c5), Ti c1.2.1, .v (.int .u64 c1.2.2)])]⟩) rfl rfl (zD5 rfl (Y1_alloc (z := zv38) rfl zf38 rfl)) kk rfl (zR kk (zR kk (zR kk (zR kk zBh)))) ?_
   refine jN (s2 := ⟨.pt 80000 0 :: .bot :: .bot :: .pt 24 0 :: .pt 32 0 :: .bot :: .bot :: .pt 80000 0 :: .ag [Ti y3.1.1, Ti y3.1.2.1, Ti y3.1.2.2.1, Ti y3.1.2.2.2] :: bt 6 [], [(32, .box [Ti 0, Ti 0, Ti 0]), (24, .box [Ti f2.1, Ti f2.2.1, Ti f2.2.2]), (80000, .pbox (σ 80000) [.sl (y3.2.1.map c5), Ti y3.2.2.1, .v (.int .u64 y3.2.2.2)])]⟩) rfl rfl (zV (E' := [(32, .box [Ti 0, Ti 0, Ti 0]), (24, .box [Ti f2.1, Ti f2.2.1, Ti f2.2.2]), (80000, .pbox (σ 80000) [.sl (y3.2.1.map c5), Ti y3.2.2.1, .v (.int .u64 y3.2.2.2)])]) [(80000, 80000)] 8 (zCX hy3) zCM rfl rfl kk rfl (zU kk zZ) rfl kk rfl rfl kk) kk rfl (zR kk (zR kk (zR kk zBh))) ?_
   refine jN (s2 := ⟨.pt 80000 0 :: .bot :: .bot :: .pt 24 0 :: .pt 32 0 :: .bot :: .ag [Ti f2.1, Ti f2.2.1, Ti f2.2.2] :: .pt 80000 0 :: bt 7 [], [(32, .box [Ti 0, Ti 0, Ti 0]), (24, .box [Ti f2.1, Ti f2.2.1, Ti f2.2.2]), (80000, .pbox (σ 80000) [.sl (c1.1.map c5), Ti c1.2.1, .v (.int .u64 c1.2.2)])]⟩) rfl rfl (qD rfl (E_loadn (cs := [Ti f2.1, Ti f2.2.1, Ti f2.2.2]) [Ti f2.1, Ti f2.2.1, Ti f2.2.2] wd38 rfl kk (Nat.le_of_ble_eq_true rfl) kk)) kk rfl (zR kk (zR kk (zR kk zBh))) ?_
   exact zCC
  refine zDJ [4, 2] kk kk ?_ ?_
  ·refine jN (s2 := ⟨.pt 80000 0 :: .bot :: .bot :: .pt 24 0 :: .pt 32 0 :: .pt 40 0 :: .ag [Ti f2.1, Ti f2.2.1, Ti f2.2.2] :: .pt 80000 0 :: bt 7 [], [(40, .box [Ti 0, Ti 0, Ti 0]), (32, .box [Ti 0, Ti 0, Ti 0]), (24, .box [Ti f2.1, Ti f2.2.1, Ti f2.2.2]), (80000, .pbox (σ 80000) [.sl (c1.1.map c5), Ti c1.2.1, .v (.int .u64 c1.2.2)])]⟩) rfl rfl (zD5 rfl (Y1_alloc (z := zv38) rfl zf38 rfl)) kk rfl (zR kk (zR kk (zR kk (zR kk zBh)))) ?_
   refine jN (s2 := ⟨.pt 80000 0 :: .bot :: .bot :: .pt 24 0 :: .pt 32 0 :: .bot :: .ag [Ti f2.1, Ti f2.2.1, Ti f2.2.2] :: .pt 80000 0 :: .ag [Ti y3.1.1, Ti y3.1.2.1, Ti y3.1.2.2.1, Ti y3.1.2.2.2] :: bt 6 [], [(32, .box [Ti 0, Ti 0, Ti 0]), (24, .box [Ti f2.1, Ti f2.2.1, Ti f2.2.2]), (80000, .pbox (σ 80000) [.sl (y3.2.1.map c5), Ti y3.2.2.1, .v (.int .u64 y3.2.2.2)])]⟩) rfl rfl (zV (E' := [(32, .box [Ti 0, Ti 0, Ti 0]), (24, .box [Ti f2.1, Ti f2.2.1, Ti f2.2.2]), (80000, .pbox (σ 80000) [.sl (y3.2.1.map c5), Ti y3.2.2.1, .v (.int .u64 y3.2.2.2)])]) [(80000, 80000)] 8 (zCX hy3) zCM rfl rfl kk rfl (zU kk zZ) rfl kk rfl rfl kk) kk rfl (zR kk (zR kk (zR kk zBh))) ?_
   exact zCC
  refine zDJ [4, 0] kk kk ?_ ?_
  ·refine jN (s2 := ⟨.pt 80000 0 :: .bot :: .bot :: .pt 24 0 :: .pt 32 0 :: .pt 40 0 :: .bot :: .pt 80000 0 :: .ag [Ti y3.1.1, Ti y3.1.2.1, Ti y3.1.2.2.1, Ti y3.1.2.2.2] :: bt 6 [], [(40, .box [Ti 0, Ti 0, Ti 0]), (32, .box [Ti 0, Ti 0, Ti 0]), (24, .box [Ti f2.1, Ti f2.2.1, Ti f2.2.2]), (80000, .pbox (σ 80000) [.sl (y3.2.1.map c5), Ti y3.2.2.1, .v (.int .u64 y3.2.2.2)])]⟩) rfl rfl (zD5 rfl (Y1_alloc (z := zv38) rfl zf38 rfl)) kk rfl (zR kk (zR kk (zR kk (zR kk zBh)))) ?_
   refine jN (s2 := ⟨.pt 80000 0 :: .bot :: .bot :: .pt 24 0 :: .pt 32 0 :: .bot :: .ag [Ti f2.1, Ti f2.2.1, Ti f2.2.2] :: .pt 80000 0 :: .ag [Ti y3.1.1, Ti y3.1.2.1, Ti y3.1.2.2.1, Ti y3.1.2.2.2] :: bt 6 [], [(32, .box [Ti 0, Ti 0, Ti 0]), (24, .box [Ti f2.1, Ti f2.2.1, Ti f2.2.2]), (80000, .pbox (σ 80000) [.sl (y3.2.1.map c5), Ti y3.2.2.1, .v (.int .u64 y3.2.2.2)])]⟩) rfl rfl (qD rfl (E_loadn (cs := [Ti f2.1, Ti f2.2.1, Ti f2.2.2]) [Ti f2.1, Ti f2.2.1, Ti f2.2.2] wd38 rfl kk (Nat.le_of_ble_eq_true rfl) kk)) kk rfl (zR kk (zR kk (zR kk zBh))) ?_
   exact zCC
  refine zDJ [4, 3] kk kk ?_ ?_
  ·refine jN (s2 := ⟨.pt 80000 0 :: .bot :: .bot :: .pt 24 0 :: .pt 32 0 :: .pt 40 0 :: .ag [Ti f2.1, Ti f2.2.1, Ti f2.2.2] :: .pt 80000 0 :: .ag [Ti y3.1.1, Ti y3.1.2.1, Ti y3.1.2.2.1, Ti y3.1.2.2.2] :: bt 6 [], [(40, .box [Ti 0, Ti 0, Ti 0]), (32, .box [Ti 0, Ti 0, Ti 0]), (24, .box [Ti f2.1, Ti f2.2.1, Ti f2.2.2]), (80000, .pbox (σ 80000) [.sl (y3.2.1.map c5), Ti y3.2.2.1, .v (.int .u64 y3.2.2.2)])]⟩) rfl rfl (zD5 rfl (Y1_alloc (z := zv38) rfl zf38 rfl)) kk rfl (zR kk (zR kk (zR kk (zR kk zBh)))) ?_
   refine jN (s2 := ⟨.pt 80000 0 :: .bot :: .bot :: .pt 24 0 :: .pt 32 0 :: .bot :: .ag [Ti f2.1, Ti f2.2.1, Ti f2.2.2] :: .pt 80000 0 :: .ag [Ti y3.1.1, Ti y3.1.2.1, Ti y3.1.2.2.1, Ti y3.1.2.2.2] :: .ag [Ti y4.1, Ti y4.2.1, Ti y4.2.2] :: bt 5 [], [(32, .box [Ti 0, Ti 0, Ti 0]), (24, .box [Ti f2.1, Ti f2.2.1, Ti f2.2.2]), (80000, .pbox (σ 80000) [.sl (y3.2.1.map c5), Ti y3.2.2.1, .v (.int .u64 y3.2.2.2)])]⟩) rfl rfl (zD5 rfl (Y1_call (s_spec_foAct hy4) cf_spec_foAct rfl kk)) kk rfl (zR kk (zR kk (zR kk zBh))) ?_
   exact zCC
  refine zDJ [4] kk kk ?_ ?_
  ·refine jN (s2 := ⟨.pt 80000 0 :: .bot :: .bot :: .pt 24 0 :: .pt 32 0 :: .pt 40 0 :: .ag [Ti f2.1, Ti f2.2.1, Ti f2.2.2] :: .pt 80000 0 :: .ag [Ti y3.1.1, Ti y3.1.2.1, Ti y3.1.2.2.1, Ti y3.1.2.2.2] :: .ag [Ti y4.1, Ti y4.2.1, Ti y4.2.2] :: bt 5 [], [(40, .box [Ti 0, Ti 0, Ti 0]), (32, .box [Ti 0, Ti 0, Ti 0]), (24, .box [Ti f2.1, Ti f2.2.1, Ti f2.2.2]), (80000, .pbox (σ 80000) [.sl (y3.2.1.map c5), Ti y3.2.2.1, .v (.int .u64 y3.2.2.2)])]⟩) rfl rfl (zD5 rfl (Y1_alloc (z := zv38) rfl zf38 rfl)) kk rfl (zR kk (zR kk (zR kk (zR kk zBh)))) ?_
   exact zCC
  refine zDJ [1, 0] kk kk ?_ ?_
  ·refine jN (s2 := ⟨.pt 80000 0 :: .bot :: .bot :: .pt 24 0 :: .pt 32 0 :: .pt 40 0 :: .bot :: .pt 80000 0 :: bt 7 [], [(40, .box [Ti 0, Ti 0, Ti 0]), (32, .box [Ti 0, Ti 0, Ti 0]), (24, .box [Ti f2.1, Ti f2.2.1, Ti f2.2.2]), (80000, .pbox (σ 80000) [.sl (c1.1.map c5), Ti c1.2.1, .v (.int .u64 c1.2.2)])]⟩) rfl rfl (qD rfl (E_move (.pt 80000 0) rfl kk)) kk rfl (zR kk (zR kk (zR kk (zR kk zBh)))) ?_
   refine jN (s2 := ⟨.pt 80000 0 :: .bot :: .bot :: .pt 24 0 :: .pt 32 0 :: .pt 40 0 :: .ag [Ti f2.1, Ti f2.2.1, Ti f2.2.2] :: bt 8 [], [(40, .box [Ti 0, Ti 0, Ti 0]), (32, .box [Ti 0, Ti 0, Ti 0]), (24, .box [Ti f2.1, Ti f2.2.1, Ti f2.2.2]), (80000, .pbox (σ 80000) [.sl (c1.1.map c5), Ti c1.2.1, .v (.int .u64 c1.2.2)])]⟩) rfl rfl (qD rfl (E_loadn (cs := [Ti f2.1, Ti f2.2.1, Ti f2.2.2]) [Ti f2.1, Ti f2.2.1, Ti f2.2.2] wd38 rfl kk (Nat.le_of_ble_eq_true rfl) kk)) kk rfl (zR kk (zR kk (zR kk (zR kk zBh)))) ?_
   exact zCC
  refine zDJ [1] kk kk ?_ ?_
  ·refine jN (s2 := ⟨.pt 80000 0 :: .bot :: .bot :: .pt 24 0 :: .pt 32 0 :: .pt 40 0 :: .ag [Ti f2.1, Ti f2.2.1, Ti f2.2.2] :: .pt 80000 0 :: bt 7 [], [(40, .box [Ti 0, Ti 0, Ti 0]), (32, .box [Ti 0, Ti 0, Ti 0]), (24, .box [Ti f2.1, Ti f2.2.1, Ti f2.2.2]), (80000, .pbox (σ 80000) [.sl (c1.1.map c5), Ti c1.2.1, .v (.int .u64 c1.2.2)])]⟩) rfl rfl (qD rfl (E_move (.pt 80000 0) rfl kk)) kk rfl (zR kk (zR kk (zR kk (zR kk zBh)))) ?_
   exact zCC
  refine zDJ [2, 0] kk kk ?_ ?_
  ·refine jN (s2 := ⟨.pt 80000 0 :: .bot :: .bot :: .pt 24 0 :: .pt 32 0 :: .pt 40 0 :: .bot :: .pt 80000 0 :: .ag [Ti y3.1.1, Ti y3.1.2.1, Ti y3.1.2.2.1, Ti y3.1.2.2.2] :: bt 6 [], [(40, .box [Ti 0, Ti 0, Ti 0]), (32, .box [Ti 0, Ti 0, Ti 0]), (24, .box [Ti f2.1, Ti f2.2.1, Ti f2.2.2]), (80000, .pbox (σ 80000) [.sl (y3.2.1.map c5), Ti y3.2.2.1, .v (.int .u64 y3.2.2.2)])]⟩) rfl rfl (zV (E' := [(40, .box [Ti 0, Ti 0, Ti 0]), (32, .box [Ti 0, Ti 0, Ti 0]), (24, .box [Ti f2.1, Ti f2.2.1, Ti f2.2.2]), (80000, .pbox (σ 80000) [.sl (y3.2.1.map c5), Ti y3.2.2.1, .v (.int .u64 y3.2.2.2)])]) [(80000, 80000)] 8 (zCX hy3) zCM rfl rfl kk rfl (zU kk zZ) rfl kk rfl rfl kk) kk rfl (zR kk (zR kk (zR kk (zR kk zBh)))) ?_
   refine jN (s2 := ⟨.pt 80000 0 :: .bot :: .bot :: .pt 24 0 :: .pt 32 0 :: .pt 40 0 :: .ag [Ti f2.1, Ti f2.2.1, Ti f2.2.2] :: .pt 80000 0 :: bt 7 [], [(40, .box [Ti 0, Ti 0, Ti 0]), (32, .box [Ti 0, Ti 0, Ti 0]), (24, .box [Ti f2.1, Ti f2.2.1, Ti f2.2.2]), (80000, .pbox (σ 80000) [.sl (c1.1.map c5), Ti c1.2.1, .v (.int .u64 c1.2.2)])]⟩) rfl rfl (qD rfl (E_loadn (cs := [Ti f2.1, Ti f2.2.1, Ti f2.2.2]) [Ti f2.1, Ti f2.2.1, Ti f2.2.2] wd38 rfl kk (Nat.le_of_ble_eq_true rfl) kk)) kk rfl (zR kk (zR kk (zR kk (zR kk zBh)))) ?_
   exact zCC
  refine zDJ [2] kk kk ?_ ?_
  ·refine jN (s2 := ⟨.pt 80000 0 :: .bot :: .bot :: .pt 24 0 :: .pt 32 0 :: .pt 40 0 :: .ag [Ti f2.1, Ti f2.2.1, Ti f2.2.2] :: .pt 80000 0 :: .ag [Ti y3.1.1, Ti y3.1.2.1, Ti y3.1.2.2.1, Ti y3.1.2.2.2] :: bt 6 [], [(40, .box [Ti 0, Ti 0, Ti 0]), (32, .box [Ti 0, Ti 0, Ti 0]), (24, .box [Ti f2.1, Ti f2.2.1, Ti f2.2.2]), (80000, .pbox (σ 80000) [.sl (y3.2.1.map c5), Ti y3.2.2.1, .v (.int .u64 y3.2.2.2)])]⟩) rfl rfl (zV (E' := [(40, .box [Ti 0, Ti 0, Ti 0]), (32, .box [Ti 0, Ti 0, Ti 0]), (24, .box [Ti f2.1, Ti f2.2.1, Ti f2.2.2]), (80000, .pbox (σ 80000) [.sl (y3.2.1.map c5), Ti y3.2.2.1, .v (.int .u64 y3.2.2.2)])]) [(80000, 80000)] 8 (zCX hy3) zCM rfl rfl kk rfl (zU kk zZ) rfl kk rfl rfl kk) kk rfl (zR kk (zR kk (zR kk (zR kk zBh)))) ?_
   exact zCC
  refine zDJ [0] kk kk ?_ ?_
  ·refine jN (s2 := ⟨.pt 80000 0 :: .bot :: .bot :: .pt 24 0 :: .pt 32 0 :: .pt 40 0 :: .ag [Ti f2.1, Ti f2.2.1, Ti f2.2.2] :: .pt 80000 0 :: .ag [Ti y3.1.1, Ti y3.1.2.1, Ti y3.1.2.2.1, Ti y3.1.2.2.2] :: bt 6 [], [(40, .box [Ti 0, Ti 0, Ti 0]), (32, .box [Ti 0, Ti 0, Ti 0]), (24, .box [Ti f2.1, Ti f2.2.1, Ti f2.2.2]), (80000, .pbox (σ 80000) [.sl (y3.2.1.map c5), Ti y3.2.2.1, .v (.int .u64 y3.2.2.2)])]⟩) rfl rfl (qD rfl (E_loadn (cs := [Ti f2.1, Ti f2.2.1, Ti f2.2.2]) [Ti f2.1, Ti f2.2.1, Ti f2.2.2] wd38 rfl kk (Nat.le_of_ble_eq_true rfl) kk)) kk rfl (zR kk (zR kk (zR kk (zR kk zBh)))) ?_
   exact zCC
  refine zDJ [3] kk kk ?_ ?_
  ·refine jN (s2 := ⟨.pt 80000 0 :: .bot :: .bot :: .pt 24 0 :: .pt 32 0 :: .pt 40 0 :: .ag [Ti f2.1, Ti f2.2.1, Ti f2.2.2] :: .pt 80000 0 :: .ag [Ti y3.1.1, Ti y3.1.2.1, Ti y3.1.2.2.1, Ti y3.1.2.2.2] :: .ag [Ti y4.1, Ti y4.2.1, Ti y4.2.2] :: bt 5 [], [(40, .box [Ti 0, Ti 0, Ti 0]), (32, .box [Ti 0, Ti 0, Ti 0]), (24, .box [Ti f2.1, Ti f2.2.1, Ti f2.2.2]), (80000, .pbox (σ 80000) [.sl (y3.2.1.map c5), Ti y3.2.2.1, .v (.int .u64 y3.2.2.2)])]⟩) rfl rfl (zD5 rfl (Y1_call (s_spec_foAct hy4) cf_spec_foAct rfl kk)) kk rfl (zR kk (zR kk (zR kk (zR kk zBh)))) ?_
   exact zCC
  refine zDJ [5] kk kk ?_ ?_
  ·refine jN (s2 := ⟨.pt 80000 0 :: .bot :: .bot :: .pt 24 0 :: .pt 32 0 :: .pt 40 0 :: .ag [Ti f2.1, Ti f2.2.1, Ti f2.2.2] :: .pt 80000 0 :: .ag [Ti y3.1.1, Ti y3.1.2.1, Ti y3.1.2.2.1, Ti y3.1.2.2.2] :: .ag [Ti y4.1, Ti y4.2.1, Ti y4.2.2] :: bt 5 [], [(40, .box [Ti y4.1, Ti y4.2.1, Ti y4.2.2]), (32, .box [Ti 0, Ti 0, Ti 0]), (24, .box [Ti f2.1, Ti f2.2.1, Ti f2.2.2]), (80000, .pbox (σ 80000) [.sl (y3.2.1.map c5), Ti y3.2.2.1, .v (.int .u64 y3.2.2.2)])]⟩) rfl rfl (E_store (id := 40) (off := 0) (cs := [Ti 0, Ti 0, Ti 0]) (vc := [Ti y4.1, Ti y4.2.1, Ti y4.2.2]) [Ti y4.1, Ti y4.2.1, Ti y4.2.2] rfl rfl kk kk kk sz38 (Nat.le_of_ble_eq_true rfl) kk) kk rfl (zR kk (zR kk (zR kk (zR kk zBh)))) ?_
   exact zCC
  refine tab_last kk ?_ tab_nil
  kernel_rfl
 refine zJ ?_
 obtain ⟨y5, hy5, h⟩ := zA h
 refine VS ?_
 refine YK 1 (s_spec_foGood hy5) cf_spec_foGood ?_
 refine YF ?_
 refine VC h (fun h => ?_) (fun h => ?_)
 ·refine VE ?_
  cases h
  exact zE VTR
 ·refine zG ?_
  show V _ _ _ _
  refine VE ?_
  cases h
  exact zE VTR
theorem cf_spec_l1Cur_definite : CfW Tryz.prog 125 := cfW Tryz.func125
theorem s_spec_l1Cur_definite {c1 : ((List Int) × Int × Int)} {r : (((Int × Int × Int)) × (((List Int) × Int × Int)))} (h : zBP c1 = some r) : zDz Tryz.prog 125 [.pt 80000 0] [(80000, .box [.sl (c1.1.map c5), Ti c1.2.1, .v (.int .u64 c1.2.2)])] (.ag [Ti r.1.1, Ti r.1.2.1, Ti r.1.2.2]) [] [(80000, .box [.sl (r.2.1.map c5), Ti r.2.2.1, .v (.int .u64 r.2.2.2)])] := by
 refine qZ (rs := [.w 2 3]) (vs := [.cell 2 38]) Tryz.func125 rfl rfl (.cons ⟨rfl, wd38⟩ FitsL.nil) (by decide) 52 rfl rfl fun σ => ?_
 unfold zBP at h
 show V _ _ ⟨.pt 80000 0 :: bt 51 [], [(80000, .pbox (σ 80000) [.sl (c1.1.map c5), Ti c1.2.1, .v (.int .u64 c1.2.2)])]⟩ _
 refine VE ?_
 refine zJ ?_
 obtain ⟨y2, hy2, h⟩ := zA h
 refine VS ?_
 refine YR 1 ?_
 refine zM rfl (zV [(80000, 80000)] 6 (zL hy2) zH rfl rfl kk rfl (zU kk zZ) rfl kk rfl rfl rfl) ?_
 refine YF ?_
 refine zN ?_
 refine VE ?_
 refine VC h (fun h => ?_) (fun h => ?_)
 ·obtain ⟨y4, hy4, h⟩ := zA h
  refine VS ?_
  refine YR 1 ?_
  refine zM rfl (zV [(80000, 80000)] 10 (s_spec_l1Cur_form hy4) cf_spec_l1Cur_form rfl rfl kk rfl (zU kk zZ) rfl kk rfl rfl rfl) ?_
  refine YF ?_
  cases h
  exact zE VTR
 ·refine VE ?_
  refine VC h (fun h => ?_) (fun h => ?_)
  ·obtain ⟨y6, hy6, h⟩ := zA h
   obtain ⟨y7, hy7, h⟩ := zA h
   refine VS ?_
   refine YR 2 ?_
   refine zM rfl (zV [(80000, 80000)] 15 (zDH hy6) zCu rfl rfl kk rfl (zU kk zZ) rfl kk rfl rfl rfl) ?_
   refine zM rfl (zV [(80000, 80000)] 16 (zDN hy7) zDI rfl rfl kk rfl (zU kk zZ) rfl kk rfl rfl rfl) ?_
   refine YF ?_
   obtain ⟨y8, hy8, h⟩ := zA h
   obtain ⟨k9, hk9, h⟩ := zS h
   refine zO (mb 52 29) [24, 16, 80000] (s1 := ⟨.pt 80000 0 :: .bot :: .pt 16 0 :: .pt 24 0 :: I k9 :: bt 47 [], [(24, .box [Ti y7.1.1, Ti y7.1.2.1, Ti y7.1.2.2]), (16, .box [Ti 0, Ti 0, Ti 0]), (80000, .pbox (σ 80000) [.sl (y8.2.1.map c5), Ti y8.2.2.1, .v (.int .u64 y8.2.2.2)])]⟩) ?_ ?_
   ·refine XR 1 ?_
    refine zM rfl (zV [(80000, 80000)] 18 (zL hy8) zH rfl rfl kk rfl (zU kk zZ) rfl kk rfl rfl rfl) ?_
    refine XR 2 ?_
    refine zK ?_
    subst hk9
    kernel_rfl
   obtain ⟨y10, hy10, h⟩ := zA h
   refine VS ?_
   refine YR 13 ?_
   refine L0 rfl rfl (zW (cs := [Ti (w64 (k9 * y7.1.1)), Ti (w64 (k9 * y7.1.2.1)), Ti (w64 (k9 * y7.1.2.2))]) pl38 bt38 rfl rfl kk) ?_
   refine zM rfl (zV [(80000, 80000)] 34 (zCj hy10) zCZ rfl rfl kk rfl (zU kk zZ) rfl kk rfl rfl rfl) ?_
   refine YF ?_
   cases h
   exact zE VTR
  ·refine VE ?_
   refine VC h (fun h => ?_) (fun h => ?_)
   ·obtain ⟨y12, hy12, h⟩ := zA h
    obtain ⟨y13, hy13, h⟩ := zA h
    obtain ⟨y14, hy14, h⟩ := zA h
    obtain ⟨f15, hf15, h⟩ := zS h
    obtain ⟨f16, hf16, h⟩ := zS h
    refine zO (mb 52 4) [16, 80000] (s1 := ⟨.bot :: .bot :: .pt 16 0 :: bt 49 [], [(16, .box [Ti f15, Ti y13.1, Ti f16]), (80000, .pbox (σ 80000) [.sl (y14.2.1.map c5), Ti y14.2.2.1, .v (.int .u64 y14.2.2.2)])]⟩) ?_ ?_
    ·refine XR 1 ?_
     refine zM rfl (zV [(80000, 80000)] 38 (zL hy12) zH rfl rfl kk rfl (zU kk zZ) rfl kk rfl rfl rfl) ?_
     refine XR 2 ?_
     refine zM rfl (zV [(80000, 80000)] 41 (zL hy13) zH rfl rfl kk rfl (zU kk zZ) rfl kk rfl rfl rfl) ?_
     refine XR 1 ?_
     refine zM rfl (zV [(80000, 80000)] 43 (zL hy14) zH rfl rfl kk rfl (zU kk zZ) rfl kk rfl rfl rfl) ?_
     refine XR 1 ?_
     refine L0 rfl rfl (zW (cs := [Ti (w64 (1 + y12.1)), Ti y13.1, Ti (w64 (250000 + y14.1))]) pl38 bt38 rfl rfl kk) ?_
     refine XR 1 ?_
     refine zK ?_
     subst hf15 hf16
     kernel_rfl
    cases h
    exact zE VTR
   ·refine zG ?_
    show V _ _ _ _
    obtain ⟨y17, hy17, h⟩ := zA h
    obtain ⟨y18, hy18, h⟩ := zA h
    obtain ⟨y19, hy19, h⟩ := zA h
    refine VS ?_
    refine YR 3 ?_
    refine zM rfl (zV [(80000, 80000)] 49 (zDH hy17) zCu rfl rfl kk rfl (zU kk zZ) rfl kk rfl rfl rfl) ?_
    refine zM rfl (zV [(80000, 80000)] 50 (zDN hy18) zDI rfl rfl kk rfl (zU kk zZ) rfl kk rfl rfl rfl) ?_
    refine zM rfl (zV [(80000, 80000)] 51 (zCj hy19) zCZ rfl rfl kk rfl (zU kk zZ) rfl kk rfl rfl rfl) ?_
    refine YF ?_
    cases h
    exact zE VTR
theorem cf_spec_l1Cur_classForm : CfW Tryz.prog 122 := cfW Tryz.func122
theorem s_spec_l1Cur_classForm {c1 : ((List Int) × Int × Int)} {r : (((Int × Int × Int)) × (((List Int) × Int × Int)))} (h : zA0 c1 = some r) : zDz Tryz.prog 122 [.pt 80000 0] [(80000, .box [.sl (c1.1.map c5), Ti c1.2.1, .v (.int .u64 c1.2.2)])] (.ag [Ti r.1.1, Ti r.1.2.1, Ti r.1.2.2]) [] [(80000, .box [.sl (r.2.1.map c5), Ti r.2.2.1, .v (.int .u64 r.2.2.2)])] := by
 refine qZ (rs := [.w 2 3]) (vs := [.cell 2 38]) Tryz.func122 rfl rfl (.cons ⟨rfl, wd38⟩ FitsL.nil) (by decide) 18 rfl rfl fun σ => ?_
 unfold zA0 at h
 show V _ _ ⟨.pt 80000 0 :: bt 17 [], [(80000, .pbox (σ 80000) [.sl (c1.1.map c5), Ti c1.2.1, .v (.int .u64 c1.2.2)])]⟩ _
 refine VE ?_
 refine zJ ?_
 obtain ⟨y2, hy2, h⟩ := zA h
 refine VS ?_
 refine YR 1 ?_
 refine zM rfl (zV [(80000, 80000)] 5 (zC3 hy2) zCN rfl rfl kk rfl (zU kk zZ) rfl kk rfl rfl rfl) ?_
 refine YF ?_
 refine VC h (fun h => ?_) (fun h => ?_)
 ·obtain ⟨y4, hy4, h⟩ := zA h
  refine VS ?_
  refine YR 1 ?_
  refine zM rfl (zV [(80000, 80000)] 7 (s_spec_l1Cur_definite hy4) cf_spec_l1Cur_definite rfl rfl kk rfl (zU kk zZ) rfl kk rfl rfl rfl) ?_
  refine YF ?_
  cases h
  exact zE VTR
 ·refine zG ?_
  show V _ _ _ _
  obtain ⟨y5, hy5, h⟩ := zA h
  obtain ⟨y6, hy6, h⟩ := zA h
  refine VS ?_
  refine YR 2 ?_
  refine zM rfl (zV [(80000, 80000)] 10 (zDH hy5) zCu rfl rfl kk rfl (zU kk zZ) rfl kk rfl rfl rfl) ?_
  refine zM rfl (zV [(80000, 80000)] 11 (zDN hy6) zDI rfl rfl kk rfl (zU kk zZ) rfl kk rfl rfl rfl) ?_
  refine YF ?_
  refine zJ ?_
  obtain ⟨y7, hy7, h⟩ := zA h
  refine VS ?_
  refine YR 1 ?_
  refine zM rfl (zV [(80000, 80000)] 13 (zC3 hy7) zCN rfl rfl kk rfl (zU kk zZ) rfl kk rfl rfl rfl) ?_
  refine YF ?_
  refine VC h (fun h => ?_) (fun h => ?_)
  ·obtain ⟨y9, hy9, h⟩ := zA h
   refine VS ?_
   refine YR 2 ?_
   refine zM rfl (zV [(80000, 80000)] 16 (zCj hy9) zCZ rfl rfl kk rfl (zU kk zZ) rfl kk rfl rfl rfl) ?_
   refine YF ?_
   cases h
   exact zE VTR
  ·refine zG ?_
   show V _ _ _ _
   refine VE ?_
   cases h
   exact zE VTR
theorem cf_spec_foDefinite : CfW Tryz.prog 137 := cfW Tryz.func137
theorem s_spec_foDefinite {f1 : (Int × Int × Int)} {r : Bool} (h : zCF f1 = some r) : zT Tryz.prog 137 [.ag [Ti f1.1, Ti f1.2.1, Ti f1.2.2]] (Bo r) [] := by
 refine CtW [2] Tryz.func137 rfl rfl 15 ?_
 unfold zCF at h
 refine VE ?_
 obtain ⟨y2, hy2, h⟩ := zA h
 obtain ⟨b5, hb5, h⟩ := zA h
 refine zO (mb 15 4) [] (s1 := ⟨.bot :: .bot :: Bo (bif b5 then (ltI 0 f1.1) else false) :: bt 12 [], []⟩) ?_ ?_
 ·refine YK 1 (s_spec_foGood hy2) cf_spec_foGood ?_
  refine YR 1 ?_
  refine zD y2 (fun hc3 => ?_) (fun hc3 => ?_)
  ·have hb5 := qM hb5 hc3
   obtain ⟨y4, hy4, hb5⟩ := zA hb5
   have hb5 := zB hb5
   refine YQ hc3 ?_
   refine YK 1 (zCP hy4) zBr ?_
   refine YR 3 ?_
   refine zD b5 (fun hc6 => ?_) (fun hc6 => ?_)
   ·refine YQ hc6 ?_ (by rw [← hb5]; (try rw [hc3]); kernel_rfl)
    exact YE (by rw [hc6]; kernel_rfl)
   ·refine YQ hc6 ?_ (by rw [← hb5]; (try rw [hc3]); kernel_rfl)
    exact YE (by rw [hc6]; kernel_rfl)
  ·have hb5 := zB (qB hb5 hc3)
   refine YQ hc3 ?_
   refine YR 5 ?_
   subst hb5
   have hc6 : false = false := rfl
   exact YE
 cases h
 exact zE VT
theorem cf_spec_vaForm : CfW Tryz.prog 181 := cfW Tryz.func181
theorem s_spec_vaForm {f1 : (Int × Int × Int)} {r : Bool} (h : zDb f1 = some r) : zT Tryz.prog 181 [.ag [Ti f1.1, Ti f1.2.1, Ti f1.2.2]] (Bo r) [] := by
 refine CtW [2] Tryz.func181 rfl rfl 10 ?_
 unfold zDb at h
 refine VE ?_
 obtain ⟨y2, hy2, h⟩ := zA h
 obtain ⟨b5, hb5, h⟩ := zA h
 refine zO (mb 10 4) [] (s1 := ⟨.bot :: .bot :: Bo b5 :: bt 7 [], []⟩) ?_ ?_
 ·refine YK 1 (s_spec_foDefinite hy2) cf_spec_foDefinite ?_
  refine YR 1 ?_
  refine zD y2 (fun hc3 => ?_) (fun hc3 => ?_)
  ·have hb5 := qM hb5 hc3
   obtain ⟨y4, hy4, hb5⟩ := zA hb5
   have hb5 := zB hb5
   refine YQ hc3 ?_
   refine YK 1 (zCP hy4) zBr ?_
   exact YE (by rw [← hb5]; (try rw [hc3]); kernel_rfl)
  ·have hb5 := zB (qB hb5 hc3)
   refine YQ hc3 ?_
   exact YE (by rw [← hb5]; (try rw [hc3]); kernel_rfl)
 cases h
 exact zE VT
theorem cf_spec_coGood : CfW Tryz.prog 94 := cfW Tryz.func94
theorem s_spec_coGood {f1 : (Int × Int × Int)} {r : Bool} (h : zCR f1 = some r) : zT Tryz.prog 94 [.ag [Ti f1.1, Ti f1.2.1, Ti f1.2.2]] (Bo r) [] := by
 refine CtW [2] Tryz.func94 rfl rfl 10 ?_
 unfold zCR at h
 refine VE ?_
 obtain ⟨y2, hy2, h⟩ := zA h
 obtain ⟨b5, hb5, h⟩ := zA h
 refine zO (mb 10 4) [] (s1 := ⟨.bot :: .bot :: Bo b5 :: bt 7 [], []⟩) ?_ ?_
 ·refine YK 1 (s_spec_vaForm hy2) cf_spec_vaForm ?_
  refine YR 1 ?_
  refine zD y2 (fun hc3 => ?_) (fun hc3 => ?_)
  ·have hb5 := qM hb5 hc3
   obtain ⟨y4, hy4, hb5⟩ := zA hb5
   have hb5 := zB hb5
   refine YQ hc3 ?_
   refine YK 1 (s_spec_foContent hy4) cf_spec_foContent ?_
   exact YE (by rw [← hb5]; (try rw [hc3]); kernel_rfl)
  ·have hb5 := zB (qB hb5 hc3)
   refine YQ hc3 ?_
   exact YE (by rw [← hb5]; (try rw [hc3]); kernel_rfl)
 cases h
 exact zE VT
end Go.Proofs.YtfmjfofocklgpaaGreatDoor
namespace Go.Proofs.YtfmjfofocklgpaaGreatDoor
open Go.RowKit
set_option linter.unusedVariables false
set_option linter.unusedSimpArgs false
set_option maxRecDepth 100000
set_option maxHeartbeats 400000
theorem cf_spec_l1Cur_command : CfW Tryz.prog 65 := cfW Tryz.func65
theorem s_spec_l1Cur_command {c1 : ((List Int) × Int × Int)} {l2 : List ((ByteArray × ((Int × Int × Int))))} {r : (((Int × ByteArray × ByteArray × ByteArray × ((Int × Int × Int)))) × (((List Int) × Int × Int)))} (h : zB3 c1 l2 = some r) : zDz Tryz.prog 65 [.pt 80000 0, .c (.sl (l2.map c73))] [(80000, .box [.sl (c1.1.map c5), Ti c1.2.1, .v (.int .u64 c1.2.2)])] (.ag [Ti r.1.1, .v (.string r.1.2.1), .v (.string r.1.2.2.1), .v (.string r.1.2.2.2.1), Ti r.1.2.2.2.2.1, Ti r.1.2.2.2.2.2.1, Ti r.1.2.2.2.2.2.2]) [] [(80000, .box [.sl (r.2.1.map c5), Ti r.2.2.1, .v (.int .u64 r.2.2.2)])] := by
 refine qZ (rs := [.w 4 7]) (vs := [.cell 4 40]) Tryz.func65 rfl rfl (.cons ⟨rfl, wd40⟩ FitsL.nil) (by decide) 115 rfl rfl fun σ => ?_
 unfold zB3 at h
 show V _ _ ⟨.pt 80000 0 :: .c (.sl (l2.map c73)) :: bt 113 [], [(80000, .pbox (σ 80000) [.sl (c1.1.map c5), Ti c1.2.1, .v (.int .u64 c1.2.2)])]⟩ _
 refine VE ?_
 obtain ⟨y3, hy3, h⟩ := zA h
 obtain ⟨y4, hy4, h⟩ := zA h
 refine VS ?_
 refine YR 1 ?_
 refine L1 rfl rfl (qP (z := zv3) (els := [1, 1, 1, 3, 3, 4, 5, 5, 2].map c3) Tryz.underlying24 iz3 rfl (by decide) rfl kk rfl (by simp [c3]) (by decide) (by decide)) ?_
 refine zCh 88 (T := 3) (sz := 1) (els := ([1, 1, 1, 3, 3, 4, 5, 5, 2]).map c3) kk rfl ?_
 refine zM rfl (zV [(80000, 80000)] 12 (zAo hy3) zA9 rfl rfl kk rfl (zU kk zZ) rfl kk rfl rfl rfl) ?_
 refine YR 1 ?_
 refine zM rfl (zV [(80000, 80000)] 14 (zCk hy4) zCc rfl rfl kk rfl (zU kk zZ) rfl kk rfl rfl rfl) ?_
 refine L0 rfl rfl (zW (cs := [Ti y3.1, .v (.string y4.1), .v (.string ByteArray.empty), .v (.string ByteArray.empty), Ti 0, Ti 0, Ti 0]) pl40 bt40 rfl rfl kk) ?_
 refine YF ?_
 obtain ⟨y5, hy5, h⟩ := zA h
 obtain ⟨y6, hy6, h⟩ := zA h
 refine VS ?_
 refine YR 1 ?_
 refine zM rfl (zV [(80000, 80000)] 17 (zCk hy5) zCc rfl rfl kk rfl (zU kk zZ) rfl kk rfl rfl rfl) ?_
 refine YR 1 ?_
 refine zM rfl (zV [(80000, 80000)] 19 (zCk hy6) zCc rfl rfl kk rfl (zU kk zZ) rfl kk rfl rfl rfl) ?_
 refine YF ?_
 obtain ⟨y7, hy7, h⟩ := zA h
 refine VS ?_
 refine YR 1 ?_
 refine zM rfl (zV [(80000, 80000)] 21 (s_spec_l1Cur_classForm hy7) cf_spec_l1Cur_classForm rfl rfl kk rfl (zU kk zZ) rfl kk rfl rfl rfl) ?_
 refine YF ?_
 obtain ⟨j8, hj8, h⟩ := zA h
 refine zCw (mb 115 499) [64, 40, 32, 80000] (s1 := ⟨.pt 80000 0 :: .c (.sl (l2.map c73)) :: .bot :: .bot :: .pt 32 0 :: .pt 40 0 :: .c (.v (.string j8.1)) :: .c (.v (.string j8.2.1)) :: .pt 64 0 :: bt 106 [], [(64, .box [Ti j8.2.2.1, Ti j8.2.2.2.1, Ti j8.2.2.2.2.1]), (40, .box [Ti y3.1, .v (.string j8.2.2.2.2.2.1), .v (.string ByteArray.empty), .v (.string ByteArray.empty), Ti 0, Ti 0, Ti 0]), (32, .box [Ti 0, .v (.string ByteArray.empty), .v (.string ByteArray.empty), .v (.string ByteArray.empty), Ti 0, Ti 0, Ti 0]), (80000, .pbox (σ 80000) [.sl (j8.2.2.2.2.2.2.1.map c5), Ti j8.2.2.2.2.2.2.2.1, .v (.int .u64 j8.2.2.2.2.2.2.2.2)])]⟩) ?_ ?_
 ·clear h
  have h := hj8
  clear hj8
  obtain ⟨b11, hb11, h⟩ := zA h
  refine zO (mb 115 536871411) [64, 40, 32, 80000] (s1 := ⟨.pt 80000 0 :: .c (.sl (l2.map c73)) :: .bot :: .bot :: .pt 32 0 :: .pt 40 0 :: .c (.v (.string y5.1)) :: .c (.v (.string y6.1)) :: .pt 64 0 :: bt 20 (Bo b11.1 :: bt 85 []), [(64, .box [Ti y7.1.1, Ti y7.1.2.1, Ti y7.1.2.2]), (40, .box [Ti y3.1, .v (.string y4.1), .v (.string ByteArray.empty), .v (.string ByteArray.empty), Ti 0, Ti 0, Ti 0]), (32, .box [Ti 0, .v (.string ByteArray.empty), .v (.string ByteArray.empty), .v (.string ByteArray.empty), Ti 0, Ti 0, Ti 0]), (80000, .pbox (σ 80000) [.sl (b11.2.1.map c5), Ti b11.2.2.1, .v (.int .u64 b11.2.2.2)])]⟩) ?_ ?_
  ·refine YR 1 ?_
   refine L0 rfl rfl (qK (c := c73) (xs := l2) Tryz.underlying43 rfl kk) ?_
   refine YR 2 ?_
   refine zD (ltI 0 ((l2.length : Int))) (fun hc9 => ?_) (fun hc9 => ?_)
   ·have hb11 := qM hb11 hc9
    obtain ⟨y10, hy10, hb11⟩ := zA hb11
    have hb11 := zB hb11
    subst hb11
    refine YQ hc9 ?_
    refine YR 1 ?_
    refine YT (zV (E' := [(64, .box [Ti y7.1.1, Ti y7.1.2.1, Ti y7.1.2.2]), (40, .box [Ti y3.1, .v (.string y4.1), .v (.string ByteArray.empty), .v (.string ByteArray.empty), Ti 0, Ti 0, Ti 0]), (32, .box [Ti 0, .v (.string ByteArray.empty), .v (.string ByteArray.empty), .v (.string ByteArray.empty), Ti 0, Ti 0, Ti 0]), (80000, .pbox (σ 80000) [.sl (y10.2.1.map c5), Ti y10.2.2.1, .v (.int .u64 y10.2.2.2)])]) [(80000, 80000)] 27 (zC3 hy10) zCN rfl rfl kk rfl (zU kk zZ) rfl kk rfl rfl kk) ?_
    exact YE
   ·have hb11 := zB (qB hb11 hc9)
    subst hb11
    refine YQ hc9 ?_
    exact YE
  refine VC h (fun h => ?_) (fun h => ?_)
  ·obtain ⟨y13, hy13, h⟩ := zA h
   obtain ⟨e14, he14, h⟩ := zA h
   refine VS ?_
   refine YR 3 ?_
   refine L0 rfl rfl (qK (c := c73) (xs := l2) Tryz.underlying43 rfl kk) ?_
   refine zM rfl (zV [(80000, 80000)] 34 (zL hy13) zH rfl rfl kk rfl (zU kk zZ) rfl kk rfl rfl rfl) ?_
   refine L0 rfl rfl (zAn (c := c73) (xs := l2) (v := e14) (n := y13.1) Tryz.underlying43 sz73 rfl kk kk he14) ?_
   refine YF ?_
   refine VE ?_
   obtain ⟨y15, hy15, h⟩ := zA h
   obtain ⟨e16, he16, h⟩ := zA h
   refine VS ?_
   refine YR 3 ?_
   refine L0 rfl rfl (qK (c := c73) (xs := l2) Tryz.underlying43 rfl kk) ?_
   refine zM rfl (zV [(80000, 80000)] 43 (zL hy15) zH rfl rfl kk rfl (zU kk zZ) rfl kk rfl rfl rfl) ?_
   refine L0 rfl rfl (zAn (c := c73) (xs := l2) (v := e16) (n := y15.1) Tryz.underlying43 sz73 rfl kk kk he16) ?_
   refine YF ?_
   obtain ⟨j17, hj17, h⟩ := zA h
   refine zCw (mb 115 1011) [72, 64, 40, 32, 80000] (s1 := ⟨.pt 80000 0 :: .c (.sl (l2.map c73)) :: .bot :: .bot :: .pt 32 0 :: .pt 40 0 :: .c (.v (.string e14.1)) :: .c (.v (.string e16.1)) :: .pt 64 0 :: .pt 72 0 :: bt 105 [], [(72, .box [.v (.string e14.1), Ti e14.2.1, Ti e14.2.2.1, Ti e14.2.2.2]), (64, .box [Ti y7.1.1, Ti y7.1.2.1, Ti y7.1.2.2]), (40, .box [Ti y3.1, .v (.string j17), .v (.string ByteArray.empty), .v (.string ByteArray.empty), Ti 0, Ti 0, Ti 0]), (32, .box [Ti 0, .v (.string ByteArray.empty), .v (.string ByteArray.empty), .v (.string ByteArray.empty), Ti 0, Ti 0, Ti 0]), (80000, .pbox (σ 80000) [.sl (y15.2.1.map c5), Ti y15.2.2.1, .v (.int .u64 y15.2.2.2)])]⟩) ?_ ?_
   ·clear h
    have h := hj17
    clear hj17
    refine zO (mb 115 18014398509482995) [72, 64, 40, 32, 80000] (s1 := ⟨.pt 80000 0 :: .c (.sl (l2.map c73)) :: .bot :: .bot :: .pt 32 0 :: .pt 40 0 :: .c (.v (.string e14.1)) :: .c (.v (.string e16.1)) :: .pt 64 0 :: .pt 72 0 :: bt 44 (Bo (bif (eqI y3.1 2) then true else (eqI y3.1 5)) :: bt 60 []), [(72, .box [.v (.string e14.1), Ti e14.2.1, Ti e14.2.2.1, Ti e14.2.2.2]), (64, .box [Ti y7.1.1, Ti y7.1.2.1, Ti y7.1.2.2]), (40, .box [Ti y3.1, .v (.string y4.1), .v (.string ByteArray.empty), .v (.string ByteArray.empty), Ti 0, Ti 0, Ti 0]), (32, .box [Ti 0, .v (.string ByteArray.empty), .v (.string ByteArray.empty), .v (.string ByteArray.empty), Ti 0, Ti 0, Ti 0]), (80000, .pbox (σ 80000) [.sl (y15.2.1.map c5), Ti y15.2.2.1, .v (.int .u64 y15.2.2.2)])]⟩) ?_ ?_
    ·refine YR 4 ?_
     refine zD (eqI y3.1 2) (fun hc18 => ?_) (fun hc18 => ?_)
     ·refine YQ hc18 ?_
      exact YE (by rw [hc18]; kernel_rfl)
     ·refine YQ hc18 ?_
      exact YE (by rw [hc18]; kernel_rfl)
    refine VC h (fun h => ?_) (fun h => ?_)
    ·refine zX ?_
     refine YF ?_
     obtain rfl := zB h
     show St.keep _ _ _ = _
     kernel_rfl
    ·refine zG ?_
     obtain rfl := zB h
     show St.keep _ _ _ = _
     kernel_rfl
   obtain ⟨y20, hy20, h⟩ := zA h
   refine VS ?_
   refine YK 2 (s_spec_coGood hy20) cf_spec_coGood ?_
   refine YF ?_
   refine VC h (fun h => ?_) (fun h => ?_)
   ·obtain ⟨y22, hy22, h⟩ := zA h
    refine zX ?_
    refine YR 3 ?_
    refine zM rfl (zV [(80000, 80000)] 64 (zCj hy22) zCZ rfl rfl kk rfl (zU kk zZ) rfl kk rfl rfl rfl) ?_
    refine YF ?_
    obtain rfl := zB h
    show St.keep _ _ _ = _
    kernel_rfl
   ·refine zG ?_
    obtain rfl := zB h
    show St.keep _ _ _ = _
    kernel_rfl
  ·refine zG ?_
   obtain rfl := zB h
   show St.keep _ _ _ = _
   kernel_rfl
 obtain ⟨j23, hj23, h⟩ := zA h
 refine zCw (mb 115 497) [64, 40, 32, 80000] (s1 := ⟨.pt 80000 0 :: bt 3 (.pt 32 0 :: .pt 40 0 :: .c (.v (.string j8.1)) :: .c (.v (.string j8.2.1)) :: .pt 64 0 :: bt 106 []), [(64, .box [Ti j8.2.2.1, Ti j8.2.2.2.1, Ti j8.2.2.2.2.1]), (40, .box [Ti y3.1, .v (.string j23.1), .v (.string ByteArray.empty), .v (.string ByteArray.empty), Ti 0, Ti 0, Ti 0]), (32, .box [Ti 0, .v (.string ByteArray.empty), .v (.string ByteArray.empty), .v (.string ByteArray.empty), Ti 0, Ti 0, Ti 0]), (80000, .pbox (σ 80000) [.sl (j23.2.1.map c5), Ti j23.2.2.1, .v (.int .u64 j23.2.2.2)])]⟩) ?_ ?_
 ·clear h
  have h := hj23
  clear hj23
  obtain ⟨t26, ht26, h⟩ := zA h
  have ht26 := zB ht26
  refine zO (mb 115 151115727451828646838769) [64, 40, 32, 80000] (s1 := ⟨.pt 80000 0 :: bt 3 (.pt 32 0 :: .pt 40 0 :: .c (.v (.string j8.1)) :: .c (.v (.string j8.2.1)) :: .pt 64 0 :: bt 68 (Bo t26 :: bt 37 [])), [(64, .box [Ti j8.2.2.1, Ti j8.2.2.2.1, Ti j8.2.2.2.2.1]), (40, .box [Ti y3.1, .v (.string j8.2.2.2.2.2.1), .v (.string ByteArray.empty), .v (.string ByteArray.empty), Ti 0, Ti 0, Ti 0]), (32, .box [Ti 0, .v (.string ByteArray.empty), .v (.string ByteArray.empty), .v (.string ByteArray.empty), Ti 0, Ti 0, Ti 0]), (80000, .pbox (σ 80000) [.sl (j8.2.2.2.2.2.2.1.map c5), Ti j8.2.2.2.2.2.2.2.1, .v (.int .u64 j8.2.2.2.2.2.2.2.2)])]⟩) ?_ ?_
  ·refine YR 1 ?_
   refine L0 rfl rfl (qK (c := c73) (xs := l2) Tryz.underlying43 rfl kk) ?_
   refine YR 2 ?_
   refine zD (ltI 10 ((l2.length : Int))) (fun hc24 => ?_) (fun hc24 => ?_)
   ·refine YQ hc24 ?_
    refine YR 4 ?_
    refine zD (eqI y3.1 1) (fun hc25 => ?_) (fun hc25 => ?_)
    ·refine YQ hc25 ?_
     exact YE (by rw [← ht26]; (try rw [hc24]); (try rw [hc25]); kernel_rfl)
    ·refine YQ hc25 ?_
     exact YE (by rw [← ht26]; (try rw [hc24]); (try rw [hc25]); kernel_rfl)
   ·refine YQ hc24 ?_
    exact YE (by rw [← ht26]; (try rw [hc24]); kernel_rfl)
  refine VC h (fun h => ?_) (fun h => ?_)
  ·obtain ⟨y28, hy28, h⟩ := zA h
   refine zX ?_
   refine YR 1 ?_
   refine L1 rfl rfl (qP (z := zv9) (els := [(⟨#[122, 122]⟩ : ByteArray), (⟨#[122, 121]⟩ : ByteArray), (⟨#[97]⟩ : ByteArray), (⟨#[122, 120]⟩ : ByteArray)].map c9) Tryz.underlying66 iz9 rfl (by decide) rfl kk rfl (by simp [c9]) (by decide) (by decide)) ?_
   refine zCh 632 (T := 9) (sz := 1) (els := ([(⟨#[122, 122]⟩ : ByteArray), (⟨#[122, 121]⟩ : ByteArray), (⟨#[97]⟩ : ByteArray), (⟨#[122, 120]⟩ : ByteArray)]).map c9) kk rfl ?_
   refine zM rfl (zV [(80000, 80000)] 80 (s_spec_l1Cur_of hy28) cf_spec_l1Cur_of rfl rfl kk rfl (zU kk zZ) rfl kk rfl rfl rfl) ?_
   refine YF ?_
   obtain rfl := zB h
   show St.keep _ _ _ = _
   kernel_rfl
  ·refine zG ?_
   obtain rfl := zB h
   show St.keep _ _ _ = _
   kernel_rfl
 obtain ⟨j29, hj29, h⟩ := zA h
 refine zCw (mb 115 49) [40, 32, 80000] (s1 := ⟨.pt 80000 0 :: bt 3 (.pt 32 0 :: .pt 40 0 :: bt 109 []), [(40, .box [Ti y3.1, .v (.string j23.1), .v (.string j29.1), .v (.string j29.2.1), Ti j29.2.2.1, Ti j29.2.2.2.1, Ti j29.2.2.2.2]), (32, .box [Ti 0, .v (.string ByteArray.empty), .v (.string ByteArray.empty), .v (.string ByteArray.empty), Ti 0, Ti 0, Ti 0]), (80000, .pbox (σ 80000) [.sl (j23.2.1.map c5), Ti j23.2.2.1, .v (.int .u64 j23.2.2.2)])]⟩) ?_ ?_
 ·clear h
  have h := hj29
  clear hj29
  refine VE ?_
  refine zN ?_
  obtain ⟨j30, hj30, h⟩ := zA h
  refine zCw (mb 115 29014219670751100192948721) [64, 40, 32, 80000] (s1 := ⟨.pt 80000 0 :: bt 3 (.pt 32 0 :: .pt 40 0 :: .c (.v (.string j8.1)) :: .c (.v (.string j8.2.1)) :: .pt 64 0 :: bt 74 (I y3.1 :: Bo j30 :: bt 30 [])), [(64, .box [Ti j8.2.2.1, Ti j8.2.2.2.1, Ti j8.2.2.2.2.1]), (40, .box [Ti y3.1, .v (.string j23.1), .v (.string ByteArray.empty), .v (.string ByteArray.empty), Ti 0, Ti 0, Ti 0]), (32, .box [Ti 0, .v (.string ByteArray.empty), .v (.string ByteArray.empty), .v (.string ByteArray.empty), Ti 0, Ti 0, Ti 0]), (80000, .pbox (σ 80000) [.sl (j23.2.1.map c5), Ti j23.2.2.1, .v (.int .u64 j23.2.2.2)])]⟩) ?_ ?_
  ·clear h
   have h := hj30
   clear hj30
   refine VE ?_
   refine VC h (fun h => ?_) (fun h => ?_)
   ·refine zG ?_
    obtain rfl := zB h
    show St.keep _ _ _ = _
    kernel_rfl
   ·refine zX ?_
    refine YF ?_
    obtain rfl := zB h
    show St.keep _ _ _ = _
    kernel_rfl
  refine VC h (fun h => ?_) (fun h => ?_)
  ·refine zX ?_
   refine YF ?_
   obtain rfl := zB h
   show St.keep _ _ _ = _
   kernel_rfl
  ·refine VE ?_
   refine VC h (fun h => ?_) (fun h => ?_)
   ·refine VE ?_
    refine zX ?_
    refine YF ?_
    obtain rfl := zB h
    show St.keep _ _ _ = _
    kernel_rfl
   ·refine VE ?_
    refine VC h (fun h => ?_) (fun h => ?_)
    ·refine zX ?_
     refine YF ?_
     obtain rfl := zB h
     show St.keep _ _ _ = _
     kernel_rfl
    ·refine zG ?_
     obtain rfl := zB h
     show St.keep _ _ _ = _
     kernel_rfl
 refine zJ ?_
 obtain ⟨y35, hy35, h⟩ := zA h
 refine VS ?_
 refine YR 1 ?_
 refine zM rfl (zV [(80000, 80000)] 100 (zL hy35) zH rfl rfl kk rfl (zU kk zZ) rfl kk rfl rfl rfl) ?_
 refine YF ?_
 refine zN ?_
 refine VE ?_
 refine VC h (fun h => ?_) (fun h => ?_)
 ·obtain ⟨y37, hy37, h⟩ := zA h
  refine zX ?_
  refine YR 1 ?_
  refine L1 rfl rfl (qP (z := zv3) (els := [0, 6, -1, 2].map c3) Tryz.underlying24 iz3 rfl (by decide) rfl kk rfl (by simp [c3]) (by decide) (by decide)) ?_
  refine zCh 832 (T := 3) (sz := 1) (els := ([0, 6, -1, 2]).map c3) kk rfl ?_
  refine zM rfl (zV [(80000, 80000)] 105 (zAo hy37) zA9 rfl rfl kk rfl (zU kk zZ) rfl kk rfl rfl rfl) ?_
  refine YF ?_
  show V _ _ _ _
  refine VE ?_
  cases h
  exact zE VTR
 ·refine VE ?_
  refine VC h (fun h => ?_) (fun h => ?_)
  ·refine zX ?_
   refine YF ?_
   show V _ _ _ _
   refine VE ?_
   cases h
   exact zE VTR
  ·refine VE ?_
   refine VC h (fun h => ?_) (fun h => ?_)
   ·refine zX ?_
    refine L0 rfl rfl (zW (cs := [Ti 1, Ti 0, Ti 1]) pl38 bt38 rfl rfl kk) ?_
    refine YF ?_
    show V _ _ _ _
    refine VE ?_
    cases h
    exact zE VTR
   ·refine zG ?_
    show V _ _ _ _
    refine VE ?_
    cases h
    exact zE VTR
theorem zEO : CfW Tryz.prog 92 := cfW Tryz.func92
theorem s_spec_lgName {vs1 : ByteArray} {r : Bool} (h : zBi vs1 = some r) : zT Tryz.prog 92 [.c (.v (.string vs1))] (Bo r) [] := by
 refine CtW [2] Tryz.func92 rfl rfl 23 ?_
 unfold zBi at h
 refine VE ?_
 refine zJ ?_
 refine VE ?_
 obtain ⟨qo4, hLo4, hko4⟩ := zA h
 refine zEX (q := qo4) (S := fun o4 => ⟨.c (.v (.string vs1)) :: bt 22 [], []⟩) (mb 23 1) [] ?_ ?_
 ·refine zN (jH (fun n s => ∃ (i2 : Int), s.keep (mb 23 9) [] = (⟨.c (.v (.string vs1)) :: .bot :: .bot :: I i2 :: bt 19 [], []⟩ : St) ∧ zBl vs1 n i2 = some qo4) FU ⟨_,  kk, hLo4⟩ ?_)
  clear hLo4
  rintro n s ⟨i2, hs, h⟩
  refine jE _ _ hs ?_
  clear hs
  cases n with
  | zero => cases h
  | succ n =>
   rw [zBl] at h
   refine zJ ?_
   refine VS ?_
   refine YF ?_
   refine VC h (fun h => ?_) (fun h => ?_)
   ·refine zG ?_
    show V _ _ _ _
    refine zJ ?_
    refine zN ?_
    obtain ⟨e6, he6, h⟩ := zA h
    obtain ⟨b9, hb9, h⟩ := zA h
    refine zO (mb 23 524297) [] (s1 := ⟨.c (.v (.string vs1)) :: .bot :: .bot :: I i2 :: bt 15 (Bo b9 :: bt 3 []), []⟩) ?_ ?_
    ·refine YR 2 ?_
     refine L0 rfl rfl (zC0 (b := vs1) (k := .i64) (n := i2) (v := e6) Tryz.underlying9 rfl kk kk he6) ?_
     refine YR 2 ?_
     refine zD (ltI e6 97) (fun hc7 => ?_) (fun hc7 => ?_)
     ·have hb9 := zB (qM hb9 hc7)
      refine YQ hc7 ?_
      exact YE (by rw [← hb9]; (try rw [hc7]); kernel_rfl)
     ·have hb9 := qB hb9 hc7
      obtain ⟨e8, he8, hb9⟩ := zA hb9
      have hb9 := zB hb9
      refine YQ hc7 ?_
      refine YR 2 ?_
      refine YT (qD rfl (zC0 (b := vs1) (k := .i64) (n := i2) (v := e8) Tryz.underlying9 rfl kk kk he8)) ?_
      exact YE (by rw [← hb9]; (try rw [hc7]); kernel_rfl)
    refine VC h (fun h => ?_) (fun h => ?_)
    ·refine VE ?_
     refine zE ?_
     obtain rfl := zB h
     have h := hko4
     obtain rfl := zB h
     exact VT
    ·refine zG ?_
     show V _ _ _ _
     obtain ⟨i11, hi11, h⟩ := zS h
     refine jD (mb 23 9) [] (s1 := ⟨.c (.v (.string vs1)) :: .bot :: .bot :: I i11 :: bt 19 [], []⟩) ?_ ?_
     ·refine XR 3 ?_
      refine zK ?_
      subst hi11
      kernel_rfl
     exact ⟨n, Nat.lt_succ_self n, _,  kk, h⟩
   ·refine jA ?_
    obtain rfl := zB h
    exact ⟨_, rfl, kk⟩
 rintro o4 rfl
 have h := hko4
 clear hko4
 show V _ _ _ _
 obtain ⟨y12, hy12, h⟩ := zA h
 refine VS ?_
 refine YK 2 (zDv hy12) zD4 ?_
 refine YF ?_
 cases h
 exact zE VT
theorem zEP : CfW Tryz.prog 93 := cfW Tryz.func93
theorem s_spec_lgHasForm {kind1 : Int} {r : Bool} (h : zAZ kind1 = some r) : zT Tryz.prog 93 [I kind1] (Bo r) [] := by
 refine CtW [2] Tryz.func93 rfl rfl 9 ?_
 unfold zAZ at h
 refine VE ?_
 refine zO (mb 9 4) [] (s1 := ⟨.bot :: .bot :: Bo (bif (eqI kind1 1) then true else (eqI kind1 5)) :: bt 6 [], []⟩) ?_ ?_
 ·refine YR 3 ?_
  refine zD (eqI kind1 1) (fun hc2 => ?_) (fun hc2 => ?_)
  ·refine YQ hc2 ?_
   exact YE (by rw [hc2]; kernel_rfl)
  ·refine YQ hc2 ?_
   exact YE (by rw [hc2]; kernel_rfl)
 cases h
 exact zE VT
theorem zEQ : CfW Tryz.prog 49 := cfW Tryz.func49
theorem s_spec_lgCommand {c1 : (Int × ByteArray × ByteArray × ByteArray × ((Int × Int × Int)))} {r : Bool} (h : zAD c1 = some r) : zT Tryz.prog 49 [.ag [Ti c1.1, .v (.string c1.2.1), .v (.string c1.2.2.1), .v (.string c1.2.2.2.1), Ti c1.2.2.2.2.1, Ti c1.2.2.2.2.2.1, Ti c1.2.2.2.2.2.2]] (Bo r) [] := by
 refine CtW [2] Tryz.func49 rfl rfl 63 ?_
 unfold zAD at h
 refine VE ?_
 refine zJ ?_
 obtain ⟨y2, hy2, h⟩ := zA h
 obtain ⟨b5, hb5, h⟩ := zA h
 refine zO (mb 63 4098) [8] (s1 := ⟨.bot :: .pt 8 0 :: bt 10 (Bo b5 :: bt 50 []), [(8, .box [Ti c1.1, .v (.string c1.2.1), .v (.string c1.2.2.1), .v (.string c1.2.2.2.1), Ti c1.2.2.2.2.1, Ti c1.2.2.2.2.2.1, Ti c1.2.2.2.2.2.2])]⟩) ?_ ?_
 ·refine YK 2 (zDv hy2) zD4 ?_
  refine YR 2 ?_
  refine zD (!y2) (fun hc3 => ?_) (fun hc3 => ?_)
  ·have hb5 := zB (qM hb5 hc3)
   refine YQ hc3 ?_
   exact YE (by rw [← hb5]; (try rw [hc3]); kernel_rfl)
  ·have hb5 := qB hb5 hc3
   obtain ⟨y4, hy4, hb5⟩ := zA hb5
   have hb5 := zB hb5
   refine YQ hc3 ?_
   refine YK 2 (s_spec_lgName hy4) zEO ?_
   exact YE (by rw [← hb5]; (try rw [hc3]); kernel_rfl)
 refine VC h (fun h => ?_) (fun h => ?_)
 ·refine VE ?_
  cases h
  exact zE VT
 ·refine zG ?_
  show V _ _ _ _
  refine zJ ?_
  obtain ⟨y7, hy7, h⟩ := zA h
  refine VS ?_
  refine YK 2 (s_spec_lgHasForm hy7) zEP ?_
  refine YF ?_
  refine VC h (fun h => ?_) (fun h => ?_)
  ·obtain ⟨y9, hy9, h⟩ := zA h
   obtain ⟨t12, ht12, h⟩ := zA h
   have ht12 := zB ht12
   refine zO (mb 63 4) [] (s1 := ⟨.bot :: .bot :: Bo t12 :: bt 60 [], []⟩) ?_ ?_
   ·refine YK 2 (s_spec_coGood hy9) cf_spec_coGood ?_
    refine YR 1 ?_
    refine zD y9 (fun hc10 => ?_) (fun hc10 => ?_)
    ·refine YQ hc10 ?_
     refine YR 5 ?_
     refine zD (bif y9 then (c1.2.2.1.toList == ((⟨#[]⟩ : ByteArray)).toList) else false) (fun hc11 => ?_) (fun hc11 => ?_)
     ·refine YQ hc11 ?_ (by rw [hc10]; kernel_rfl)
      exact YE (by rw [← ht12]; (try rw [hc11]); (try rw [hc10]); kernel_rfl)
     ·refine YQ hc11 ?_ (by rw [hc10]; kernel_rfl)
      exact YE (by rw [← ht12]; (try rw [hc11]); (try rw [hc10]); kernel_rfl)
    ·refine YQ hc10 ?_
     refine YR 5 ?_
     refine zD (bif y9 then (c1.2.2.1.toList == ((⟨#[]⟩ : ByteArray)).toList) else false) (fun hc11 => ?_) (fun hc11 => ?_)
     ·refine YQ hc11 ?_ (by rw [hc10]; kernel_rfl)
      exact YE (by rw [← ht12]; (try rw [hc11]); (try rw [hc10]); kernel_rfl)
     ·refine YQ hc11 ?_ (by rw [hc10]; kernel_rfl)
      exact YE (by rw [← ht12]; (try rw [hc11]); (try rw [hc10]); kernel_rfl)
   cases h
   exact zE VT
  ·refine zG ?_
   show V _ _ _ _
   refine zJ ?_
   obtain ⟨t13, ht13, h⟩ := zA h
   have ht13 := zB ht13
   refine zO (mb 63 4294967298) [8] (s1 := ⟨.bot :: .pt 8 0 :: bt 30 (Bo t13 :: bt 30 []), [(8, .box [Ti c1.1, .v (.string c1.2.1), .v (.string c1.2.2.1), .v (.string c1.2.2.2.1), Ti c1.2.2.2.2.1, Ti c1.2.2.2.2.2.1, Ti c1.2.2.2.2.2.2])]⟩) ?_ ?_
   ·refine XR 2 ?_
    refine L0 rfl rfl (zW (cs := [Ti 0, Ti 0, Ti 0]) pl38 bt38 rfl rfl kk) ?_
    refine L0 rfl rfl (Y0_neg3 (a0 := c1.2.2.2.2.1) (b0 := 0) (a1 := c1.2.2.2.2.2.1) (b1 := 0) (a2 := c1.2.2.2.2.2.2) (b2 := 0) neg38 rfl kk kk) ?_
    refine zK ?_
    subst ht13
    kernel_rfl
   refine VC h (fun h => ?_) (fun h => ?_)
   ·refine VE ?_
    cases h
    exact zE VT
   ·refine zG ?_
    show V _ _ _ _
    refine zJ ?_
    refine VE ?_
    refine zN ?_
    refine VE ?_
    refine VC h (fun h => ?_) (fun h => ?_)
    ·obtain ⟨y16, hy16, h⟩ := zA h
     obtain ⟨b19, hb19, h⟩ := zA h
     refine zO (mb 63 4) [] (s1 := ⟨.bot :: .bot :: Bo b19 :: bt 60 [], []⟩) ?_ ?_
     ·refine YK 2 (s_spec_lgName hy16) zEO ?_
      refine YR 1 ?_
      refine zD y16 (fun hc17 => ?_) (fun hc17 => ?_)
      ·have hb19 := qM hb19 hc17
       obtain ⟨y18, hy18, hb19⟩ := zA hb19
       have hb19 := zB hb19
       refine YQ hc17 ?_
       refine YK 2 (s_spec_lgName hy18) zEO ?_
       exact YE (by rw [← hb19]; (try rw [hc17]); kernel_rfl)
      ·have hb19 := zB (qB hb19 hc17)
       refine YQ hc17 ?_
       exact YE (by rw [← hb19]; (try rw [hc17]); kernel_rfl)
     cases h
     exact zE VT
    ·refine VE ?_
     refine VC h (fun h => ?_) (fun h => ?_)
     ·obtain ⟨y21, hy21, h⟩ := zA h
      obtain ⟨t23, ht23, h⟩ := zA h
      have ht23 := zB ht23
      refine zO (mb 63 4) [] (s1 := ⟨.bot :: .bot :: Bo t23 :: bt 60 [], []⟩) ?_ ?_
      ·refine YK 2 (s_spec_lgName hy21) zEO ?_
       refine YR 1 ?_
       refine zD y21 (fun hc22 => ?_) (fun hc22 => ?_)
       ·refine YQ hc22 ?_
        exact YE (by rw [← ht23]; (try rw [hc22]); kernel_rfl)
       ·refine YQ hc22 ?_
        exact YE (by rw [← ht23]; (try rw [hc22]); kernel_rfl)
      cases h
      exact zE VT
     ·refine zG ?_
      show V _ _ _ _
      obtain ⟨t25, ht25, h⟩ := zA h
      have ht25 := zB ht25
      refine zO (mb 63 4) [] (s1 := ⟨.bot :: .bot :: Bo t25 :: bt 60 [], []⟩) ?_ ?_
      ·refine YR 4 ?_
       refine zD (c1.2.2.1.toList == ((⟨#[]⟩ : ByteArray)).toList) (fun hc24 => ?_) (fun hc24 => ?_)
       ·refine YQ hc24 ?_
        exact YE (by rw [← ht25]; (try rw [hc24]); kernel_rfl)
       ·refine YQ hc24 ?_
        exact YE (by rw [← ht25]; (try rw [hc24]); kernel_rfl)
      cases h
      exact zE VT
theorem cf_spec_lgFind : CfW Tryz.prog 95 := cfW Tryz.func95
theorem s_spec_lgFind {l1 : List ((ByteArray × ((Int × Int × Int))))} {name2 : ByteArray} {r : Int} (h : zAy l1 name2 = some r) : zT Tryz.prog 95 [.c (.sl (l1.map c73)), .c (.v (.string name2))] (I r) [] := by
 refine CtW [4] Tryz.func95 rfl rfl 20 ?_
 unfold zAy at h
 refine VE ?_
 refine zJ ?_
 refine VS ?_
 refine YR 1 ?_
 refine L0 rfl rfl (qK (c := c73) (xs := l1) Tryz.underlying43 rfl kk) ?_
 refine YF ?_
 obtain ⟨qo5, hLo5, hko5⟩ := zA h
 refine zEX (q := qo5) (S := fun o5 => ⟨bt 20 [], []⟩) (mb 20 0) [] ?_ ?_
 ·refine zN (jH (fun n s => ∃ (t3 : Int), s.keep (mb 20 898) [] = (⟨.bot :: .c (.v (.string name2)) :: bt 5 (.c (.sl (l1.map c73)) :: I ((l1.length : Int)) :: I t3 :: bt 10 []), []⟩ : St) ∧ zAs l1 name2 n t3 = some qo5) FU ⟨_,  kk, hLo5⟩ ?_)
  clear hLo5
  rintro n s ⟨t3, hs, h⟩
  refine jE _ _ hs ?_
  clear hs
  cases n with
  | zero => cases h
  | succ n =>
   rw [zAs] at h
   refine VE ?_
   refine zJ ?_
   refine VC h (fun h => ?_) (fun h => ?_)
   ·refine zG ?_
    show V _ _ _ _
    refine zJ ?_
    refine zN ?_
    obtain ⟨e7, he7, h⟩ := zA h
    refine VS ?_
    refine YR 1 ?_
    refine L0 rfl rfl (zAn (c := c73) (xs := l1) (v := e7) (n := t3) Tryz.underlying43 sz73 rfl kk kk he7) ?_
    refine YF ?_
    refine VS ?_
    refine YF ?_
    refine VC h (fun h => ?_) (fun h => ?_)
    ·refine VE ?_
     refine zE ?_
     obtain rfl := zB h
     have h := hko5
     obtain rfl := zB h
     exact VT
    ·refine zG ?_
     show V _ _ _ _
     obtain ⟨t9, ht9, h⟩ := zS h
     refine jD (mb 20 898) [] (s1 := ⟨.bot :: .c (.v (.string name2)) :: bt 5 (.c (.sl (l1.map c73)) :: I ((l1.length : Int)) :: I t9 :: bt 10 []), []⟩) ?_ ?_
     ·refine XR 2 ?_
      refine zK ?_
      subst ht9
      kernel_rfl
     exact ⟨n, Nat.lt_succ_self n, _,  kk, h⟩
   ·refine jA ?_
    obtain rfl := zB h
    exact ⟨_, rfl, kk⟩
 rintro o5 rfl
 have h := hko5
 clear hko5
 show V _ _ _ _
 refine VE ?_
 cases h
 exact zE VT
theorem cf_spec_lgDrop : CfW Tryz.prog 96 := cfW Tryz.func96
theorem s_spec_lgDrop {l1 : List ((ByteArray × ((Int × Int × Int))))} {vat2 : Int} {r : List ((ByteArray × ((Int × Int × Int))))} (h : zDD l1 vat2 = some r) : zT Tryz.prog 96 [.c (.sl (l1.map c73)), I vat2] (.ow 0) [(0, .arr 73 4 (r.map c73))] := by
 refine CtW [4] Tryz.func96 rfl rfl 17 ?_
 unfold zDD at h
 refine VS ?_
 refine L1 rfl rfl (zAU (e := 73) 4 (by decide) (.inl rfl)) ?_
 refine YF ?_
 obtain ⟨u3, hu3, h⟩ := zA h
 obtain ⟨u4, hu4, h⟩ := zA h
 obtain ⟨l5, hl5, h⟩ := zA h
 have hl5 := zB hl5
 refine zO (mb 17 35) [48] (s1 := ⟨.c (.sl (l1.map c73)) :: I vat2 :: bt 3 (.ow 48 :: bt 11 []), [(48, .arr 73 4 (l5.map c73))]⟩) ?_ ?_
 ·refine L1 rfl rfl (zBs Tryz.underlying43 sz73 (by decide) rfl rfl) ?_
  refine XR 2 ?_
  refine L0 rfl rfl (Y0_slice (c := c73) (xs := l1) (l := 0) (h := vat2) Tryz.underlying43 sz73 (fun _ => rfl) rfl kk (fun y hy => by cases hy) (fun _ => rfl) (fun y hy => by cases hy; exact ⟨.i64, kk⟩) (fun hh => by cases hh) (zB1 hu3)) ?_
  refine zM rfl (X_appendA (c := c73) (xs := ([] : List ((ByteArray × ((Int × Int × Int)))))) (ys := subl l1 0 vat2) (id := 48) (z := zv73) rfl rfl Tryz.underlying43 izb73 rfl kk kk kk (fun _ => rfl) (zAY hu4) (by decide)) ?_
  refine XR 1 ?_
  refine zK ?_
  subst hl5
  kernel_rfl
 obtain ⟨u6, hu6, h⟩ := zA h
 obtain ⟨u7, hu7, h⟩ := zA h
 refine VS ?_
 refine YR 4 ?_
 refine L0 rfl rfl (Y0_slice (c := c73) (xs := l1) (l := w64 (vat2 + 1)) (h := (l1.length : Int)) Tryz.underlying43 sz73 (fun _ => rfl) rfl kk (fun y hy => by cases hy; exact ⟨.i64, kk⟩) (fun hh => by cases hh) (fun y hy => by cases hy) (fun _ => rfl) (zB1 hu6)) ?_
 refine zM rfl (X_appendA (c := c73) (xs := l5) (ys := subl l1 (w64 (vat2 + 1)) ((l1.length : Int))) (id := 48) (z := zv73) rfl rfl Tryz.underlying43 izb73 rfl kk kk kk (fun _ => rfl) (zAY hu7) (by decide)) ?_
 refine YF ?_
 cases h
 exact zE VT
theorem cf_spec_reNormal : CfW Tryz.prog 274 := cfW Tryz.func274
theorem s_spec_reNormal {f1 : (Int × Int × Int)} {r : Int} (h : zDk f1 = some r) : zT Tryz.prog 274 [.ag [Ti f1.1, Ti f1.2.1, Ti f1.2.2]] (I r) [] := by
 refine CtW [2] Tryz.func274 rfl rfl 22 ?_
 unfold zDk at h
 refine VE ?_
 obtain ⟨y2, hy2, h⟩ := zA h
 obtain ⟨z3, hz3, h⟩ := zA h
 obtain ⟨t4, ht4, h⟩ := zS h
 refine zC1 [0, 1, 0, 4, 15, 0, 32, 0, 128, 480, 0, 1024, 3072, 8160, 16383, 0, 32768, 98304, 262143, 524287] 20 (cdm 20 [45276113056, 45276113057, 45276112906, 45276112922, 45276112981, 45141361322, 45141362346, 45141207722, 45141224106, 45141284522, 45097855658, 45098904234, 45103098538, 45119526570, 45186635093, 715827882, 1789569706, 6084537002, 22906492245, 91625968981]) (mb 22 4) [] (s1 := ⟨.bot :: .bot :: I t4 :: bt 19 [], []⟩) kk kk ?_ ?_
 ·refine DR 13 ?_
  refine DC 13 (zBg hy2) zB0 rfl rfl rfl rfl 16 rfl ?_
  refine DR 4 ?_
  refine DE_0 18 (I (w64 (Int.tdiv (w64 ((w64 (f1.1 - f1.2.1)) - y2)) (w64 (2 * f1.1))))) kk rfl rfl rfl (qO rfl) kk (zAC (a := w64 ((w64 (f1.1 - f1.2.1)) - y2)) (b := w64 (2 * f1.1)) rfl kk kk (jT hz3)) 21 rfl ?_
  refine DA 1 ?_
  refine zK ?_
  subst ht4
  kernel_rfl
 cases h
 exact zE VT
theorem cf_spec_reMove : CfW Tryz.prog 236 := cfW Tryz.func236
theorem s_spec_reMove {f1 : (Int × Int × Int)} {r : (Int × Int × Int × Int)} (h : zDC f1 = some r) : zT Tryz.prog 236 [.ag [Ti f1.1, Ti f1.2.1, Ti f1.2.2]] (.ag [Ti r.1, Ti r.2.1, Ti r.2.2.1, Ti r.2.2.2]) [] := by
 refine zY (rs := [.w 2 4]) (vs := [.cell 2 109]) Tryz.func236 rfl rfl (.cons ⟨rfl, wd109⟩ FitsL.nil) (by decide) 14 rfl ?_
 unfold zDC at h
 refine VE ?_
 refine zJ ?_
 obtain ⟨y2, hy2, h⟩ := zA h
 refine VS ?_
 refine YK 1 (s_spec_reNormal hy2) cf_spec_reNormal ?_
 refine YF ?_
 refine VE ?_
 refine VC h (fun h => ?_) (fun h => ?_)
 ·refine VS ?_
  refine YR 1 ?_
  refine L0 rfl rfl (zW (cs := [Ti 1, Ti y2, Ti 0, Ti 1]) zEK bt109 rfl rfl kk) ?_
  refine YF ?_
  cases h
  exact zE VT
 ·refine zG ?_
  show V _ _ _ _
  refine zJ ?_
  obtain ⟨y4, hy4, h⟩ := zA h
  refine VS ?_
  refine YK 1 (s_spec_reIs hy4) cf_spec_reIs ?_
  refine YF ?_
  refine VC h (fun h => ?_) (fun h => ?_)
  ·refine VS ?_
   refine L0 rfl rfl (zW (cs := [Ti 1, Ti 0, Ti 0, Ti 1]) zEK bt109 rfl rfl kk) ?_
   refine YF ?_
   cases h
   exact zE VT
  ·refine zG ?_
   show V _ _ _ _
   refine VS ?_
   refine L0 rfl rfl (zW (cs := [Ti 0, Ti (-1), Ti 1, Ti 0]) zEK bt109 rfl rfl kk) ?_
   refine YF ?_
   cases h
   exact zE VT
theorem cf_spec_reReduce : CfW Tryz.prog 183 := cfW Tryz.func183
theorem s_spec_reReduce {f1 : (Int × Int × Int)} {r : (((Int × Int × Int)) × ((Int × Int × Int × Int)))} (h : jI f1 = some r) : zT Tryz.prog 183 [.ag [Ti f1.1, Ti f1.2.1, Ti f1.2.2]] (.tc (.ag [Ti r.1.1, Ti r.1.2.1, Ti r.1.2.2]) (.tc (.ag [Ti r.2.1, Ti r.2.2.1, Ti r.2.2.2.1, Ti r.2.2.2.2]) .tn)) [] := by
 refine zY (rs := [.w 2 3, .w 3 4]) (vs := [.cell 2 38, .cell 3 109]) Tryz.func183 rfl rfl (.cons ⟨rfl, wd38⟩ (.cons ⟨rfl, wd109⟩ FitsL.nil)) (by decide) 20 rfl ?_
 unfold jI at h
 refine VE ?_
 refine VS ?_
 refine L0 rfl rfl (zW (cs := [Ti 1, Ti 0, Ti 0, Ti 1]) zEK bt109 rfl rfl kk) ?_
 refine YF ?_
 refine zJ ?_
 obtain ⟨o10, hLo10, h⟩ := zA h
 refine zCV (mb 20 30) [32, 24, 16, 8] (s1 := ⟨.bot :: .pt 8 0 :: .pt 16 0 :: .pt 24 0 :: .pt 32 0 :: bt 15 [], [(32, .box [Ti o10.1, Ti o10.2.1, Ti o10.2.2.1, Ti o10.2.2.2.1]), (24, .box [Ti 0, Ti 0, Ti 0, Ti 0]), (16, .box [Ti 0, Ti 0, Ti 0]), (8, .box [Ti o10.2.2.2.2.1, Ti o10.2.2.2.2.2.1, Ti o10.2.2.2.2.2.2])]⟩) ?_ ?_
 ·clear h
  refine zN (jH (fun n s => ∃ (f2 : Int) (f3 : Int) (f4 : Int) (f5 : Int) (f6 : Int) (f7 : Int) (f8 : Int), s.keep (mb 20 30) [32, 24, 16, 8] = (⟨.bot :: .pt 8 0 :: .pt 16 0 :: .pt 24 0 :: .pt 32 0 :: bt 15 [], [(32, .box [Ti f2, Ti f3, Ti f4, Ti f5]), (24, .box [Ti 0, Ti 0, Ti 0, Ti 0]), (16, .box [Ti 0, Ti 0, Ti 0]), (8, .box [Ti f6, Ti f7, Ti f8])]⟩ : St) ∧ zBR n f2 f3 f4 f5 f6 f7 f8 = some o10) FU ⟨_, _, _, _, _, _, _,  kk, hLo10⟩ ?_)
  clear hLo10
  rintro n s ⟨f2, f3, f4, f5, f6, f7, f8, hs, h⟩
  refine jE _ _ hs ?_
  clear hs
  cases n with
  | zero => cases h
  | succ n =>
   rw [zBR] at h
   refine zJ ?_
   obtain ⟨y11, hy11, h⟩ := zA h
   refine VS ?_
   refine YK 1 (s_spec_reIs hy11) cf_spec_reIs ?_
   refine YF ?_
   refine VC h (fun h => ?_) (fun h => ?_)
   ·refine zG ?_
    show V _ _ _ _
    refine zN ?_
    obtain ⟨y13, hy13, h⟩ := zA h
    refine VS ?_
    refine YK 1 (s_spec_reMove hy13) cf_spec_reMove ?_
    refine YF ?_
    obtain ⟨y14, hy14, h⟩ := zA h
    obtain ⟨y15, hy15, h⟩ := zA h
    refine VDR [0, 0, 3, 0, 0, 31, 63, 127] 6 (cdm 6 [648, 642, 645, 554, 170, 341]) ?_
    refine EK 2 (s_spec_foAct hy14) cf_spec_foAct ?_
    refine EK 2 (zCl hy15) zCU ?_
    refine EF 0 ?_
    exact ⟨n, Nat.lt_succ_self n, _, _, _, _, _, _, _,  kk, h⟩
   ·refine jA ?_
    obtain rfl := zB h
    show St.keep _ _ _ = _
    kernel_rfl
 show V _ _ _ _
 refine VDS [0, 0, 1, 7] 3 [[.z, .b, .z], [.b, .z, .r 16], [.a, .b, .z]] ?_
 refine EF 3 ?_
 cases h
 exact zE VT
theorem zDp : CfW Tryz.prog 97 := cfW Tryz.func97
theorem zEF {f1 : (Int × Int × Int)} {r : (Int × Int × Int)} (h : zAh f1 = some r) : zT Tryz.prog 97 [.ag [Ti f1.1, Ti f1.2.1, Ti f1.2.2]] (.ag [Ti r.1, Ti r.2.1, Ti r.2.2]) [] := by
 refine zY (rs := [.w 2 3]) (vs := [.cell 2 38]) Tryz.func97 rfl rfl (.cons ⟨rfl, wd38⟩ FitsL.nil) (by decide) 11 rfl ?_
 unfold zAh at h
 refine VE ?_
 obtain ⟨y2, hy2, h⟩ := zA h
 refine VS ?_
 refine YK 1 (s_spec_reReduce hy2) cf_spec_reReduce ?_
 refine YF ?_
 refine VE ?_
 cases h
 exact zE VT
theorem cf_spec_lgPut : CfW Tryz.prog 98 := cfW Tryz.func98
theorem s_spec_lgPut {l1 : List ((ByteArray × ((Int × Int × Int))))} {e2 : (ByteArray × ((Int × Int × Int)))} {r : List ((ByteArray × ((Int × Int × Int))))} (h : zD0 l1 e2 = some r) : zT Tryz.prog 98 [.c (.sl (l1.map c73)), .ag [.v (.string e2.1), Ti e2.2.1, Ti e2.2.2.1, Ti e2.2.2.2]] (.ow 0) [(0, .arr 73 4 (r.map c73))] := by
 refine CtW [4] Tryz.func98 rfl rfl 37 ?_
 unfold zD0 at h
 refine VS ?_
 refine YR 1 ?_
 refine L1 rfl rfl (zAU (e := 73) 4 (by decide) (.inl rfl)) ?_
 refine YF ?_
 refine VE ?_
 refine zJ ?_
 obtain ⟨o5, hLo5, h⟩ := zA h
 refine zCV (mb 37 41) [24] (s1 := ⟨.c (.sl (l1.map c73)) :: .bot :: .bot :: .pt 24 0 :: .bot :: I o5 :: bt 31 [], [(24, .box [.v (.string e2.1), Ti e2.2.1, Ti e2.2.2.1, Ti e2.2.2.2])]⟩) ?_ ?_
 ·clear h
  refine zN (jH (fun n s => ∃ (k3 : Int), s.keep (mb 37 41) [24] = (⟨.c (.sl (l1.map c73)) :: .bot :: .bot :: .pt 24 0 :: .bot :: I k3 :: bt 31 [], [(24, .box [.v (.string e2.1), Ti e2.2.1, Ti e2.2.2.1, Ti e2.2.2.2])]⟩ : St) ∧ zBL e2 l1 n k3 = some o5) FU ⟨_,  kk, hLo5⟩ ?_)
  clear hLo5
  rintro n s ⟨k3, hs, h⟩
  refine jE _ _ hs ?_
  clear hs
  cases n with
  | zero => cases h
  | succ n =>
   rw [zBL] at h
   refine zJ ?_
   obtain ⟨b8, hb8, h⟩ := zA h
   refine zC1 [0, 0, 2, 7, 15, 31, 31, 127, 255, 511, 31, 1055, 4095, 8191] 14 (cdm 14 [40, 2, 6, 21, 85, 10494293, 10488149, 10491221, 10507605, 10573141, 698709, 1747285, 5592405, 22369621]) (mb 37 1048617) [24] (s1 := ⟨.c (.sl (l1.map c73)) :: .bot :: .bot :: .pt 24 0 :: .bot :: I k3 :: bt 14 (Bo b8 :: bt 16 []), [(24, .box [.v (.string e2.1), Ti e2.2.1, Ti e2.2.2.1, Ti e2.2.2.2])]⟩) kk kk ?_ ?_
   ·refine ER 2 ?_
    refine E0 2 rfl rfl (qK (c := c73) (xs := l1) Tryz.underlying43 rfl kk) ?_
    refine ER 2 ?_
    refine zEY (ltI k3 ((l1.length : Int))) (fun hc6 => ?_) (fun hc6 => ?_)
    ·have hb8 := qM hb8 hc6
     obtain ⟨e7, he7, hb8⟩ := zA hb8
     have hb8 := zB hb8
     refine EQ hc6 ?_
     refine ER 2 ?_
     refine E0 7 rfl rfl (zAn (c := c73) (xs := l1) (v := e7) (n := k3) Tryz.underlying43 sz73 rfl kk kk he7) ?_
     refine ER 4 ?_
     refine E0 12 rfl rfl (Y0_lts (a := e7.1) (b := e2.1) rfl kk kk) ?_
     refine EA 1 ?_
     exact YE (by rw [← hb8]; (try rw [hc6]); kernel_rfl)
    ·have hb8 := zB (qB hb8 hc6)
     refine EQ hc6 ?_
     refine EA 9 ?_
     exact YE (by rw [← hb8]; (try rw [hc6]); kernel_rfl)
   refine VC h (fun h => ?_) (fun h => ?_)
   ·refine zG ?_
    show V _ _ _ _
    refine zN ?_
    obtain ⟨k10, hk10, h⟩ := zS h
    refine jD (mb 37 41) [24] (s1 := ⟨.c (.sl (l1.map c73)) :: .bot :: .bot :: .pt 24 0 :: .bot :: I k10 :: bt 31 [], [(24, .box [.v (.string e2.1), Ti e2.2.1, Ti e2.2.2.1, Ti e2.2.2.2])]⟩) ?_ ?_
    ·refine XR 3 ?_
     refine zK ?_
     subst hk10
     kernel_rfl
    exact ⟨n, Nat.lt_succ_self n, _,  kk, h⟩
   ·refine jA ?_
    obtain rfl := zB h
    show St.keep _ _ _ = _
    kernel_rfl
 show V _ _ _ _
 obtain ⟨u11, hu11, h⟩ := zA h
 obtain ⟨u12, hu12, h⟩ := zA h
 obtain ⟨l13, hl13, h⟩ := zA h
 have hl13 := zB hl13
 refine zO (mb 37 105) [184, 24] (s1 := ⟨.c (.sl (l1.map c73)) :: .bot :: .bot :: .pt 24 0 :: .bot :: I o5 :: .ow 184 :: bt 30 [], [(184, .arr 73 4 (l13.map c73)), (24, .box [.v (.string e2.1), Ti e2.2.1, Ti e2.2.2.1, Ti e2.2.2.2])]⟩) ?_ ?_
 ·refine L1 rfl rfl (zBs Tryz.underlying43 sz73 (by decide) rfl rfl) ?_
  refine XR 2 ?_
  refine L0 rfl rfl (Y0_slice (c := c73) (xs := l1) (l := 0) (h := o5) Tryz.underlying43 sz73 (fun _ => rfl) rfl kk (fun y hy => by cases hy) (fun _ => rfl) (fun y hy => by cases hy; exact ⟨.i64, kk⟩) (fun hh => by cases hh) (zB1 hu11)) ?_
  refine zM rfl (X_appendA (c := c73) (xs := ([] : List ((ByteArray × ((Int × Int × Int)))))) (ys := subl l1 0 o5) (id := 184) (z := zv73) rfl rfl Tryz.underlying43 izb73 rfl kk kk kk (fun _ => rfl) (zAY hu12) (by decide)) ?_
  refine XR 1 ?_
  refine zK ?_
  subst hl13
  kernel_rfl
 obtain ⟨u14, hu14, h⟩ := zA h
 refine VS ?_
 refine YR 2 ?_
 refine L1 rfl rfl (qP (z := zv73) (els := [e2].map c73) Tryz.underlying43 iz73 rfl (by decide) rfl kk rfl (by simp [c73]) (by decide) (by decide)) ?_
 refine zM rfl (zBJ (c := c73) (xs := l13) (ys := [e2]) (id := 184) (z := zv73) rfl rfl Tryz.underlying43 izb73 rfl kk kk kk (fun _ => rfl) (by simp) (zAY hu14) (by decide)) ?_
 refine YF ?_
 obtain ⟨u15, hu15, h⟩ := zA h
 obtain ⟨u16, hu16, h⟩ := zA h
 refine VS ?_
 refine YR 3 ?_
 refine L0 rfl rfl (Y0_slice (c := c73) (xs := l1) (l := o5) (h := (l1.length : Int)) Tryz.underlying43 sz73 (fun _ => rfl) rfl kk (fun y hy => by cases hy; exact ⟨.i64, kk⟩) (fun hh => by cases hh) (fun y hy => by cases hy) (fun _ => rfl) (zB1 hu15)) ?_
 refine zM rfl (X_appendA (c := c73) (xs := l13 ++ ([e2])) (ys := subl l1 o5 ((l1.length : Int))) (id := 184) (z := zv73) rfl rfl Tryz.underlying43 izb73 rfl kk kk kk (fun _ => rfl) (zAY hu16) (by decide)) ?_
 refine YF ?_
 cases h
 exact zE VT
theorem cf_spec_coPoint : CfW Tryz.prog 238 := cfW Tryz.func238
theorem s_spec_coPoint {g1 : (Int × Int × Int)} {a2 : Int} {r : (Int × Int)} (h : zBp g1 a2 = some r) : zT Tryz.prog 238 [.ag [Ti g1.1, Ti g1.2.1, Ti g1.2.2], I a2] (.tc (I r.1) (.tc (I r.2) .tn)) [] := by
 refine CtW [4, 5] Tryz.func238 rfl rfl 45 ?_
 unfold zBp at h
 refine VE ?_
 refine zJ ?_
 refine VE ?_
 obtain ⟨qo5, hLo5, hko5⟩ := zA h
 refine zEX (q := qo5) (S := fun o5 => ⟨bt 45 [], []⟩) (mb 45 0) [] ?_ ?_
 ·refine zN (jH (fun n s => ∃ (k3 : Int), s.keep (mb 45 70) [16] = (⟨.bot :: I a2 :: .pt 16 0 :: bt 3 (I k3 :: bt 38 []), [(16, .box [Ti g1.1, Ti g1.2.1, Ti g1.2.2])]⟩ : St) ∧ zB9 a2 g1 n k3 = some qo5) FU ⟨_,  kk, hLo5⟩ ?_)
  clear hLo5
  rintro n s ⟨k3, hs, h⟩
  refine jE _ _ hs ?_
  clear hs
  cases n with
  | zero => cases h
  | succ n =>
   rw [zB9] at h
   refine zJ ?_
   refine VE ?_
   refine VC h (fun h => ?_) (fun h => ?_)
   ·refine zG ?_
    show V _ _ _ _
    refine zJ ?_
    refine zN ?_
    refine VE ?_
    obtain ⟨qo9, hLo9, hko9⟩ := zA h
    refine zEX (q := qo9) (S := fun o9 => ⟨.bot :: I a2 :: .pt 16 0 :: bt 3 (I k3 :: bt 38 []), [(16, .box [Ti g1.1, Ti g1.2.1, Ti g1.2.2])]⟩) (mb 45 70) [16] ?_ ?_
    ·refine zN (jH (fun n s => ∃ (x7 : Int), s.keep (mb 45 198) [16] = (⟨.bot :: I a2 :: .pt 16 0 :: bt 3 (I k3 :: I x7 :: bt 37 []), [(16, .box [Ti g1.1, Ti g1.2.1, Ti g1.2.2])]⟩ : St) ∧ zB8 a2 g1 k3 n x7 = some qo9) FU ⟨_,  kk, hLo9⟩ ?_)
     clear hLo9
     rintro n s ⟨x7, hs, h⟩
     refine jE _ _ hs ?_
     clear hs
     cases n with
     | zero => cases h
     | succ n =>
      rw [zB8] at h
      refine zJ ?_
      refine VE ?_
      refine VC h (fun h => ?_) (fun h => ?_)
      ·refine zG ?_
       show V _ _ _ _
       refine zJ ?_
       refine zN ?_
       refine VE ?_
       obtain ⟨qo13, hLo13, hko13⟩ := zA h
       refine zEX (q := qo13) (S := fun o13 => ⟨.bot :: I a2 :: .pt 16 0 :: bt 3 (I k3 :: I x7 :: bt 37 []), [(16, .box [Ti g1.1, Ti g1.2.1, Ti g1.2.2])]⟩) (mb 45 198) [16] ?_ ?_
       ·refine zN (jH (fun n s => ∃ (y11 : Int), s.keep (mb 45 454) [16] = (⟨.bot :: I a2 :: .pt 16 0 :: bt 3 (I k3 :: I x7 :: I y11 :: bt 36 []), [(16, .box [Ti g1.1, Ti g1.2.1, Ti g1.2.2])]⟩ : St) ∧ zBT a2 g1 k3 x7 n y11 = some qo13) FU ⟨_,  kk, hLo13⟩ ?_)
        clear hLo13
        rintro n s ⟨y11, hs, h⟩
        refine jE _ _ hs ?_
        clear hs
        cases n with
        | zero => cases h
        | succ n =>
         rw [zBT] at h
         refine zJ ?_
         refine VE ?_
         refine VC h (fun h => ?_) (fun h => ?_)
         ·refine zG ?_
          show V _ _ _ _
          refine zJ ?_
          refine zN ?_
          obtain ⟨y15, hy15, h⟩ := zA h
          obtain ⟨b18, hb18, h⟩ := zA h
          obtain ⟨b22, hb22, h⟩ := zA h
          refine zO (mb 45 4398046511558) [16] (s1 := ⟨.bot :: I a2 :: .pt 16 0 :: bt 3 (I k3 :: I x7 :: I y11 :: bt 33 (Bo b22 :: .bot :: .bot :: [])), [(16, .box [Ti g1.1, Ti g1.2.1, Ti g1.2.2])]⟩) ?_ ?_
          ·refine YK 2 (s_spec_l1Most hy15) cf_spec_l1Most ?_
           refine YR 3 ?_
           refine zD (eqI y15 k3) (fun hc16 => ?_) (fun hc16 => ?_)
           ·have hb18 := qM hb18 hc16
            obtain ⟨y17, hy17, hb18⟩ := zA hb18
            have hb18 := zB hb18
            refine YQ hc16 ?_
            refine YK 2 (zDY hy17) zDG ?_
            refine YR 3 ?_
            refine zD b18 (fun hc19 => ?_) (fun hc19 => ?_)
            ·have hb22 := qM hb22 hc19
             obtain ⟨y20, hy20, hb22⟩ := zA hb22
             obtain ⟨y21, hy21, hb22⟩ := zA hb22
             have hb22 := zB hb22
             refine YQ hc19 ?_ (by rw [← hb18]; (try rw [← hb22]); (try rw [hc16]); kernel_rfl)
             refine YK 3 (zEG hy20) zDq ?_
             refine YK 1 (zDY hy21) zDG ?_
             exact YE (by rw [← hb22]; (try rw [hc16]); (try rw [hc19]); kernel_rfl)
            ·have hb22 := zB (qB hb22 hc19)
             refine YQ hc19 ?_ (by rw [← hb18]; (try rw [← hb22]); (try rw [hc16]); kernel_rfl)
             exact YE (by rw [← hb22]; (try rw [hc16]); (try rw [hc19]); kernel_rfl)
           ·have hb18 := zB (qB hb18 hc16)
            refine YQ hc16 ?_
            refine YR 6 ?_
            subst hb18
            have hc19 : false = false := rfl
            have hb22 := zB (qB hb22 hc19)
            exact YE (by rw [← hb22]; (try rw [hc16]); kernel_rfl)
          refine VC h (fun h => ?_) (fun h => ?_)
          ·refine VE ?_
           refine zE ?_
           obtain rfl := zB h
           have h := hko13
           obtain rfl := zB h
           have h := hko9
           obtain rfl := zB h
           have h := hko5
           obtain rfl := zB h
           exact VT
          ·refine zG ?_
           show V _ _ _ _
           obtain ⟨y24, hy24, h⟩ := zS h
           refine jD (mb 45 454) [16] (s1 := ⟨.bot :: I a2 :: .pt 16 0 :: bt 3 (I k3 :: I x7 :: I y24 :: bt 36 []), [(16, .box [Ti g1.1, Ti g1.2.1, Ti g1.2.2])]⟩) ?_ ?_
           ·refine XR 3 ?_
            refine zK ?_
            subst hy24
            kernel_rfl
           exact ⟨n, Nat.lt_succ_self n, _,  kk, h⟩
         ·refine jA ?_
          obtain rfl := zB h
          exact ⟨_, rfl, kk⟩
       rintro o13 rfl
       have h := hko13
       clear hko13
       show V _ _ _ _
       obtain ⟨x25, hx25, h⟩ := zS h
       refine jD (mb 45 198) [16] (s1 := ⟨.bot :: I a2 :: .pt 16 0 :: bt 3 (I k3 :: I x25 :: bt 37 []), [(16, .box [Ti g1.1, Ti g1.2.1, Ti g1.2.2])]⟩) ?_ ?_
       ·refine XR 3 ?_
        refine zK ?_
        subst hx25
        kernel_rfl
       exact ⟨n, Nat.lt_succ_self n, _,  kk, h⟩
      ·refine jA ?_
       obtain rfl := zB h
       exact ⟨_, rfl, kk⟩
    rintro o9 rfl
    have h := hko9
    clear hko9
    show V _ _ _ _
    obtain ⟨k26, hk26, h⟩ := zS h
    refine jD (mb 45 70) [16] (s1 := ⟨.bot :: I a2 :: .pt 16 0 :: bt 3 (I k26 :: bt 38 []), [(16, .box [Ti g1.1, Ti g1.2.1, Ti g1.2.2])]⟩) ?_ ?_
    ·refine XR 3 ?_
     refine zK ?_
     subst hk26
     kernel_rfl
    exact ⟨n, Nat.lt_succ_self n, _,  kk, h⟩
   ·refine jA ?_
    obtain rfl := zB h
    exact ⟨_, rfl, kk⟩
 rintro o5 rfl
 have h := hko5
 clear hko5
 show V _ _ _ _
 refine VE ?_
 cases h
 exact zE VT
theorem cf_spec_l1Sign : CfW Tryz.prog 299 := cfW Tryz.func299
theorem s_spec_l1Sign {vn1 : Int} {r : Int} (h : r_spec_l1Sign vn1 = some r) : zT Tryz.prog 299 [I vn1] (I r) [] := by
 refine CtW [2] Tryz.func299 rfl rfl 9 ?_
 unfold r_spec_l1Sign at h
 refine VE ?_
 refine zJ ?_
 refine zN ?_
 refine VE ?_
 refine VC h (fun h => ?_) (fun h => ?_)
 ·refine VE ?_
  cases h
  exact zE VT
 ·refine VE ?_
  refine VC h (fun h => ?_) (fun h => ?_)
  ·refine VE ?_
   cases h
   exact zE VT
  ·refine zG ?_
   show V _ _ _ _
   refine VE ?_
   cases h
   exact zE VT
theorem cf_spec_nuInverse : CfW Tryz.prog 276 := cfW Tryz.func276
theorem s_spec_nuInverse {a1 : Int} {vm2 : Int} {r : Int} (h : zBk a1 vm2 = some r) : zT Tryz.prog 276 [I a1, I vm2] (I r) [] := by
 refine CtW [4] Tryz.func276 rfl rfl 36 ?_
 unfold zBk at h
 refine VE ?_
 obtain ⟨y3, hy3, h⟩ := zA h
 refine VS ?_
 refine YK 3 (zBg hy3) zB0 ?_
 refine YF ?_
 refine zJ ?_
 obtain ⟨o9, hLo9, h⟩ := zA h
 refine zCV (mb 36 162) [] (s1 := ⟨.bot :: I vm2 :: bt 3 (I o9.1 :: .bot :: I o9.2 :: bt 28 []), []⟩) ?_ ?_
 ·clear h
  refine zN (jH (fun n s => ∃ (vr4 : Int) (next5 : Int) (x6 : Int) (y7 : Int), s.keep (mb 36 482) [] = (⟨.bot :: I vm2 :: bt 3 (I vr4 :: I next5 :: I x6 :: I y7 :: bt 27 []), []⟩ : St) ∧ zBF vm2 n vr4 next5 x6 y7 = some o9) FU ⟨_, _, _, _,  kk, hLo9⟩ ?_)
  clear hLo9
  rintro n s ⟨vr4, next5, x6, y7, hs, h⟩
  refine jE _ _ hs ?_
  clear hs
  cases n with
  | zero => cases h
  | succ n =>
   rw [zBF] at h
   refine zJ ?_
   refine VE ?_
   refine VC h (fun h => ?_) (fun h => ?_)
   ·refine zG ?_
    show V _ _ _ _
    refine zN ?_
    obtain ⟨z11, hz11, h⟩ := zA h
    obtain ⟨q12, hq12, h⟩ := zS h
    refine zO (mb 36 994) [] (s1 := ⟨.bot :: I vm2 :: bt 3 (I vr4 :: I next5 :: I x6 :: I y7 :: I q12 :: bt 26 []), []⟩) ?_ ?_
    ·refine XR 2 ?_
     refine L0 rfl rfl (zAC (a := vr4) (b := next5) rfl kk kk (jT hz11)) ?_
     refine XR 1 ?_
     refine zK ?_
     subst hq12
     kernel_rfl
    obtain ⟨next13, hnext13, h⟩ := zS h
    refine zO (mb 36 994) [] (s1 := ⟨.bot :: I vm2 :: bt 3 (I next5 :: I next13 :: I x6 :: I y7 :: I q12 :: bt 26 []), []⟩) ?_ ?_
    ·refine XR 8 ?_
     refine zK ?_
     subst hnext13
     kernel_rfl
    obtain ⟨y14, hy14, h⟩ := zS h
    refine jD (mb 36 482) [] (s1 := ⟨.bot :: I vm2 :: bt 3 (I next5 :: I next13 :: I y7 :: I y14 :: bt 27 []), []⟩) ?_ ?_
    ·refine XR 8 ?_
     refine zK ?_
     subst hy14
     kernel_rfl
    exact ⟨n, Nat.lt_succ_self n, _, _, _, _,  kk, h⟩
   ·refine jA ?_
    obtain rfl := zB h
    show St.keep _ _ _ = _
    kernel_rfl
 show V _ _ _ _
 refine zJ ?_
 refine VE ?_
 refine VC h (fun h => ?_) (fun h => ?_)
 ·refine VE ?_
  cases h
  exact zE VT
 ·refine zG ?_
  show V _ _ _ _
  obtain ⟨y16, hy16, h⟩ := zA h
  refine VS ?_
  refine YK 2 (zBg hy16) zB0 ?_
  refine YF ?_
  cases h
  exact zE VT
theorem cf_spec_nuBezout : CfW Tryz.prog 275 := cfW Tryz.func275
theorem s_spec_nuBezout {a1 : Int} {b2 : Int} {r : (Int × Int × Int)} (h : zCx a1 b2 = some r) : zT Tryz.prog 275 [I a1, I b2] (.tc (I r.1) (.tc (I r.2.1) (.tc (I r.2.2) .tn))) [] := by
 refine CtW [4, 5, 6] Tryz.func275 rfl rfl 34 ?_
 unfold zCx at h
 refine VE ?_
 obtain ⟨y3, hy3, h⟩ := zA h
 refine VS ?_
 refine YK 2 (zDY hy3) zDG ?_
 refine YF ?_
 refine zJ ?_
 refine VE ?_
 refine VC h (fun h => ?_) (fun h => ?_)
 ·obtain ⟨y5, hy5, h⟩ := zA h
  refine VS ?_
  refine YK 2 (s_spec_l1Sign hy5) cf_spec_l1Sign ?_
  refine YF ?_
  cases h
  exact zE VT
 ·refine zG ?_
  show V _ _ _ _
  obtain ⟨z6, hz6, h⟩ := zA h
  obtain ⟨y7, hy7, h⟩ := zA h
  obtain ⟨z8, hz8, h⟩ := zA h
  obtain ⟨y9, hy9, h⟩ := zA h
  refine VDS [0, 0, 3, 0, 8, 0, 56, 127, 255] 9 (cdm 9 [10888, 10882, 10885, 2090, 2154, 682, 1386, 5461, 21845]) ?_
  refine ER 2 ?_
  refine E0 2 rfl rfl (zAC (a := a1) (b := y3) rfl kk kk (jT hz6)) ?_
  refine EK 1 (s_spec_l1Abs hy7) cf_spec_l1Abs ?_
  refine ER 1 ?_
  refine E0 6 rfl rfl (zAC (a := y7) (b := y3) rfl kk kk (jT hz8)) ?_
  refine EK 0 (s_spec_nuInverse hy9) cf_spec_nuInverse ?_
  refine EF 1 ?_
  obtain ⟨z10, hz10, h⟩ := zA h
  obtain ⟨t11, ht11, h⟩ := zS h
  refine zC1 [0, 0, 0, 0, 0, 24, 60, 0, 252, 1, 515, 2047] 12 (cdm 12 [174760, 699042, 2656906, 2654762, 2654378, 2654570, 2655578, 2632362, 2643290, 174761, 436901, 1398101]) (mb 34 112) [] (s1 := ⟨bt 4 (I y3 :: I y9 :: I t11 :: bt 27 []), []⟩) kk kk ?_ ?_
  ·refine DR 8 ?_
   refine DE_0 8 (I (w64 (Int.tdiv (w64 (y3 - (w64 (a1 * y9)))) b2))) kk rfl rfl rfl (qO rfl) kk (zAC (a := w64 (y3 - (w64 (a1 * y9)))) (b := b2) rfl kk kk (jT hz10)) 33 rfl ?_
   refine DA 3 ?_
   refine zK ?_
   subst ht11
   kernel_rfl
  cases h
  exact zE VT
theorem cf_spec_vaComplete : CfW Tryz.prog 239 := cfW Tryz.func239
theorem s_spec_vaComplete {f1 : (Int × Int × Int)} {x2 : Int} {y3 : Int} {r : (((Int × Int × Int)) × ((Int × Int × Int × Int)))} (h : zAa f1 x2 y3 = some r) : zT Tryz.prog 239 [.ag [Ti f1.1, Ti f1.2.1, Ti f1.2.2], I x2, I y3] (.tc (.ag [Ti r.1.1, Ti r.1.2.1, Ti r.1.2.2]) (.tc (.ag [Ti r.2.1, Ti r.2.2.1, Ti r.2.2.2.1, Ti r.2.2.2.2]) .tn)) [] := by
 refine zY (rs := [.w 6 3, .w 7 4]) (vs := [.cell 6 38, .cell 7 109]) Tryz.func239 rfl rfl (.cons ⟨rfl, wd38⟩ (.cons ⟨rfl, wd109⟩ FitsL.nil)) (by decide) 76 rfl ?_
 unfold zAa at h
 refine VE ?_
 obtain ⟨y4, hy4, h⟩ := zA h
 refine VS ?_
 refine YK 2 (s_spec_nuBezout hy4) cf_spec_nuBezout ?_
 refine YF ?_
 obtain ⟨y5, hy5, h⟩ := zA h
 obtain ⟨q6, hq6, h⟩ := zS h
 refine zO (mb 76 6862) [56, 48, 24] (s1 := ⟨.bot :: I x2 :: I y3 :: .pt 24 0 :: .bot :: .bot :: .pt 48 0 :: .pt 56 0 :: .bot :: I y4.2.1 :: .bot :: I q6 :: I y5 :: bt 63 [], [(56, .box [Ti 0, Ti 0, Ti 0, Ti 0]), (48, .box [Ti 0, Ti 0, Ti 0]), (24, .box [Ti f1.1, Ti f1.2.1, Ti f1.2.2])]⟩) ?_ ?_
 ·refine XR 5 ?_
  refine XC (zEG hy5) zDq rfl rfl rfl ?_
  refine XR 2 ?_
  refine zK ?_
  subst hq6
  kernel_rfl
 obtain ⟨y7, hy7, h⟩ := zA h
 refine VS ?_
 refine YK 5 (s_spec_foPolar hy7) cf_spec_foPolar ?_
 refine YF ?_
 obtain ⟨y8, hy8, h⟩ := zA h
 obtain ⟨z9, hz9, h⟩ := zA h
 obtain ⟨t10, ht10, h⟩ := zS h
 refine zO (mb 76 31438) [56, 48, 24] (s1 := ⟨.bot :: I x2 :: I y3 :: .pt 24 0 :: .bot :: .bot :: .pt 48 0 :: .pt 56 0 :: .bot :: I y4.2.1 :: .bot :: I q6 :: I y5 :: I y7 :: I t10 :: bt 61 [], [(56, .box [Ti 0, Ti 0, Ti 0, Ti 0]), (48, .box [Ti 0, Ti 0, Ti 0]), (24, .box [Ti f1.1, Ti f1.2.1, Ti f1.2.2])]⟩) ?_ ?_
 ·refine XR 3 ?_
  refine XC (zBg hy8) zB0 rfl rfl rfl ?_
  refine XR 4 ?_
  refine L0 rfl rfl (zAC (a := w64 (y8 - y7)) (b := w64 (2 * y5)) rfl kk kk (jT hz9)) ?_
  refine XR 1 ?_
  refine zK ?_
  subst ht10
  kernel_rfl
 obtain ⟨f11, hf11, h⟩ := zS h
 obtain ⟨f12, hf12, h⟩ := zS h
 refine zO (mb 76 61640) [120, 56, 48, 24] (s1 := ⟨bt 3 (.pt 24 0 :: .bot :: .bot :: .pt 48 0 :: .pt 56 0 :: bt 4 (I y5 :: I y7 :: I t10 :: .pt 120 0 :: bt 60 [])), [(120, .box [Ti x2, Ti f11, Ti y3, Ti f12]), (56, .box [Ti 0, Ti 0, Ti 0, Ti 0]), (48, .box [Ti 0, Ti 0, Ti 0]), (24, .box [Ti f1.1, Ti f1.2.1, Ti f1.2.2])]⟩) ?_ ?_
 ·refine XR 12 ?_
  refine L0 rfl rfl (zW (cs := [Ti x2, Ti (w64 (q6 + (w64 (x2 * t10)))), Ti y3, Ti (w64 (y4.2.1 + (w64 (y3 * t10))))]) zEK bt109 rfl rfl kk) ?_
  refine XR 2 ?_
  refine zK ?_
  subst hf11 hf12
  kernel_rfl
 obtain ⟨b13, hb13, h⟩ := zS h
 refine zO (mb 76 45256) [120, 56, 48, 24] (s1 := ⟨bt 3 (.pt 24 0 :: .bot :: .bot :: .pt 48 0 :: .pt 56 0 :: bt 4 (I y5 :: I b13 :: .bot :: .pt 120 0 :: bt 60 [])), [(120, .box [Ti x2, Ti f11, Ti y3, Ti f12]), (56, .box [Ti 0, Ti 0, Ti 0, Ti 0]), (48, .box [Ti 0, Ti 0, Ti 0]), (24, .box [Ti f1.1, Ti f1.2.1, Ti f1.2.2])]⟩) ?_ ?_
 ·refine XR 7 ?_
  refine zK ?_
  subst hb13
  kernel_rfl
 obtain ⟨y14, hy14, h⟩ := zA h
 obtain ⟨z15, hz15, h⟩ := zA h
 obtain ⟨f16, hf16, h⟩ := zS h
 refine zC1 [0, 0, 0, 0, 12, 0, 32, 124, 0, 256, 1020, 2047, 0, 4095, 16383] 14 [[.z, .b, .b, .b, .b, .b, .b, .b, .b, .b, .b, .z, .b, .z], [.b, .z, .b, .b, .b, .b, .b, .b, .b, .b, .b, .z, .b, .z], [.b, .b, .z, .b, .z, .b, .b, .z, .b, .b, .z, .z, .b, .z], [.b, .b, .b, .z, .z, .b, .b, .z, .b, .b, .z, .z, .b, .z], [.b, .b, .a, .a, .z, .b, .b, .z, .b, .b, .z, .z, .b, .z], [.b, .b, .b, .b, .b, .z, .z, .z, .b, .b, .z, .z, .b, .z], [.b, .b, .b, .b, .b, .a, .z, .z, .b, .b, .z, .z, .b, .z], [.b, .b, .a, .a, .a, .a, .a, .z, .b, .b, .z, .z, .b, .z], [.b, .b, .b, .b, .b, .b, .b, .b, .z, .z, .z, .z, .b, .z], [.b, .b, .b, .b, .b, .b, .b, .b, .a, .z, .z, .z, .b, .z], [.b, .b, .a, .a, .a, .a, .a, .a, .a, .a, .z, .z, .b, .z], [.a, .a, .a, .a, .a, .a, .a, .a, .a, .a, .a, .z, .b, .z], [.b, .b, .b, .b, .b, .b, .b, .b, .b, .b, .b, .b, .z, .r 48], [.a, .a, .a, .a, .a, .a, .a, .a, .a, .a, .a, .a, .b, .z]] (mb 76 192) [56, 48] (s1 := ⟨bt 6 (.pt 48 0 :: .pt 56 0 :: bt 68 []), [(56, .box [Ti x2, Ti f11, Ti y3, Ti f12]), (48, .box [Ti y5, Ti b13, Ti f16])]⟩) kk kk ?_ ?_
 ·refine DR 6 ?_
  refine DC 6 (zCP hy14) zBr rfl rfl rfl rfl 69 rfl ?_
  refine DR 3 ?_
  refine DE_0 10 (I (w64 (Int.tdiv (w64 ((w64 (b13 * b13)) - y14)) (w64 (4 * y5))))) kk rfl rfl rfl (qO rfl) kk (zAC (a := w64 ((w64 (b13 * b13)) - y14)) (b := w64 (4 * y5)) rfl kk kk (jT hz15)) 73 rfl ?_
  refine DE_0 11 (.ag [Ti y5, Ti b13, Ti (w64 (Int.tdiv (w64 ((w64 (b13 * b13)) - y14)) (w64 (4 * y5))))]) kk rfl rfl rfl (qO rfl) kk (zW (cs := [Ti y5, Ti b13, Ti (w64 (Int.tdiv (w64 ((w64 (b13 * b13)) - y14)) (w64 (4 * y5))))]) pl38 bt38 rfl rfl kk) 74 rfl ?_
  refine DA 2 ?_
  refine XR 1 ?_
  refine zK ?_
  subst hf16
  kernel_rfl
 cases h
 exact zE VT
theorem cf_spec_nuCommon : CfW Tryz.prog 240 := cfW Tryz.func240
theorem s_spec_nuCommon {a1 : Int} {vm2 : Int} {b3 : Int} {vn4 : Int} {r : (Int × Int × Bool)} (h : zBv a1 vm2 b3 vn4 = some r) : zT Tryz.prog 240 [I a1, I vm2, I b3, I vn4] (.tc (I r.1) (.tc (I r.2.1) (.tc (Bo r.2.2) .tn))) [] := by
 refine CtW [8, 9, 10] Tryz.func240 rfl rfl 53 ?_
 unfold zBv at h
 refine VE ?_
 obtain ⟨y5, hy5, h⟩ := zA h
 refine VS ?_
 refine YK 2 (zDY hy5) zDG ?_
 refine YF ?_
 refine zJ ?_
 obtain ⟨z6, hz6, h⟩ := zA h
 refine VS ?_
 refine YR 4 ?_
 refine L0 rfl rfl (Y0_rem (k := .i64) (a := w64 (b3 - a1)) (b := y5) rfl kk kk (jT hz6)) ?_
 refine YF ?_
 refine VC h (fun h => ?_) (fun h => ?_)
 ·refine VE ?_
  cases h
  exact zE VT
 ·refine zG ?_
  show V _ _ _ _
  obtain ⟨z8, hz8, h⟩ := zA h
  obtain ⟨z9, hz9, h⟩ := zA h
  obtain ⟨z10, hz10, h⟩ := zA h
  obtain ⟨y11, hy11, h⟩ := zA h
  obtain ⟨z12, hz12, h⟩ := zA h
  obtain ⟨y13, hy13, h⟩ := zA h
  refine VDS [0, 0, 3, 0, 15, 0, 0, 96, 0, 0, 768, 2016, 4095, 0, 0, 24576, 65535, 131071] 18 (cdm 18 [2829756552, 2829756546, 2829756549, 2829756458, 2829756501, 2821333674, 2821327530, 2821330602, 2819140266, 2818747050, 2818943658, 2819970730, 2824164693, 581610154, 178956970, 380283562, 1431655765, 5726623061]) ?_
  refine ER 4 ?_
  refine E0 4 rfl rfl (zAC (a := w64 (b3 - a1)) (b := y5) rfl kk kk (jT hz8)) ?_
  refine ER 2 ?_
  refine E0 7 rfl rfl (zAC (a := vm2) (b := y5) rfl kk kk (jT hz9)) ?_
  refine ER 2 ?_
  refine E0 10 rfl rfl (zAC (a := vn4) (b := y5) rfl kk kk (jT hz10)) ?_
  refine EK 0 (s_spec_nuInverse hy11) cf_spec_nuInverse ?_
  refine ER 3 ?_
  refine E0 15 rfl rfl (zAC (a := vn4) (b := y5) rfl kk kk (jT hz12)) ?_
  refine EK 0 (zBg hy13) zB0 ?_
  refine EF 1 ?_
  obtain ⟨z14, hz14, h⟩ := zA h
  obtain ⟨all15, hall15, h⟩ := zS h
  refine zO (mb 53 12291) [] (s1 := ⟨I a1 :: I vm2 :: bt 10 (I y13 :: I all15 :: bt 39 []), []⟩) ?_ ?_
  ·refine XR 2 ?_
   refine L0 rfl rfl (zAC (a := vm2) (b := y5) rfl kk kk (jT hz14)) ?_
   refine XR 3 ?_
   refine zK ?_
   subst hall15
   kernel_rfl
  obtain ⟨y16, hy16, h⟩ := zA h
  refine VS ?_
  refine YK 6 (zBg hy16) zB0 ?_
  refine YF ?_
  cases h
  exact zE VT
theorem cf_spec_coShift : CfW Tryz.prog 241 := cfW Tryz.func241
theorem s_spec_coShift {t1 : Int} {r : (Int × Int × Int × Int)} (h : zDQ t1 = some r) : zT Tryz.prog 241 [I t1] (.ag [Ti r.1, Ti r.2.1, Ti r.2.2.1, Ti r.2.2.2]) [] := by
 refine zY (rs := [.w 2 4]) (vs := [.cell 2 109]) Tryz.func241 rfl rfl (.cons ⟨rfl, wd109⟩ FitsL.nil) (by decide) 5 rfl ?_
 unfold zDQ at h
 refine VE ?_
 refine VS ?_
 refine YR 1 ?_
 refine L0 rfl rfl (zW (cs := [Ti 1, Ti t1, Ti 0, Ti 1]) zEK bt109 rfl rfl kk) ?_
 refine YF ?_
 cases h
 exact zE VT
theorem cf_spec_coUnite : CfW Tryz.prog 184 := cfW Tryz.func184
theorem s_spec_coUnite {f1 : (Int × Int × Int)} {g2 : (Int × Int × Int)} {r : (((Int × Int × Int)) × ((Int × Int × Int)) × ((Int × Int × Int × Int)) × ((Int × Int × Int × Int)))} (h : zBo f1 g2 = some r) : zT Tryz.prog 184 [.ag [Ti f1.1, Ti f1.2.1, Ti f1.2.2], .ag [Ti g2.1, Ti g2.2.1, Ti g2.2.2]] (.tc (.ag [Ti r.1.1, Ti r.1.2.1, Ti r.1.2.2]) (.tc (.ag [Ti r.2.1.1, Ti r.2.1.2.1, Ti r.2.1.2.2]) (.tc (.ag [Ti r.2.2.1.1, Ti r.2.2.1.2.1, Ti r.2.2.1.2.2.1, Ti r.2.2.1.2.2.2]) (.tc (.ag [Ti r.2.2.2.1, Ti r.2.2.2.2.1, Ti r.2.2.2.2.2.1, Ti r.2.2.2.2.2.2]) .tn)))) [] := by
 refine zY (rs := [.w 4 3, .w 5 3, .w 6 4, .w 7 4]) (vs := [.cell 4 38, .cell 5 38, .cell 6 109, .cell 7 109]) Tryz.func184 rfl rfl (.cons ⟨rfl, wd38⟩ (.cons ⟨rfl, wd38⟩ (.cons ⟨rfl, wd109⟩ (.cons ⟨rfl, wd109⟩ FitsL.nil)))) (by decide) 118 rfl ?_
 unfold zBo at h
 refine VE ?_
 obtain ⟨y3, hy3, h⟩ := zA h
 refine VS ?_
 refine YK 1 (s_spec_reReduce hy3) cf_spec_reReduce ?_
 refine YF ?_
 obtain ⟨y4, hy4, h⟩ := zA h
 refine VS ?_
 refine YK 1 (s_spec_reReduce hy4) cf_spec_reReduce ?_
 refine YF ?_
 obtain ⟨y5, hy5, h⟩ := zA h
 refine VS ?_
 refine YK 3 (s_spec_coPoint hy5) cf_spec_coPoint ?_
 refine YF ?_
 obtain ⟨y6, hy6, h⟩ := zA h
 refine VS ?_
 refine YK 3 (s_spec_vaComplete hy6) cf_spec_vaComplete ?_
 refine YF ?_
 obtain ⟨y7, hy7, h⟩ := zA h
 refine VS ?_
 refine YK 2 (zCl hy7) zCU ?_
 refine YF ?_
 obtain ⟨y8, hy8, h⟩ := zA h
 obtain ⟨y9, hy9, h⟩ := zA h
 refine VDS [0, 1, 0, 4, 12, 31, 0, 64, 192, 0, 512, 0, 2048, 6144, 16383, 32767, 65535, 65535, 65535, 131071, 786431, 2097151] 22 (cdm 22 [178954912, 178954913, 178954250, 178954266, 178954330, 178954581, 178784938, 178789034, 178805418, 176335530, 176597674, 2796202, 6990506, 23767722, 89478485, 357913941, 173230347605, 697216357717, 2793160398165, 177525314901, 435223352661, 1466015503701]) ?_
 refine EK 5 (zBg hy8) zB0 ?_
 refine EK 8 (s_spec_nuCommon hy9) cf_spec_nuCommon ?_
 refine EF 7 ?_
 obtain ⟨z10, hz10, h⟩ := zA h
 obtain ⟨y11, hy11, h⟩ := zA h
 obtain ⟨y12, hy12, h⟩ := zA h
 refine zC1 [0, 0, 0, 4, 14, 0, 32, 96, 254, 510, 1023, 2047] 11 (cdm 11 [699048, 43170, 43018, 43034, 43094, 682, 1706, 5802, 21846, 87382, 349525]) (mb 118 36848) [88, 80, 72, 64, 56, 48, 40, 32] (s1 := ⟨bt 4 (.pt 32 0 :: .pt 40 0 :: .pt 48 0 :: .pt 56 0 :: .pt 64 0 :: .pt 72 0 :: .pt 80 0 :: .pt 88 0 :: bt 3 (I y9.1 :: bt 102 [])), [(88, .box [Ti y7.1, Ti y7.2.1, Ti y7.2.2.1, Ti y7.2.2.2]), (80, .box [Ti y6.1.1, Ti y6.1.2.1, Ti y6.1.2.2]), (72, .box [Ti y12.1, Ti y12.2.1, Ti y12.2.2.1, Ti y12.2.2.2]), (64, .box [Ti y3.1.1, Ti y3.1.2.1, Ti y3.1.2.2]), (56, .box [Ti 0, Ti 0, Ti 0, Ti 0]), (48, .box [Ti 0, Ti 0, Ti 0, Ti 0]), (40, .box [Ti 0, Ti 0, Ti 0]), (32, .box [Ti 0, Ti 0, Ti 0])]⟩) kk kk ?_ ?_
 ·refine ER 8 ?_
  refine E0 8 rfl rfl (zAC (a := w64 (y9.1 - y3.1.2.1)) (b := w64 (2 * y3.1.1)) rfl kk kk (jT hz10)) ?_
  refine EK 0 (s_spec_coShift hy11) cf_spec_coShift ?_
  refine EK 0 (zCl hy12) zCU ?_
  refine EA 0 ?_
  exact XE
 obtain ⟨z13, hz13, h⟩ := zA h
 obtain ⟨y14, hy14, h⟩ := zA h
 obtain ⟨y15, hy15, h⟩ := zA h
 refine VDS [0, 0, 0, 4, 14, 0, 32, 96, 254, 510, 1023, 2047] 11 (cdm 11 [699048, 43170, 43018, 43034, 43094, 682, 1706, 5802, 21846, 87382, 349525]) ?_
 refine ER 8 ?_
 refine E0 8 rfl rfl (zAC (a := w64 (y9.1 - y6.1.2.1)) (b := w64 (2 * y6.1.1)) rfl kk kk (jT hz13)) ?_
 refine EK 0 (s_spec_coShift hy14) cf_spec_coShift ?_
 refine EK 0 (zCl hy15) zCU ?_
 refine EF 0 ?_
 obtain ⟨y16, hy16, h⟩ := zA h
 obtain ⟨z17, hz17, h⟩ := zA h
 obtain ⟨c18, hc18, h⟩ := zS h
 refine zC1 [0, 0, 3, 0, 8, 31, 0, 64, 192, 0, 512, 1984, 4095, 8191] 14 (cdm 14 [11182728, 11182722, 11182725, 11182122, 11182186, 11182421, 2624170, 2628266, 2644650, 174762, 436906, 1399466, 5592405, 22369621]) (mb 118 298992) [88, 80, 72, 64, 56, 48, 40, 32] (s1 := ⟨bt 4 (.pt 32 0 :: .pt 40 0 :: .pt 48 0 :: .pt 56 0 :: .pt 64 0 :: .pt 72 0 :: .pt 80 0 :: .pt 88 0 :: bt 3 (I y9.1 :: .bot :: .bot :: I c18 :: bt 99 [])), [(88, .box [Ti y15.1, Ti y15.2.1, Ti y15.2.2.1, Ti y15.2.2.2]), (80, .box [Ti y6.1.1, Ti y6.1.2.1, Ti y6.1.2.2]), (72, .box [Ti y12.1, Ti y12.2.1, Ti y12.2.2.1, Ti y12.2.2.2]), (64, .box [Ti y3.1.1, Ti y3.1.2.1, Ti y3.1.2.2]), (56, .box [Ti 0, Ti 0, Ti 0, Ti 0]), (48, .box [Ti 0, Ti 0, Ti 0, Ti 0]), (40, .box [Ti 0, Ti 0, Ti 0]), (32, .box [Ti 0, Ti 0, Ti 0])]⟩) kk kk ?_ ?_
 ·refine DR 4 ?_
  refine DC 4 (zCP hy16) zBr rfl rfl rfl rfl 91 rfl ?_
  refine DR 7 ?_
  refine DE_0 12 (I (w64 (Int.tdiv (w64 ((w64 (y9.1 * y9.1)) - y16)) (w64 ((w64 (4 * y3.1.1)) * y6.1.1))))) kk rfl rfl rfl (qO rfl) kk (zAC (a := w64 ((w64 (y9.1 * y9.1)) - y16)) (b := w64 ((w64 (4 * y3.1.1)) * y6.1.1)) rfl kk kk (jT hz17)) 99 rfl ?_
  refine DA 1 ?_
  refine zK ?_
  subst hc18
  kernel_rfl
 obtain ⟨f19, hf19, h⟩ := zS h
 obtain ⟨f20, hf20, h⟩ := zS h
 refine zC1 [0, 1, 0, 0, 8, 0, 56, 127, 0, 256, 0, 0, 2048, 0, 14336, 32512, 0, 0, 255, 327679, 917503, 2097151] 21 [[.z, .z, .b, .b, .b, .b, .b, .z, .b, .b, .b, .b, .b, .b, .b, .b, .b, .b, .z, .z, .z], [.a, .z, .b, .b, .b, .b, .b, .z, .b, .b, .b, .b, .b, .b, .b, .b, .b, .b, .z, .z, .z], [.b, .b, .z, .b, .b, .b, .b, .z, .b, .b, .b, .b, .b, .b, .b, .b, .b, .b, .z, .z, .z], [.b, .b, .b, .z, .z, .b, .z, .z, .b, .b, .b, .b, .b, .b, .b, .b, .b, .b, .z, .z, .z], [.b, .b, .b, .a, .z, .b, .z, .z, .b, .b, .b, .b, .b, .b, .b, .b, .b, .b, .z, .z, .z], [.b, .b, .b, .b, .b, .z, .z, .z, .b, .b, .b, .b, .b, .b, .b, .b, .b, .b, .z, .z, .z], [.b, .b, .b, .a, .a, .a, .z, .z, .b, .b, .b, .b, .b, .b, .b, .b, .b, .b, .z, .z, .z], [.a, .a, .a, .a, .a, .a, .a, .z, .b, .b, .b, .b, .b, .b, .b, .b, .b, .b, .z, .z, .z], [.b, .b, .b, .b, .b, .b, .b, .b, .z, .z, .b, .b, .b, .b, .b, .z, .b, .b, .r 32, .z, .z], [.b, .b, .b, .b, .b, .b, .b, .b, .a, .z, .b, .b, .b, .b, .b, .z, .b, .b, .r 32, .z, .z], [.b, .b, .b, .b, .b, .b, .b, .b, .b, .b, .z, .b, .b, .b, .b, .z, .b, .b, .r 32, .z, .z], [.b, .b, .b, .b, .b, .b, .b, .b, .b, .b, .b, .z, .z, .b, .z, .z, .b, .b, .r 32, .z, .z], [.b, .b, .b, .b, .b, .b, .b, .b, .b, .b, .b, .a, .z, .b, .z, .z, .b, .b, .r 32, .z, .z], [.b, .b, .b, .b, .b, .b, .b, .b, .b, .b, .b, .b, .b, .z, .z, .z, .b, .b, .r 32, .z, .z], [.b, .b, .b, .b, .b, .b, .b, .b, .b, .b, .b, .a, .a, .a, .z, .z, .b, .b, .r 32, .z, .z], [.b, .b, .b, .b, .b, .b, .b, .b, .a, .a, .a, .a, .a, .a, .a, .z, .b, .b, .r 32, .z, .z], [.b, .b, .b, .b, .b, .b, .b, .b, .b, .b, .b, .b, .b, .b, .b, .b, .z, .b, .r 32, .r 40, .z], [.b, .b, .b, .b, .b, .b, .b, .b, .b, .b, .b, .b, .b, .b, .b, .b, .b, .z, .r 32, .r 40, .r 48], [.a, .a, .a, .a, .a, .a, .a, .a, .b, .b, .b, .b, .b, .b, .b, .b, .b, .b, .z, .z, .z], [.a, .a, .a, .a, .a, .a, .a, .a, .a, .a, .a, .a, .a, .a, .a, .a, .b, .b, .a, .z, .z], [.a, .a, .a, .a, .a, .a, .a, .a, .a, .a, .a, .a, .a, .a, .a, .a, .a, .b, .a, .a, .z]] (mb 118 240) [56, 48, 40, 32] (s1 := ⟨bt 4 (.pt 32 0 :: .pt 40 0 :: .pt 48 0 :: .pt 56 0 :: bt 110 []), [(56, .box [Ti y15.1, Ti y15.2.1, Ti y15.2.2.1, Ti y15.2.2.2]), (48, .box [Ti y12.1, Ti y12.2.1, Ti y12.2.2.1, Ti y12.2.2.2]), (40, .box [Ti y6.1.1, Ti y9.1, Ti f19]), (32, .box [Ti y3.1.1, Ti y9.1, Ti f20])]⟩) kk kk ?_ ?_
 ·refine DR 7 ?_
  refine DE_0 7 (.ag [Ti y3.1.1, Ti y9.1, Ti (w64 (y6.1.1 * c18))]) kk rfl rfl rfl (qO rfl) kk (zW (cs := [Ti y3.1.1, Ti y9.1, Ti (w64 (y6.1.1 * c18))]) pl38 bt38 rfl rfl kk) 107 rfl ?_
  refine DR 7 ?_
  refine DE_0 15 (.ag [Ti y6.1.1, Ti y9.1, Ti (w64 (y3.1.1 * c18))]) kk rfl rfl rfl (qO rfl) kk (zW (cs := [Ti y6.1.1, Ti y9.1, Ti (w64 (y3.1.1 * c18))]) pl38 bt38 rfl rfl kk) 115 rfl ?_
  refine DA 5 ?_
  refine XR 1 ?_
  refine zK ?_
  subst hf19 hf20
  kernel_rfl
 cases h
 exact zE VT
theorem cf_spec_coJoined : CfW Tryz.prog 185 := cfW Tryz.func185
theorem s_spec_coJoined {a1 : (Int × Int × Int)} {e2 : (Int × Int × Int)} {r : (Int × Int × Int)} (h : zDl a1 e2 = some r) : zT Tryz.prog 185 [.ag [Ti a1.1, Ti a1.2.1, Ti a1.2.2], .ag [Ti e2.1, Ti e2.2.1, Ti e2.2.2]] (.ag [Ti r.1, Ti r.2.1, Ti r.2.2]) [] := by
 refine zY (rs := [.w 4 3]) (vs := [.cell 4 38]) Tryz.func185 rfl rfl (.cons ⟨rfl, wd38⟩ FitsL.nil) (by decide) 18 rfl ?_
 unfold zDl at h
 refine VE ?_
 obtain ⟨z3, hz3, h⟩ := zA h
 obtain ⟨f4, hf4, h⟩ := zS h
 obtain ⟨f5, hf5, h⟩ := zS h
 refine zC1 [0, 1, 0, 4, 15, 0, 32, 0, 128, 0, 512, 1920, 4095, 8191] 13 (cdm 13 [11184288, 11184289, 11184138, 11184154, 11184213, 11174570, 11175594, 2632362, 2648746, 174762, 436906, 1403562, 5592405]) (mb 18 16) [32] (s1 := ⟨bt 4 (.pt 32 0 :: bt 13 []), [(32, .box [Ti f4, Ti a1.2.1, Ti f5])]⟩) kk kk ?_ ?_
 ·refine DR 11 ?_
  refine DE_0 11 (I (w64 (Int.tdiv a1.2.2 e2.1))) kk rfl rfl rfl (qO rfl) kk (zAC (a := a1.2.2) (b := e2.1) rfl kk kk (jT hz3)) 16 rfl ?_
  refine DE_0 12 (.ag [Ti (w64 (a1.1 * e2.1)), Ti a1.2.1, Ti (w64 (Int.tdiv a1.2.2 e2.1))]) kk rfl rfl rfl (qO rfl) kk (zW (cs := [Ti (w64 (a1.1 * e2.1)), Ti a1.2.1, Ti (w64 (Int.tdiv a1.2.2 e2.1))]) pl38 bt38 rfl rfl kk) 17 rfl ?_
  refine DA 0 ?_
  refine XR 1 ?_
  refine zK ?_
  subst hf4 hf5
  kernel_rfl
 cases h
 exact zE VT
theorem cf_spec_coMul : CfW Tryz.prog 100 := cfW Tryz.func100
theorem s_spec_coMul {f1 : (Int × Int × Int)} {g2 : (Int × Int × Int)} {r : (Int × Int × Int)} (h : zD1 f1 g2 = some r) : zT Tryz.prog 100 [.ag [Ti f1.1, Ti f1.2.1, Ti f1.2.2], .ag [Ti g2.1, Ti g2.2.1, Ti g2.2.2]] (.ag [Ti r.1, Ti r.2.1, Ti r.2.2]) [] := by
 refine zY (rs := [.w 4 3]) (vs := [.cell 4 38]) Tryz.func100 rfl rfl (.cons ⟨rfl, wd38⟩ FitsL.nil) (by decide) 21 rfl ?_
 unfold zD1 at h
 refine VE ?_
 obtain ⟨y3, hy3, h⟩ := zA h
 refine VS ?_
 refine YK 2 (s_spec_coUnite hy3) cf_spec_coUnite ?_
 refine YF ?_
 obtain ⟨y4, hy4, h⟩ := zA h
 obtain ⟨y5, hy5, h⟩ := zA h
 refine VS ?_
 refine YK 2 (s_spec_coJoined hy4) cf_spec_coJoined ?_
 refine YK 0 (zEF hy5) zDp ?_
 refine YF ?_
 cases h
 exact zE VT
theorem cf_spec_foOpposite : CfW Tryz.prog 186 := cfW Tryz.func186
theorem s_spec_foOpposite {f1 : (Int × Int × Int)} {r : (Int × Int × Int)} (h : zDK f1 = some r) : zT Tryz.prog 186 [.ag [Ti f1.1, Ti f1.2.1, Ti f1.2.2]] (.ag [Ti r.1, Ti r.2.1, Ti r.2.2]) [] := by
 refine zY (rs := [.w 2 3]) (vs := [.cell 2 38]) Tryz.func186 rfl rfl (.cons ⟨rfl, wd38⟩ FitsL.nil) (by decide) 11 rfl ?_
 unfold zDK at h
 refine VE ?_
 obtain ⟨f2, hf2, h⟩ := zS h
 refine zO (mb 11 4) [16] (s1 := ⟨.bot :: .bot :: .pt 16 0 :: bt 8 [], [(16, .box [Ti f1.1, Ti f2, Ti f1.2.2])]⟩) ?_ ?_
 ·refine XR 7 ?_
  refine L0 rfl rfl (zW (cs := [Ti f1.1, Ti (w64 (0 - f1.2.1)), Ti f1.2.2]) pl38 bt38 rfl rfl kk) ?_
  refine XR 1 ?_
  refine zK ?_
  subst hf2
  kernel_rfl
 cases h
 exact zE VT
theorem cf_spec_coInverse : CfW Tryz.prog 101 := cfW Tryz.func101
theorem s_spec_coInverse {f1 : (Int × Int × Int)} {r : (Int × Int × Int)} (h : zC9 f1 = some r) : zT Tryz.prog 101 [.ag [Ti f1.1, Ti f1.2.1, Ti f1.2.2]] (.ag [Ti r.1, Ti r.2.1, Ti r.2.2]) [] := by
 refine zY (rs := [.w 2 3]) (vs := [.cell 2 38]) Tryz.func101 rfl rfl (.cons ⟨rfl, wd38⟩ FitsL.nil) (by decide) 6 rfl ?_
 unfold zC9 at h
 refine VE ?_
 obtain ⟨y2, hy2, h⟩ := zA h
 obtain ⟨y3, hy3, h⟩ := zA h
 refine VS ?_
 refine YK 1 (s_spec_foOpposite hy2) cf_spec_foOpposite ?_
 refine YK 0 (zEF hy3) zDp ?_
 refine YF ?_
 cases h
 exact zE VT
end Go.Proofs.YtfmjfofocklgpaaGreatDoor
namespace Go.Proofs.YtfmjfofocklgpaaGreatDoor
open Go.RowKit
set_option linter.unusedVariables false
set_option linter.unusedSimpArgs false
set_option maxRecDepth 100000
set_option maxHeartbeats 400000
theorem cf_spec_lgRun : CfW Tryz.prog 50 := cfW Tryz.func50
theorem s_spec_lgRun {l1 : List ((ByteArray × ((Int × Int × Int))))} {c2 : (Int × ByteArray × ByteArray × ByteArray × ((Int × Int × Int)))} {r : ((List ((ByteArray × ((Int × Int × Int))))) × Int)} (h : zDZ l1 c2 = some r) : zT Tryz.prog 50 [.c (.sl (l1.map c73)), .ag [Ti c2.1, .v (.string c2.2.1), .v (.string c2.2.2.1), .v (.string c2.2.2.2.1), Ti c2.2.2.2.2.1, Ti c2.2.2.2.2.2.1, Ti c2.2.2.2.2.2.2]] (.tc (.ow 0) (.tc (I r.2) .tn)) [(0, .arr 73 4 (r.1.map c73))] := by
 refine CtW [4, 5] Tryz.func50 rfl rfl 133 ?_
 unfold zDZ at h
 refine VS ?_
 refine YR 1 ?_
 refine L1 rfl rfl (zAU (e := 73) 4 (by decide) (.inl rfl)) ?_
 refine YF ?_
 obtain ⟨y3, hy3, h⟩ := zA h
 obtain ⟨y4, hy4, h⟩ := zA h
 obtain ⟨y5, hy5, h⟩ := zA h
 refine VDS [0, 0, 2, 7, 0, 0, 32, 127, 0, 0, 512, 2047, 4095, 8191, 16383] 15 (cdm 15 [2763304, 2763266, 2763270, 2763285, 2762922, 2753194, 2754218, 2757973, 2665130, 174762, 436906, 1398101, 5592405, 22369621, 89478485]) ?_
 refine EK 3 (s_spec_lgFind hy3) cf_spec_lgFind ?_
 refine EK 3 (s_spec_lgFind hy4) cf_spec_lgFind ?_
 refine EK 3 (s_spec_lgFind hy5) cf_spec_lgFind ?_
 refine EF 3 ?_
 refine zO (mb 133 969) [24] (s1 := ⟨.c (.sl (l1.map c73)) :: .bot :: .bot :: .pt 24 0 :: .bot :: .bot :: I y3 :: I y4 :: I y5 :: Bo (bif (eqI c2.1 2) then true else (eqI c2.1 5)) :: bt 123 [], [(24, .box [Ti c2.1, .v (.string c2.2.1), .v (.string c2.2.2.1), .v (.string c2.2.2.2.1), Ti c2.2.2.2.2.1, Ti c2.2.2.2.2.2.1, Ti c2.2.2.2.2.2.2])]⟩) ?_ ?_
 ·refine YR 4 ?_
  refine zD (eqI c2.1 2) (fun hc6 => ?_) (fun hc6 => ?_)
  ·refine YQ hc6 ?_
   exact YE (by rw [hc6]; kernel_rfl)
  ·refine YQ hc6 ?_
   exact YE (by rw [hc6]; kernel_rfl)
 refine zJ ?_
 obtain ⟨t8, ht8, h⟩ := zA h
 have ht8 := zB ht8
 refine zO (mb 133 68719477705) [24] (s1 := ⟨.c (.sl (l1.map c73)) :: .bot :: .bot :: .pt 24 0 :: .bot :: .bot :: I y3 :: I y4 :: I y5 :: Bo (bif (eqI c2.1 2) then true else (eqI c2.1 5)) :: bt 26 (Bo t8 :: bt 96 []), [(24, .box [Ti c2.1, .v (.string c2.2.1), .v (.string c2.2.2.1), .v (.string c2.2.2.2.1), Ti c2.2.2.2.2.1, Ti c2.2.2.2.2.2.1, Ti c2.2.2.2.2.2.2])]⟩) ?_ ?_
 ·refine YR 3 ?_
  refine zD (!(bif (eqI c2.1 2) then true else (eqI c2.1 5))) (fun hc7 => ?_) (fun hc7 => ?_)
  ·refine YQ hc7 ?_
   exact YE (by rw [← ht8]; (try rw [hc7]); kernel_rfl)
  ·refine YQ hc7 ?_
   exact YE (by rw [← ht8]; (try rw [hc7]); kernel_rfl)
 refine VC h (fun h => ?_) (fun h => ?_)
 ·refine VS ?_
  refine L1 rfl rfl (zAU (e := 73) 4 (by decide) (.inl rfl)) ?_
  refine YF ?_
  cases h
  exact zE VT
 ·refine zG ?_
  show V _ _ _ _
  refine zJ ?_
  obtain ⟨t15, ht15, h⟩ := zA h
  have ht15 := zB ht15
  refine zO (mb 133 576460752303423945) [24] (s1 := ⟨.c (.sl (l1.map c73)) :: .bot :: .bot :: .pt 24 0 :: .bot :: .bot :: I y3 :: I y4 :: I y5 :: bt 50 (Bo t15 :: bt 73 []), [(24, .box [Ti c2.1, .v (.string c2.2.1), .v (.string c2.2.2.1), .v (.string c2.2.2.2.1), Ti c2.2.2.2.2.1, Ti c2.2.2.2.2.2.1, Ti c2.2.2.2.2.2.2])]⟩) ?_ ?_
  ·refine YR 2 ?_
   refine zD (bif (eqI c2.1 2) then true else (eqI c2.1 5)) (fun hc10 => ?_) (fun hc10 => ?_)
   ·refine YQ hc10 ?_
    refine YR 4 ?_
    refine zD (bif (bif (eqI c2.1 2) then true else (eqI c2.1 5)) then (ltI y3 0) else false) (fun hc11 => ?_) (fun hc11 => ?_)
    ·refine YQ hc11 ?_ (by rw [hc10]; kernel_rfl)
     refine YR 9 ?_
     refine zD (bif (bif (bif (eqI c2.1 2) then true else (eqI c2.1 5)) then (ltI y3 0) else false) then true else (bif (!(c2.2.2.1.toList == ((⟨#[]⟩ : ByteArray)).toList)) then (ltI y4 0) else false)) (fun hc13 => ?_) (fun hc13 => ?_)
     ·refine YQ hc13 ?_ (by rw [hc11]; (try rw [hc10]); kernel_rfl)
      exact YE (by rw [← ht15]; (try rw [hc13]); (try rw [hc11]); (try rw [hc10]); kernel_rfl)
     ·refine YQ hc13 ?_ (by rw [hc11]; (try rw [hc10]); kernel_rfl)
      refine YR 4 ?_
      refine zD (!(c2.2.2.2.1.toList == ((⟨#[]⟩ : ByteArray)).toList)) (fun hc14 => ?_) (fun hc14 => ?_)
      ·refine YQ hc14 ?_
       exact YE (by rw [← ht15]; (try rw [hc13]); (try rw [hc11]); (try rw [hc14]); (try rw [hc10]); kernel_rfl)
      ·refine YQ hc14 ?_
       exact YE (by rw [← ht15]; (try rw [hc13]); (try rw [hc11]); (try rw [hc14]); (try rw [hc10]); kernel_rfl)
    ·refine YQ hc11 ?_ (by rw [hc10]; kernel_rfl)
     refine YR 4 ?_
     refine zD (!(c2.2.2.1.toList == ((⟨#[]⟩ : ByteArray)).toList)) (fun hc12 => ?_) (fun hc12 => ?_)
     ·refine YQ hc12 ?_
      refine YR 5 ?_
      refine zD (bif (bif (bif (eqI c2.1 2) then true else (eqI c2.1 5)) then (ltI y3 0) else false) then true else (bif (!(c2.2.2.1.toList == ((⟨#[]⟩ : ByteArray)).toList)) then (ltI y4 0) else false)) (fun hc13 => ?_) (fun hc13 => ?_)
      ·refine YQ hc13 ?_ (by rw [hc11]; (try rw [hc12]); (try rw [hc10]); kernel_rfl)
       exact YE (by rw [← ht15]; (try rw [hc13]); (try rw [hc11]); (try rw [hc12]); (try rw [hc10]); kernel_rfl)
      ·refine YQ hc13 ?_ (by rw [hc11]; (try rw [hc12]); (try rw [hc10]); kernel_rfl)
       refine YR 4 ?_
       refine zD (!(c2.2.2.2.1.toList == ((⟨#[]⟩ : ByteArray)).toList)) (fun hc14 => ?_) (fun hc14 => ?_)
       ·refine YQ hc14 ?_
        exact YE (by rw [← ht15]; (try rw [hc13]); (try rw [hc11]); (try rw [hc14]); (try rw [hc12]); (try rw [hc10]); kernel_rfl)
       ·refine YQ hc14 ?_
        exact YE (by rw [← ht15]; (try rw [hc13]); (try rw [hc11]); (try rw [hc14]); (try rw [hc12]); (try rw [hc10]); kernel_rfl)
     ·refine YQ hc12 ?_
      refine YR 5 ?_
      refine zD (bif (bif (bif (eqI c2.1 2) then true else (eqI c2.1 5)) then (ltI y3 0) else false) then true else (bif (!(c2.2.2.1.toList == ((⟨#[]⟩ : ByteArray)).toList)) then (ltI y4 0) else false)) (fun hc13 => ?_) (fun hc13 => ?_)
      ·refine YQ hc13 ?_ (by rw [hc11]; (try rw [hc12]); (try rw [hc10]); kernel_rfl)
       exact YE (by rw [← ht15]; (try rw [hc13]); (try rw [hc11]); (try rw [hc12]); (try rw [hc10]); kernel_rfl)
      ·refine YQ hc13 ?_ (by rw [hc11]; (try rw [hc12]); (try rw [hc10]); kernel_rfl)
       refine YR 4 ?_
       refine zD (!(c2.2.2.2.1.toList == ((⟨#[]⟩ : ByteArray)).toList)) (fun hc14 => ?_) (fun hc14 => ?_)
       ·refine YQ hc14 ?_
        exact YE (by rw [← ht15]; (try rw [hc13]); (try rw [hc11]); (try rw [hc14]); (try rw [hc12]); (try rw [hc10]); kernel_rfl)
       ·refine YQ hc14 ?_
        exact YE (by rw [← ht15]; (try rw [hc13]); (try rw [hc11]); (try rw [hc14]); (try rw [hc12]); (try rw [hc10]); kernel_rfl)
   ·refine YQ hc10 ?_
    refine YR 4 ?_
    refine zD (bif (bif (eqI c2.1 2) then true else (eqI c2.1 5)) then (ltI y3 0) else false) (fun hc11 => ?_) (fun hc11 => ?_)
    ·refine YQ hc11 ?_ (by rw [hc10]; kernel_rfl)
     refine YR 9 ?_
     refine zD (bif (bif (bif (eqI c2.1 2) then true else (eqI c2.1 5)) then (ltI y3 0) else false) then true else (bif (!(c2.2.2.1.toList == ((⟨#[]⟩ : ByteArray)).toList)) then (ltI y4 0) else false)) (fun hc13 => ?_) (fun hc13 => ?_)
     ·refine YQ hc13 ?_ (by rw [hc11]; (try rw [hc10]); kernel_rfl)
      exact YE (by rw [← ht15]; (try rw [hc13]); (try rw [hc11]); (try rw [hc10]); kernel_rfl)
     ·refine YQ hc13 ?_ (by rw [hc11]; (try rw [hc10]); kernel_rfl)
      refine YR 4 ?_
      refine zD (!(c2.2.2.2.1.toList == ((⟨#[]⟩ : ByteArray)).toList)) (fun hc14 => ?_) (fun hc14 => ?_)
      ·refine YQ hc14 ?_
       exact YE (by rw [← ht15]; (try rw [hc13]); (try rw [hc11]); (try rw [hc14]); (try rw [hc10]); kernel_rfl)
      ·refine YQ hc14 ?_
       exact YE (by rw [← ht15]; (try rw [hc13]); (try rw [hc11]); (try rw [hc14]); (try rw [hc10]); kernel_rfl)
    ·refine YQ hc11 ?_ (by rw [hc10]; kernel_rfl)
     refine YR 4 ?_
     refine zD (!(c2.2.2.1.toList == ((⟨#[]⟩ : ByteArray)).toList)) (fun hc12 => ?_) (fun hc12 => ?_)
     ·refine YQ hc12 ?_
      refine YR 5 ?_
      refine zD (bif (bif (bif (eqI c2.1 2) then true else (eqI c2.1 5)) then (ltI y3 0) else false) then true else (bif (!(c2.2.2.1.toList == ((⟨#[]⟩ : ByteArray)).toList)) then (ltI y4 0) else false)) (fun hc13 => ?_) (fun hc13 => ?_)
      ·refine YQ hc13 ?_ (by rw [hc11]; (try rw [hc12]); (try rw [hc10]); kernel_rfl)
       exact YE (by rw [← ht15]; (try rw [hc13]); (try rw [hc11]); (try rw [hc12]); (try rw [hc10]); kernel_rfl)
      ·refine YQ hc13 ?_ (by rw [hc11]; (try rw [hc12]); (try rw [hc10]); kernel_rfl)
       refine YR 4 ?_
       refine zD (!(c2.2.2.2.1.toList == ((⟨#[]⟩ : ByteArray)).toList)) (fun hc14 => ?_) (fun hc14 => ?_)
       ·refine YQ hc14 ?_
        exact YE (by rw [← ht15]; (try rw [hc13]); (try rw [hc11]); (try rw [hc14]); (try rw [hc12]); (try rw [hc10]); kernel_rfl)
       ·refine YQ hc14 ?_
        exact YE (by rw [← ht15]; (try rw [hc13]); (try rw [hc11]); (try rw [hc14]); (try rw [hc12]); (try rw [hc10]); kernel_rfl)
     ·refine YQ hc12 ?_
      refine YR 5 ?_
      refine zD (bif (bif (bif (eqI c2.1 2) then true else (eqI c2.1 5)) then (ltI y3 0) else false) then true else (bif (!(c2.2.2.1.toList == ((⟨#[]⟩ : ByteArray)).toList)) then (ltI y4 0) else false)) (fun hc13 => ?_) (fun hc13 => ?_)
      ·refine YQ hc13 ?_ (by rw [hc11]; (try rw [hc12]); (try rw [hc10]); kernel_rfl)
       exact YE (by rw [← ht15]; (try rw [hc13]); (try rw [hc11]); (try rw [hc12]); (try rw [hc10]); kernel_rfl)
      ·refine YQ hc13 ?_ (by rw [hc11]; (try rw [hc12]); (try rw [hc10]); kernel_rfl)
       refine YR 4 ?_
       refine zD (!(c2.2.2.2.1.toList == ((⟨#[]⟩ : ByteArray)).toList)) (fun hc14 => ?_) (fun hc14 => ?_)
       ·refine YQ hc14 ?_
        exact YE (by rw [← ht15]; (try rw [hc13]); (try rw [hc11]); (try rw [hc14]); (try rw [hc12]); (try rw [hc10]); kernel_rfl)
       ·refine YQ hc14 ?_
        exact YE (by rw [← ht15]; (try rw [hc13]); (try rw [hc11]); (try rw [hc14]); (try rw [hc12]); (try rw [hc10]); kernel_rfl)
  refine VC h (fun h => ?_) (fun h => ?_)
  ·refine VS ?_
   refine L1 rfl rfl (zAU (e := 73) 4 (by decide) (.inl rfl)) ?_
   refine YF ?_
   cases h
   exact zE VT
  ·refine zG ?_
   show V _ _ _ _
   refine VE ?_
   obtain ⟨qo17, hLo17, hko17⟩ := zA h
   clear h
   refine V_cutS (q := qo17) (S := fun o17 => ⟨.c (.sl (l1.map c73)) :: .bot :: .bot :: .pt 24 0 :: bt 6 (.pt 80 0 :: bt 122 []), [(80, .box [Ti o17.1, Ti o17.2.1, Ti o17.2.2]), (24, .box [Ti c2.1, .v (.string c2.2.1), .v (.string c2.2.2.1), .v (.string c2.2.2.2.1), Ti c2.2.2.2.2.1, Ti c2.2.2.2.2.2.1, Ti c2.2.2.2.2.2.2])]⟩) (mb 133 1033) [80, 24] ?_ ?_
   ·have h := hLo17
    clear hLo17
    refine VE ?_
    refine zN ?_
    refine VE ?_
    refine VC h (fun h => ?_) (fun h => ?_)
    ·obtain ⟨y19, hy19, h⟩ := zA h
     refine VS ?_
     refine YK 2 (s_spec_lgDrop hy19) cf_spec_lgDrop ?_
     refine YF ?_
     refine zE ?_
     obtain rfl := zB h
     have h := hko17
     obtain rfl := zB h
     exact VT
    ·refine VE ?_
     refine VC h (fun h => ?_) (fun h => ?_)
     ·refine zJ ?_
      obtain ⟨y21, hy21, h⟩ := zA h
      obtain ⟨e22, he22, h⟩ := zA h
      obtain ⟨y23, hy23, h⟩ := zA h
      obtain ⟨t24, ht24, h⟩ := zA h
      have ht24 := zB ht24
      refine zC1 [0, 1, 3, 0, 0, 24, 56, 120, 255, 511] 10 (cdm 10 [43648, 43649, 43653, 554, 170, 362, 1386, 5482, 21845, 87381]) (mb 133 1208925819614629174706249) [24] (s1 := ⟨.c (.sl (l1.map c73)) :: .bot :: .bot :: .pt 24 0 :: .bot :: .bot :: I y3 :: bt 73 (Bo t24 :: bt 52 []), [(24, .box [Ti c2.1, .v (.string c2.2.1), .v (.string c2.2.2.1), .v (.string c2.2.2.2.1), Ti c2.2.2.2.2.1, Ti c2.2.2.2.2.2.1, Ti c2.2.2.2.2.2.2])]⟩) kk kk ?_ ?_
      ·refine DR 2 ?_
       refine DC 2 (zEF hy21) zDp rfl rfl rfl rfl 73 rfl ?_
       refine DR 2 ?_
       refine DE_0 5 (.pe [.v (.string e22.1), Ti e22.2.1, Ti e22.2.2.1, Ti e22.2.2.2]) kk rfl rfl rfl (qO rfl) kk (zAn (c := c73) (xs := l1) (v := e22) (n := y3) Tryz.underlying43 sz73 rfl kk kk he22) 76 rfl ?_
       refine DR 2 ?_
       refine DC 8 (zEF hy23) zDp rfl rfl rfl rfl 79 rfl ?_
       refine DE_0 9 (Bo (!((y21.1 == y23.1) && ((y21.2.1 == y23.2.1) && (y21.2.2 == y23.2.2))))) kk rfl rfl rfl (qO rfl) kk (Y0_neg3 (a0 := y21.1) (b0 := y23.1) (a1 := y21.2.1) (b1 := y23.2.1) (a2 := y21.2.2) (b2 := y23.2.2) neg38 rfl kk kk) 80 rfl ?_
       refine DA 0 ?_
       refine zK ?_
       subst ht24
       kernel_rfl
      refine VC h (fun h => ?_) (fun h => ?_)
      ·refine VS ?_
       refine L1 rfl rfl (zAU (e := 73) 4 (by decide) (.inl rfl)) ?_
       refine YF ?_
       refine zE ?_
       obtain rfl := zB h
       have h := hko17
       obtain rfl := zB h
       exact VT
      ·refine zG ?_
       show V _ _ _ _
       obtain ⟨y26, hy26, h⟩ := zA h
       obtain ⟨y27, hy27, h⟩ := zA h
       refine VDS [0, 0, 3, 0, 8, 0, 32, 120, 255, 511, 1023] 11 (cdm 11 [43656, 43650, 43653, 10282, 10346, 682, 1706, 5482, 21845, 87381, 349525]) ?_
       refine EK 2 (s_spec_lgDrop hy26) cf_spec_lgDrop ?_
       refine ER 4 ?_
       refine E0 7 rfl rfl (zW (cs := [.v (.string c2.2.1), Ti c2.2.2.2.2.1, Ti c2.2.2.2.2.2.1, Ti c2.2.2.2.2.2.2]) pl73 bt73 rfl rfl kk) ?_
       refine E1 8 rfl rfl (Y1_callS (s_spec_lgPut hy27) cf_spec_lgPut rfl kk rfl (flatE_cons (fun _ => rfl) rfl)) ?_
       refine EF 2 ?_
       refine zE ?_
       obtain rfl := zB h
       have h := hko17
       obtain rfl := zB h
       exact VT
     ·refine VE ?_
      refine VC h (fun h => ?_) (fun h => ?_)
      ·refine zJ ?_
       obtain ⟨e29, he29, h⟩ := zA h
       obtain ⟨y30, hy30, h⟩ := zA h
       obtain ⟨e31, he31, h⟩ := zA h
       obtain ⟨y32, hy32, h⟩ := zA h
       refine VDS [0, 0, 3, 7, 15, 31, 0, 0, 192, 448, 960, 2047, 4095] 13 (cdm 13 [2793480, 2793474, 2793477, 2793493, 2793557, 2793813, 35498, 10922, 23210, 88746, 350890, 1398101, 5592405]) ?_
       refine ER 2 ?_
       refine E0 2 rfl rfl (zAn (c := c73) (xs := l1) (v := e29) (n := y4) Tryz.underlying43 sz73 rfl kk kk he29) ?_
       refine EK 2 (zCP hy30) zBr ?_
       refine ER 2 ?_
       refine E0 8 rfl rfl (zAn (c := c73) (xs := l1) (v := e31) (n := y5) Tryz.underlying43 sz73 rfl kk kk he31) ?_
       refine EK 2 (zCP hy32) zBr ?_
       refine EF 1 ?_
       refine VC h (fun h => ?_) (fun h => ?_)
       ·refine VS ?_
        refine L1 rfl rfl (zAU (e := 73) 4 (by decide) (.inl rfl)) ?_
        refine YF ?_
        refine zE ?_
        obtain rfl := zB h
        have h := hko17
        obtain rfl := zB h
        exact VT
       ·refine zG ?_
        show V _ _ _ _
        obtain ⟨e34, he34, h⟩ := zA h
        obtain ⟨e35, he35, h⟩ := zA h
        obtain ⟨y36, hy36, h⟩ := zA h
        refine V_dreg [0, 0, 3, 7, 15, 0, 0, 96, 224, 480, 1023, 2047] 11 (cdm 11 [698376, 698370, 698373, 698389, 698453, 8874, 2730, 5802, 22186, 87722, 349525]) (mb 133 1033) [80, 24] (s1 := ⟨.c (.sl (l1.map c73)) :: .bot :: .bot :: .pt 24 0 :: bt 6 (.pt 80 0 :: bt 122 []), [(80, .box [Ti y36.1, Ti y36.2.1, Ti y36.2.2]), (24, .box [Ti c2.1, .v (.string c2.2.1), .v (.string c2.2.2.1), .v (.string c2.2.2.2.1), Ti c2.2.2.2.2.1, Ti c2.2.2.2.2.2.1, Ti c2.2.2.2.2.2.2])]⟩) kk kk ?_ ?_
        ·refine ER 2 ?_
         refine E0 2 rfl rfl (zAn (c := c73) (xs := l1) (v := e34) (n := y4) Tryz.underlying43 sz73 rfl kk kk he34) ?_
         refine ER 4 ?_
         refine E0 7 rfl rfl (zAn (c := c73) (xs := l1) (v := e35) (n := y5) Tryz.underlying43 sz73 rfl kk kk he35) ?_
         refine EK 2 (s_spec_coMul hy36) cf_spec_coMul ?_
         refine EA 0 ?_
         exact XE
        obtain rfl := zB h
        exact ⟨_, rfl, kk⟩
      ·refine VE ?_
       refine VC h (fun h => ?_) (fun h => ?_)
       ·obtain ⟨e38, he38, h⟩ := zA h
        obtain ⟨y39, hy39, h⟩ := zA h
        refine zX ?_
        refine YR 2 ?_
        refine L0 rfl rfl (zAn (c := c73) (xs := l1) (v := e38) (n := y4) Tryz.underlying43 sz73 rfl kk kk he38) ?_
        refine YK 2 (s_spec_coInverse hy39) cf_spec_coInverse ?_
        refine YF ?_
        obtain rfl := zB h
        exact ⟨_, rfl, kk⟩
       ·refine zG ?_
        obtain rfl := zB h
        exact ⟨_, rfl, kk⟩
   rintro o17 rfl
   have h := hko17
   clear hko17
   refine zJ ?_
   refine VS ?_
   refine YR 1 ?_
   refine L0 rfl rfl (qK (c := c73) (xs := l1) Tryz.underlying43 rfl kk) ?_
   refine YF ?_
   refine VC h (fun h => ?_) (fun h => ?_)
   ·refine VS ?_
    refine L1 rfl rfl (zAU (e := 73) 4 (by decide) (.inl rfl)) ?_
    refine YF ?_
    cases h
    exact zE VT
   ·refine zG ?_
    show V _ _ _ _
    obtain ⟨y41, hy41, h⟩ := zA h
    refine VS ?_
    refine YR 4 ?_
    refine L0 rfl rfl (zW (cs := [.v (.string c2.2.1), Ti o17.1, Ti o17.2.1, Ti o17.2.2]) pl73 bt73 rfl rfl kk) ?_
    refine YK 0 (s_spec_lgPut hy41) cf_spec_lgPut ?_
    refine YF ?_
    cases h
    exact zE VT
theorem cf_spec_l1Cur_commands : CfW Tryz.prog 59 := cfW Tryz.func59
theorem s_spec_l1Cur_commands {c1 : ((List Int) × Int × Int)} {vn2 : Int} {r : ((List ((Int × ByteArray × ByteArray × ByteArray × ((Int × Int × Int))))) × (((List Int) × Int × Int)))} (h : zBQ c1 vn2 = some r) : zDz Tryz.prog 59 [.pt 80000 0, I vn2] [(80000, .box [.sl (c1.1.map c5), Ti c1.2.1, .v (.int .u64 c1.2.2)])] (.ow 0) [(0, .arr 40 7 (r.1.map c40))] [(80000, .box [.sl (r.2.1.map c5), Ti r.2.2.1, .v (.int .u64 r.2.2.2)])] := by
 refine qZ (rs := [.t 4]) (vs := [.tmp 4]) Tryz.func59 rfl rfl (.cons rfl FitsL.nil) (by decide) 43 rfl rfl fun σ => ?_
 unfold zBQ at h
 show V _ _ ⟨.pt 80000 0 :: I vn2 :: bt 41 [], [(80000, .pbox (σ 80000) [.sl (c1.1.map c5), Ti c1.2.1, .v (.int .u64 c1.2.2)])]⟩ _
 refine VS ?_
 refine L1 rfl rfl (zAU (e := 40) 7 (by decide) (.inl rfl)) ?_
 refine YF ?_
 refine VS ?_
 refine L1 rfl rfl (zAU (e := 73) 4 (by decide) (.inl rfl)) ?_
 refine YF ?_
 obtain ⟨l3, hl3, h⟩ := zA h
 have hl3 := zB hl3
 refine zO (mb 43 99) [48, 40, 80000] (s1 := ⟨.pt 80000 0 :: I vn2 :: bt 3 (.ow 40 :: .ow 48 :: bt 36 []), [(48, .arr 40 7 (l3.map c40)), (40, .arr 73 4 ((([] : List ((ByteArray × ((Int × Int × Int)))))).map c73)), (80000, .pbox (σ 80000) [.sl (c1.1.map c5), Ti c1.2.1, .v (.int .u64 c1.2.2)])]⟩) ?_ ?_
 ·refine L1 rfl rfl (zAU (e := 40) 7 (by decide) (.inl rfl)) ?_
  refine zK ?_
  subst hl3
  kernel_rfl
 refine zJ ?_
 refine V_freeze 40 (T := 73) (sz := 4) (els := (([] : List ((ByteArray × ((Int × Int × Int)))))).map c73) kk rfl ?_
 obtain ⟨o11, hLo11, h⟩ := zA h
 refine zCV (mb 43 64) [48, 80000] (s1 := ⟨bt 6 (.ow 48 :: bt 36 []), [(48, .arr 40 7 (o11.1.map c40)), (80000, .pbox (σ 80000) [.sl (o11.2.1.map c5), Ti o11.2.2.1, .v (.int .u64 o11.2.2.2)])]⟩) ?_ ?_
 ·clear h
  refine zN (jH (fun n s => ∃ (l4 : List ((ByteArray × ((Int × Int × Int))))) (l5 : List ((Int × ByteArray × ByteArray × ByteArray × ((Int × Int × Int))))) (f6 : List Int) (f7 : Int) (f8 : Int) (vn9 : Int), s.keep (mb 43 99) [48, 80000] = (⟨.pt 80000 0 :: I vn9 :: bt 3 (.c (.sl (l4.map c73)) :: .ow 48 :: bt 36 []), [(48, .arr 40 7 (l5.map c40)), (80000, .pbox (σ 80000) [.sl (f6.map c5), Ti f7, .v (.int .u64 f8)])]⟩ : St) ∧ qH n l4 l5 f6 f7 f8 vn9 = some o11) FU ⟨_, _, _, _, _, _,  kk, hLo11⟩ ?_)
  clear hLo11
  rintro n s ⟨l4, l5, f6, f7, f8, vn9, hs, h⟩
  refine jE _ _ hs ?_
  clear hs
  cases n with
  | zero => cases h
  | succ n =>
   rw [qH] at h
   refine zJ ?_
   refine VS ?_
   refine YR 1 ?_
   refine L0 rfl rfl (qK (c := c40) (xs := l5) Tryz.underlying50 rfl kk) ?_
   refine YF ?_
   refine VC h (fun h => ?_) (fun h => ?_)
   ·refine zG ?_
    show V _ _ _ _
    refine zN ?_
    obtain ⟨y13, hy13, h⟩ := zA h
    refine VS ?_
    refine YR 2 ?_
    refine zM rfl (zV [(80000, 80000)] 16 (s_spec_l1Cur_command hy13) cf_spec_l1Cur_command rfl rfl kk rfl (zU kk zZ) rfl kk rfl rfl rfl) ?_
    refine YF ?_
    obtain ⟨u14, hu14, h⟩ := zA h
    refine VS ?_
    refine YR 2 ?_
    refine L1 rfl rfl (qP (z := zv40) (els := [y13.1].map c40) Tryz.underlying50 iz40 rfl (by decide) rfl kk rfl (by simp [c40]) (by decide) (by decide)) ?_
    refine zM rfl (zBJ (c := c40) (xs := l5) (ys := [y13.1]) (id := 48) (z := zv40) rfl rfl Tryz.underlying50 izb40 rfl kk kk kk (fun _ => rfl) (by simp) (zAY hu14) (by decide)) ?_
    refine YF ?_
    obtain ⟨y15, hy15, h⟩ := zA h
    refine VS ?_
    refine YK 1 (s_spec_lgCommand hy15) zEQ ?_
    refine YF ?_
    refine VC h (fun h => ?_) (fun h => ?_)
    ·obtain ⟨y17, hy17, h⟩ := zA h
     refine VS ?_
     refine YK 2 (s_spec_lgRun hy17) cf_spec_lgRun ?_
     refine YF ?_
     refine VE ?_
     refine VC h (fun h => ?_) (fun h => ?_)
     ·refine V_freeze 208 (T := 73) (sz := 4) (els := y17.1.map c73) kk rfl ?_
      refine zX ?_
      refine YF ?_
      exact ⟨n, Nat.lt_succ_self n, _, _, _, _, _, _,  kk, h⟩
     ·obtain ⟨y19, hy19, h⟩ := zA h
      refine VS ?_
      refine YR 1 ?_
      refine zM rfl (zV [(80000, 80000)] 33 (zC3 hy19) zCN rfl rfl kk rfl (zU kk zZ) rfl kk rfl rfl rfl) ?_
      refine YF ?_
      refine VC h (fun h => ?_) (fun h => ?_)
      ·obtain ⟨u21, hu21, h⟩ := zA h
       obtain ⟨l22, hl22, h⟩ := zA h
       have hl22 := zB hl22
       refine zO (mb 43 99) [48, 80000] (s1 := ⟨.pt 80000 0 :: I vn9 :: bt 3 (.c (.sl (l4.map c73)) :: .ow 48 :: bt 36 []), [(48, .arr 40 7 (l22.map c40)), (80000, .pbox (σ 80000) [.sl (y19.2.1.map c5), Ti y19.2.2.1, .v (.int .u64 y19.2.2.2)])]⟩) ?_ ?_
       ·refine XR 2 ?_
        refine L0 rfl rfl (qK (c := c40) (xs := l5 ++ ([y13.1])) Tryz.underlying50 rfl kk) ?_
        refine XR 1 ?_
        refine zM rfl (X_shrinkM (c := c40) (xs := l5 ++ ([y13.1])) (n := w64 ((((l5 ++ ([y13.1])).length : Int)) - 1)) (id := 48) Tryz.underlying50 sz40 rfl rfl kk kk kk hu21) ?_
        refine XR 1 ?_
        refine zK ?_
        subst hl22
        kernel_rfl
       obtain ⟨vn23, hvn23, h⟩ := zS h
       refine jD (mb 43 99) [48, 80000] (s1 := ⟨.pt 80000 0 :: I vn23 :: bt 3 (.c (.sl (l4.map c73)) :: .ow 48 :: bt 36 []), [(48, .arr 40 7 (l22.map c40)), (80000, .pbox (σ 80000) [.sl (y19.2.1.map c5), Ti y19.2.2.1, .v (.int .u64 y19.2.2.2)])]⟩) ?_ ?_
       ·refine XR 3 ?_
        refine zK ?_
        subst hvn23
        kernel_rfl
       exact ⟨n, Nat.lt_succ_self n, _, _, _, _, _, _,  kk, h⟩
      ·refine zG ?_
       exact ⟨n, Nat.lt_succ_self n, _, _, _, _, _, _,  kk, h⟩
    ·refine zG ?_
     exact ⟨n, Nat.lt_succ_self n, _, _, _, _, _, _,  kk, h⟩
   ·refine jA ?_
    obtain rfl := zB h
    show St.keep _ _ _ = _
    kernel_rfl
 show V _ _ _ _
 refine VE ?_
 cases h
 exact zE VTR
theorem cf_spec_DrawJournalText : CfW Tryz.prog 30 := cfW Tryz.func30
theorem s_spec_DrawJournalText {code1 : List Int} {r : List ((Int × ByteArray × ByteArray × ByteArray × ((Int × Int × Int))))} (h : zBB code1 = some r) : zT Tryz.prog 30 [.c (.sl (code1.map c5))] (.ow 0) [(0, .arr 40 7 (r.map c40))] := by
 refine CtW [2] Tryz.func30 rfl rfl 12 ?_
 unfold zBB at h
 refine VS ?_
 refine L1 rfl rfl (zAU (e := 40) 7 (by decide) (.inl rfl)) ?_
 refine YF ?_
 refine VS ?_
 refine YR 1 ?_
 refine L0 rfl rfl (zW (cs := [.sl (code1.map c5), Ti 0, .v (.int .u64 0)]) pl84 bt84 rfl rfl kk) ?_
 refine YF ?_
 obtain ⟨y2, hy2, h⟩ := zA h
 obtain ⟨y3, hy3, h⟩ := zA h
 refine VS ?_
 refine YR 2 ?_
 refine L1 rfl rfl (qP (z := zv3) (els := [0, 1, 2, 3, 5, 8, 40, 42].map c3) Tryz.underlying24 iz3 rfl (by decide) rfl kk rfl (by simp [c3]) (by decide) (by decide)) ?_
 refine zCh 72 (T := 3) (sz := 1) (els := ([0, 1, 2, 3, 5, 8, 40, 42]).map c3) kk rfl ?_
 refine zM rfl (zV [(80000, 48)] 10 (zAo hy2) zA9 rfl rfl kk rfl (zU kk zZ) rfl kk rfl rfl rfl) ?_
 refine zM rfl (zV [(80000, 48)] 11 (s_spec_l1Cur_commands hy3) cf_spec_l1Cur_commands rfl rfl kk rfl (zU kk zZ) rfl kk rfl rfl rfl) ?_
 refine YF ?_
 cases h
 exact zE VT
theorem zDW : CfW Tryz.prog 103 := cfW Tryz.func103
theorem zDa {vs1 : ByteArray} {r : Bool} (h : zBZ vs1 = some r) : zT Tryz.prog 103 [.c (.v (.string vs1))] (Bo r) [] := by
 refine CtW [2] Tryz.func103 rfl rfl 28 ?_
 unfold zBZ at h
 refine VE ?_
 refine zJ ?_
 refine VE ?_
 obtain ⟨qo4, hLo4, hko4⟩ := zA h
 refine zEX (q := qo4) (S := fun o4 => ⟨.c (.v (.string vs1)) :: bt 27 [], []⟩) (mb 28 1) [] ?_ ?_
 ·refine zN (jH (fun n s => ∃ (i2 : Int), s.keep (mb 28 9) [] = (⟨.c (.v (.string vs1)) :: .bot :: .bot :: I i2 :: bt 24 [], []⟩ : St) ∧ zAH vs1 n i2 = some qo4) FU ⟨_,  kk, hLo4⟩ ?_)
  clear hLo4
  rintro n s ⟨i2, hs, h⟩
  refine jE _ _ hs ?_
  clear hs
  cases n with
  | zero => cases h
  | succ n =>
   rw [zAH] at h
   refine zJ ?_
   refine VS ?_
   refine YF ?_
   refine VC h (fun h => ?_) (fun h => ?_)
   ·refine zG ?_
    show V _ _ _ _
    refine zJ ?_
    refine zN ?_
    obtain ⟨e6, he6, h⟩ := zA h
    obtain ⟨b9, hb9, h⟩ := zA h
    refine zO (mb 28 524297) [] (s1 := ⟨.c (.v (.string vs1)) :: .bot :: .bot :: I i2 :: bt 15 (Bo b9 :: bt 8 []), []⟩) ?_ ?_
    ·refine YR 2 ?_
     refine L0 rfl rfl (zC0 (b := vs1) (k := .i64) (n := i2) (v := e6) Tryz.underlying9 rfl kk kk he6) ?_
     refine YR 2 ?_
     refine zD (ltI e6 97) (fun hc7 => ?_) (fun hc7 => ?_)
     ·have hb9 := zB (qM hb9 hc7)
      refine YQ hc7 ?_
      exact YE (by rw [← hb9]; (try rw [hc7]); kernel_rfl)
     ·have hb9 := qB hb9 hc7
      obtain ⟨e8, he8, hb9⟩ := zA hb9
      have hb9 := zB hb9
      refine YQ hc7 ?_
      refine YR 2 ?_
      refine YT (qD rfl (zC0 (b := vs1) (k := .i64) (n := i2) (v := e8) Tryz.underlying9 rfl kk kk he8)) ?_
      exact YE (by rw [← hb9]; (try rw [hc7]); kernel_rfl)
    refine VC h (fun h => ?_) (fun h => ?_)
    ·refine VE ?_
     refine zE ?_
     obtain rfl := zB h
     have h := hko4
     obtain rfl := zB h
     exact VT
    ·refine zG ?_
     show V _ _ _ _
     obtain ⟨i11, hi11, h⟩ := zS h
     refine jD (mb 28 9) [] (s1 := ⟨.c (.v (.string vs1)) :: .bot :: .bot :: I i11 :: bt 24 [], []⟩) ?_ ?_
     ·refine XR 3 ?_
      refine zK ?_
      subst hi11
      kernel_rfl
     exact ⟨n, Nat.lt_succ_self n, _,  kk, h⟩
   ·refine jA ?_
    obtain rfl := zB h
    exact ⟨_, rfl, kk⟩
 rintro o4 rfl
 have h := hko4
 clear hko4
 show V _ _ _ _
 obtain ⟨t13, ht13, h⟩ := zA h
 have ht13 := zB ht13
 refine zO (mb 28 4) [] (s1 := ⟨.bot :: .bot :: Bo t13 :: bt 25 [], []⟩) ?_ ?_
 ·refine YR 4 ?_
  refine zD (leI 1 ((vs1.size : Int))) (fun hc12 => ?_) (fun hc12 => ?_)
  ·refine YQ hc12 ?_
   exact YE (by rw [← ht13]; (try rw [hc12]); kernel_rfl)
  ·refine YQ hc12 ?_
   exact YE (by rw [← ht13]; (try rw [hc12]); kernel_rfl)
 cases h
 exact zE VT
theorem cf_impl_areNumbers : CfW Tryz.prog 166 := cfW Tryz.func166
theorem s_impl_areNumbers {list1 : List Int} {r : Bool} (h : zCI list1 = some r) : zT Tryz.prog 166 [.c (.sl (list1.map c3))] (Bo r) [] := by
 refine CtW [2] Tryz.func166 rfl rfl 18 ?_
 unfold zCI at h
 refine VE ?_
 refine zJ ?_
 refine VS ?_
 refine YR 1 ?_
 refine L0 rfl rfl (qK (c := c3) (xs := list1) Tryz.underlying24 rfl kk) ?_
 refine YF ?_
 obtain ⟨qo4, hLo4, hko4⟩ := zA h
 refine zEX (q := qo4) (S := fun o4 => ⟨bt 18 [], []⟩) (mb 18 0) [] ?_ ?_
 ·refine zN (jH (fun n s => ∃ (t2 : Int), s.keep (mb 18 224) [] = (⟨bt 5 (.c (.sl (list1.map c3)) :: I ((list1.length : Int)) :: I t2 :: bt 10 []), []⟩ : St) ∧ zAv list1 n t2 = some qo4) FU ⟨_,  kk, hLo4⟩ ?_)
  clear hLo4
  rintro n s ⟨t2, hs, h⟩
  refine jE _ _ hs ?_
  clear hs
  cases n with
  | zero => cases h
  | succ n =>
   rw [zAv] at h
   refine VE ?_
   refine zJ ?_
   refine VC h (fun h => ?_) (fun h => ?_)
   ·refine zG ?_
    show V _ _ _ _
    refine zJ ?_
    refine zN ?_
    obtain ⟨e6, he6, h⟩ := zA h
    refine VS ?_
    refine L0 rfl rfl (zAn (c := c3) (xs := list1) (v := e6) (n := t2) Tryz.underlying24 sz3 rfl kk kk he6) ?_
    refine YF ?_
    refine zO (mb 18 65760) [] (s1 := ⟨bt 5 (.c (.sl (list1.map c3)) :: I ((list1.length : Int)) :: I t2 :: bt 8 (Bo (bif (ltI e6 (-1000000)) then true else (ltI 1000000 e6)) :: .bot :: [])), []⟩) ?_ ?_
    ·refine YR 3 ?_
     refine zD (ltI e6 (-1000000)) (fun hc7 => ?_) (fun hc7 => ?_)
     ·refine YQ hc7 ?_
      exact YE (by rw [hc7]; kernel_rfl)
     ·refine YQ hc7 ?_
      exact YE (by rw [hc7]; kernel_rfl)
    refine VC h (fun h => ?_) (fun h => ?_)
    ·refine VE ?_
     refine zE ?_
     obtain rfl := zB h
     have h := hko4
     obtain rfl := zB h
     exact VT
    ·refine zG ?_
     show V _ _ _ _
     obtain ⟨t9, ht9, h⟩ := zS h
     refine jD (mb 18 224) [] (s1 := ⟨bt 5 (.c (.sl (list1.map c3)) :: I ((list1.length : Int)) :: I t9 :: bt 10 []), []⟩) ?_ ?_
     ·refine XR 2 ?_
      refine zK ?_
      subst ht9
      kernel_rfl
     exact ⟨n, Nat.lt_succ_self n, _,  kk, h⟩
   ·refine jA ?_
    obtain rfl := zB h
    exact ⟨_, rfl, kk⟩
 rintro o4 rfl
 have h := hko4
 clear hko4
 show V _ _ _ _
 refine VE ?_
 cases h
 exact zE VT
theorem cf_impl_IsForm : CfW Tryz.prog 161 := cfW Tryz.func161
theorem s_impl_IsForm {f1 : (Int × Int × Int)} {r : Bool} (h : zDF f1 = some r) : zT Tryz.prog 161 [.ag [Ti f1.1, Ti f1.2.1, Ti f1.2.2]] (Bo r) [] := by
 refine CtW [2] Tryz.func161 rfl rfl 11 ?_
 unfold zDF at h
 refine VE ?_
 obtain ⟨y2, hy2, h⟩ := zA h
 refine VS ?_
 refine YR 6 ?_
 refine L1 rfl rfl (qP (z := zv3) (els := [f1.1, f1.2.1, f1.2.2].map c3) Tryz.underlying24 iz3 rfl (by decide) rfl kk rfl (by simp [c3]) (by decide) (by decide)) ?_
 refine L1 rfl rfl (Y1_callS (s_impl_areNumbers hy2) cf_impl_areNumbers rfl kk rfl rfl) ?_
 refine YF ?_
 cases h
 exact zE VT
theorem zCO : CfW Tryz.prog 169 := cfW Tryz.func169
theorem zC5 {f1 : (Int × Int × Int)} {r : Int} (h : qF f1 = some r) : zT Tryz.prog 169 [.ag [Ti f1.1, Ti f1.2.1, Ti f1.2.2]] (I r) [] := by
 refine CtW [2] Tryz.func169 rfl rfl 15 ?_
 unfold qF at h
 refine VE ?_
 obtain ⟨t2, ht2, h⟩ := zS h
 refine zO (mb 15 4) [] (s1 := ⟨.bot :: .bot :: I t2 :: bt 12 [], []⟩) ?_ ?_
 ·refine XR 13 ?_
  refine zK ?_
  subst ht2
  kernel_rfl
 cases h
 exact zE VT
theorem cf_impl_isDefinite : CfW Tryz.prog 77 := cfW Tryz.func77
theorem s_impl_isDefinite {f1 : (Int × Int × Int)} {r : Bool} (h : zAN f1 = some r) : zT Tryz.prog 77 [.ag [Ti f1.1, Ti f1.2.1, Ti f1.2.2]] (Bo r) [] := by
 refine CtW [2] Tryz.func77 rfl rfl 15 ?_
 unfold zAN at h
 refine VE ?_
 obtain ⟨y2, hy2, h⟩ := zA h
 obtain ⟨b5, hb5, h⟩ := zA h
 refine zO (mb 15 4) [] (s1 := ⟨.bot :: .bot :: Bo (bif b5 then (ltI 0 f1.1) else false) :: bt 12 [], []⟩) ?_ ?_
 ·refine YK 1 (s_impl_IsForm hy2) cf_impl_IsForm ?_
  refine YR 1 ?_
  refine zD y2 (fun hc3 => ?_) (fun hc3 => ?_)
  ·have hb5 := qM hb5 hc3
   obtain ⟨y4, hy4, hb5⟩ := zA hb5
   have hb5 := zB hb5
   refine YQ hc3 ?_
   refine YK 1 (zC5 hy4) zCO ?_
   refine YR 3 ?_
   refine zD b5 (fun hc6 => ?_) (fun hc6 => ?_)
   ·refine YQ hc6 ?_ (by rw [← hb5]; (try rw [hc3]); kernel_rfl)
    exact YE (by rw [hc6]; kernel_rfl)
   ·refine YQ hc6 ?_ (by rw [← hb5]; (try rw [hc3]); kernel_rfl)
    exact YE (by rw [hc6]; kernel_rfl)
  ·have hb5 := zB (qB hb5 hc3)
   refine YQ hc3 ?_
   refine YR 5 ?_
   subst hb5
   have hc6 : false = false := rfl
   exact YE
 cases h
 exact zE VT
theorem cf_impl_isShownForm : CfW Tryz.prog 187 := cfW Tryz.func187
theorem s_impl_isShownForm {f1 : (Int × Int × Int)} {r : Bool} (h : jM f1 = some r) : zT Tryz.prog 187 [.ag [Ti f1.1, Ti f1.2.1, Ti f1.2.2]] (Bo r) [] := by
 refine CtW [2] Tryz.func187 rfl rfl 10 ?_
 unfold jM at h
 refine VE ?_
 obtain ⟨y2, hy2, h⟩ := zA h
 obtain ⟨b5, hb5, h⟩ := zA h
 refine zO (mb 10 4) [] (s1 := ⟨.bot :: .bot :: Bo b5 :: bt 7 [], []⟩) ?_ ?_
 ·refine YK 1 (s_impl_isDefinite hy2) cf_impl_isDefinite ?_
  refine YR 1 ?_
  refine zD y2 (fun hc3 => ?_) (fun hc3 => ?_)
  ·have hb5 := qM hb5 hc3
   obtain ⟨y4, hy4, hb5⟩ := zA hb5
   have hb5 := zB hb5
   refine YQ hc3 ?_
   refine YK 1 (zC5 hy4) zCO ?_
   exact YE (by rw [← hb5]; (try rw [hc3]); kernel_rfl)
  ·have hb5 := zB (qB hb5 hc3)
   refine YQ hc3 ?_
   exact YE (by rw [← hb5]; (try rw [hc3]); kernel_rfl)
 cases h
 exact zE VT
theorem cf_impl_abs : CfW Tryz.prog 84 := cfW Tryz.func84
theorem s_impl_abs {vn1 : Int} {r : Int} (h : zDT vn1 = some r) : zT Tryz.prog 84 [I vn1] (I r) [] := by
 refine CtW [2] Tryz.func84 rfl rfl 8 ?_
 unfold zDT at h
 refine VE ?_
 obtain ⟨t2, ht2, h⟩ := zS h
 refine zO (mb 8 4) [] (s1 := ⟨.bot :: .bot :: I t2 :: bt 5 [], []⟩) ?_ ?_
 ·refine XR 2 ?_
  refine L0 rfl rfl (Y0_max (a := vn1) (b := -9223372036854775807) rfl kk kk) ?_
  refine XR 1 ?_
  refine L0 rfl rfl (Y0_max (a := vn1) (b := w64 (0 - (mxI vn1 (-9223372036854775807)))) rfl kk kk) ?_
  refine XR 1 ?_
  refine zK ?_
  subst ht2
  kernel_rfl
 cases h
 exact zE VT
theorem cf_impl_gcd : CfW Tryz.prog 80 := cfW Tryz.func80
theorem s_impl_gcd {a1 : Int} {b2 : Int} {r : Int} (h : zDS a1 b2 = some r) : zT Tryz.prog 80 [I a1, I b2] (I r) [] := by
 refine CtW [4] Tryz.func80 rfl rfl 13 ?_
 unfold zDS at h
 refine VE ?_
 refine zJ ?_
 obtain ⟨o6, hLo6, h⟩ := zA h
 refine zCV (mb 13 1) [] (s1 := ⟨I o6 :: bt 12 [], []⟩) ?_ ?_
 ·clear h
  refine zN (jH (fun n s => ∃ (a3 : Int) (b4 : Int), s.keep (mb 13 3) [] = (⟨I a3 :: I b4 :: bt 11 [], []⟩ : St) ∧ zAX n a3 b4 = some o6) FU ⟨_, _,  kk, hLo6⟩ ?_)
  clear hLo6
  rintro n s ⟨a3, b4, hs, h⟩
  refine jE _ _ hs ?_
  clear hs
  cases n with
  | zero => cases h
  | succ n =>
   rw [zAX] at h
   refine zJ ?_
   refine VE ?_
   refine VC h (fun h => ?_) (fun h => ?_)
   ·refine zG ?_
    show V _ _ _ _
    refine zN ?_
    obtain ⟨z8, hz8, h⟩ := zA h
    obtain ⟨b9, hb9, h⟩ := zS h
    refine V_dreg [0, 0, 0, 6, 3, 31] 6 (cdm 6 [168, 34, 522, 534, 165, 341]) (mb 13 3) [] (s1 := ⟨I b4 :: I b9 :: bt 11 [], []⟩) kk kk ?_ ?_
    ·refine DR 3 ?_
     refine DE_0 3 (I (Int.tmod a3 b4)) kk rfl rfl rfl (qO rfl) kk (Y0_rem (k := .i64) (a := a3) (b := b4) rfl kk kk (jT hz8)) 10 rfl ?_
     refine DA 2 ?_
     refine zK ?_
     subst hb9
     kernel_rfl
    exact ⟨n, Nat.lt_succ_self n, _, _,  kk, h⟩
   ·refine jA ?_
    obtain rfl := zB h
    show St.keep _ _ _ = _
    kernel_rfl
 show V _ _ _ _
 obtain ⟨y10, hy10, h⟩ := zA h
 refine VS ?_
 refine YK 1 (s_impl_abs hy10) cf_impl_abs ?_
 refine YF ?_
 cases h
 exact zE VT
theorem cf_impl_Form_content : CfW Tryz.prog 188 := cfW Tryz.func188
theorem s_impl_Form_content {f1 : (Int × Int × Int)} {r : Int} (h : zBf f1 = some r) : zT Tryz.prog 188 [.ag [Ti f1.1, Ti f1.2.1, Ti f1.2.2]] (I r) [] := by
 refine CtW [2] Tryz.func188 rfl rfl 11 ?_
 unfold zBf at h
 refine VE ?_
 obtain ⟨y2, hy2, h⟩ := zA h
 obtain ⟨y3, hy3, h⟩ := zA h
 refine VDS [0, 1, 0, 4, 0, 16, 60, 127, 255] 9 (cdm 9 [10912, 10913, 2570, 2586, 170, 426, 1370, 5461, 21845]) ?_
 refine EK 6 (s_impl_gcd hy2) cf_impl_gcd ?_
 refine EK 0 (s_impl_gcd hy3) cf_impl_gcd ?_
 refine EF 1 ?_
 cases h
 exact zE VT
theorem zD8 : CfW Tryz.prog 104 := cfW Tryz.func104
theorem zDs {f1 : (Int × Int × Int)} {r : Bool} (h : z7 f1 = some r) : zT Tryz.prog 104 [.ag [Ti f1.1, Ti f1.2.1, Ti f1.2.2]] (Bo r) [] := by
 refine CtW [2] Tryz.func104 rfl rfl 10 ?_
 unfold z7 at h
 refine VE ?_
 obtain ⟨y2, hy2, h⟩ := zA h
 obtain ⟨b5, hb5, h⟩ := zA h
 refine zO (mb 10 4) [] (s1 := ⟨.bot :: .bot :: Bo b5 :: bt 7 [], []⟩) ?_ ?_
 ·refine YK 1 (s_impl_isShownForm hy2) cf_impl_isShownForm ?_
  refine YR 1 ?_
  refine zD y2 (fun hc3 => ?_) (fun hc3 => ?_)
  ·have hb5 := qM hb5 hc3
   obtain ⟨y4, hy4, hb5⟩ := zA hb5
   have hb5 := zB hb5
   refine YQ hc3 ?_
   refine YK 1 (s_impl_Form_content hy4) cf_impl_Form_content ?_
   exact YE (by rw [← hb5]; (try rw [hc3]); kernel_rfl)
  ·have hb5 := zB (qB hb5 hc3)
   refine YQ hc3 ?_
   exact YE (by rw [← hb5]; (try rw [hc3]); kernel_rfl)
 cases h
 exact zE VT
theorem zER : CfW Tryz.prog 53 := cfW Tryz.func53
theorem s_impl_isCommand {c1 : (Int × ByteArray × ByteArray × ByteArray × ((Int × Int × Int)))} {r : Bool} (h : zA2 c1 = some r) : zT Tryz.prog 53 [.ag [Ti c1.1, .v (.string c1.2.1), .v (.string c1.2.2.1), .v (.string c1.2.2.2.1), Ti c1.2.2.2.2.1, Ti c1.2.2.2.2.2.1, Ti c1.2.2.2.2.2.2]] (Bo r) [] := by
 refine CtW [2] Tryz.func53 rfl rfl 73 ?_
 unfold zA2 at h
 refine VE ?_
 refine zJ ?_
 obtain ⟨y2, hy2, h⟩ := zA h
 refine VS ?_
 refine YK 2 (zDa hy2) zDW ?_
 refine YF ?_
 refine VC h (fun h => ?_) (fun h => ?_)
 ·refine VE ?_
  cases h
  exact zE VT
 ·refine zG ?_
  show V _ _ _ _
  refine zJ ?_
  refine VE ?_
  refine zN ?_
  obtain ⟨j4, hj4, h⟩ := zA h
  refine zCw (mb 73 770) [8] (s1 := ⟨.bot :: .pt 8 0 :: bt 6 (I c1.1 :: Bo j4 :: bt 63 []), [(8, .box [Ti c1.1, .v (.string c1.2.1), .v (.string c1.2.2.1), .v (.string c1.2.2.2.1), Ti c1.2.2.2.2.1, Ti c1.2.2.2.2.2.1, Ti c1.2.2.2.2.2.2])]⟩) ?_ ?_
  ·clear h
   have h := hj4
   clear hj4
   refine VE ?_
   refine VC h (fun h => ?_) (fun h => ?_)
   ·refine zG ?_
    obtain rfl := zB h
    show St.keep _ _ _ = _
    kernel_rfl
   ·refine zX ?_
    refine YF ?_
    obtain rfl := zB h
    show St.keep _ _ _ = _
    kernel_rfl
  refine VC h (fun h => ?_) (fun h => ?_)
  ·obtain ⟨b10, hb10, h⟩ := zA h
   refine zO (mb 73 4) [] (s1 := ⟨.bot :: .bot :: Bo b10 :: bt 70 [], []⟩) ?_ ?_
   ·refine YR 4 ?_
    refine zD (c1.2.2.1.toList == ((⟨#[]⟩ : ByteArray)).toList) (fun hc7 => ?_) (fun hc7 => ?_)
    ·refine YQ hc7 ?_
     refine YR 5 ?_
     refine zD (bif (c1.2.2.1.toList == ((⟨#[]⟩ : ByteArray)).toList) then (c1.2.2.2.1.toList == ((⟨#[]⟩ : ByteArray)).toList) else false) (fun hc8 => ?_) (fun hc8 => ?_)
     ·have hb10 := qM hb10 hc8
      obtain ⟨y9, hy9, hb10⟩ := zA hb10
      have hb10 := zB hb10
      refine YQ hc8 ?_ (by rw [hc7]; kernel_rfl)
      refine YK 2 (zDs hy9) zD8 ?_
      exact YE (by rw [← hb10]; (try rw [hc8]); (try rw [hc7]); kernel_rfl)
     ·have hb10 := zB (qB hb10 hc8)
      refine YQ hc8 ?_ (by rw [hc7]; kernel_rfl)
      exact YE (by rw [← hb10]; (try rw [hc8]); (try rw [hc7]); kernel_rfl)
    ·refine YQ hc7 ?_
     refine YR 5 ?_
     refine zD (bif (c1.2.2.1.toList == ((⟨#[]⟩ : ByteArray)).toList) then (c1.2.2.2.1.toList == ((⟨#[]⟩ : ByteArray)).toList) else false) (fun hc8 => ?_) (fun hc8 => ?_)
     ·have hb10 := qM hb10 hc8
      obtain ⟨y9, hy9, hb10⟩ := zA hb10
      have hb10 := zB hb10
      refine YQ hc8 ?_ (by rw [hc7]; kernel_rfl)
      refine YK 2 (zDs hy9) zD8 ?_
      exact YE (by rw [← hb10]; (try rw [hc8]); (try rw [hc7]); kernel_rfl)
     ·have hb10 := zB (qB hb10 hc8)
      refine YQ hc8 ?_ (by rw [hc7]; kernel_rfl)
      exact YE (by rw [← hb10]; (try rw [hc8]); (try rw [hc7]); kernel_rfl)
   cases h
   exact zE VT
  ·refine VE ?_
   refine VC h (fun h => ?_) (fun h => ?_)
   ·obtain ⟨t14, ht14, h⟩ := zA h
    have ht14 := zB ht14
    refine zO (mb 73 4) [] (s1 := ⟨.bot :: .bot :: Bo t14 :: bt 70 [], []⟩) ?_ ?_
    ·refine YR 4 ?_
     refine zD (c1.2.2.1.toList == ((⟨#[]⟩ : ByteArray)).toList) (fun hc12 => ?_) (fun hc12 => ?_)
     ·refine YQ hc12 ?_
      refine YR 5 ?_
      refine zD (bif (c1.2.2.1.toList == ((⟨#[]⟩ : ByteArray)).toList) then (c1.2.2.2.1.toList == ((⟨#[]⟩ : ByteArray)).toList) else false) (fun hc13 => ?_) (fun hc13 => ?_)
      ·refine YQ hc13 ?_ (by rw [hc12]; kernel_rfl)
       refine YR 2 ?_
       refine YT (qD rfl (zW (cs := [Ti 0, Ti 0, Ti 0]) pl38 bt38 rfl rfl kk)) ?_
       refine YT (qD rfl (Y0_eqg3 (a0 := c1.2.2.2.2.1) (b0 := 0) (a1 := c1.2.2.2.2.2.1) (b1 := 0) (a2 := c1.2.2.2.2.2.2) (b2 := 0) eqg38 rfl kk kk)) ?_
       exact YE (by rw [← ht14]; (try rw [hc13]); (try rw [hc12]); kernel_rfl)
      ·refine YQ hc13 ?_ (by rw [hc12]; kernel_rfl)
       exact YE (by rw [← ht14]; (try rw [hc13]); (try rw [hc12]); kernel_rfl)
     ·refine YQ hc12 ?_
      refine YR 5 ?_
      refine zD (bif (c1.2.2.1.toList == ((⟨#[]⟩ : ByteArray)).toList) then (c1.2.2.2.1.toList == ((⟨#[]⟩ : ByteArray)).toList) else false) (fun hc13 => ?_) (fun hc13 => ?_)
      ·refine YQ hc13 ?_ (by rw [hc12]; kernel_rfl)
       refine YR 2 ?_
       refine YT (qD rfl (zW (cs := [Ti 0, Ti 0, Ti 0]) pl38 bt38 rfl rfl kk)) ?_
       refine YT (qD rfl (Y0_eqg3 (a0 := c1.2.2.2.2.1) (b0 := 0) (a1 := c1.2.2.2.2.2.1) (b1 := 0) (a2 := c1.2.2.2.2.2.2) (b2 := 0) eqg38 rfl kk kk)) ?_
       exact YE (by rw [← ht14]; (try rw [hc13]); (try rw [hc12]); kernel_rfl)
      ·refine YQ hc13 ?_ (by rw [hc12]; kernel_rfl)
       exact YE (by rw [← ht14]; (try rw [hc13]); (try rw [hc12]); kernel_rfl)
    cases h
    exact zE VT
   ·refine VE ?_
    refine VC h (fun h => ?_) (fun h => ?_)
    ·obtain ⟨y16, hy16, h⟩ := zA h
     obtain ⟨b19, hb19, h⟩ := zA h
     obtain ⟨t21, ht21, h⟩ := zA h
     have ht21 := zB ht21
     refine zO (mb 73 4) [] (s1 := ⟨.bot :: .bot :: Bo t21 :: bt 70 [], []⟩) ?_ ?_
     ·refine YK 2 (zDa hy16) zDW ?_
      refine YR 1 ?_
      refine zD y16 (fun hc17 => ?_) (fun hc17 => ?_)
      ·have hb19 := qM hb19 hc17
       obtain ⟨y18, hy18, hb19⟩ := zA hb19
       have hb19 := zB hb19
       refine YQ hc17 ?_
       refine YK 2 (zDa hy18) zDW ?_
       refine YR 2 ?_
       refine zD b19 (fun hc20 => ?_) (fun hc20 => ?_)
       ·refine YQ hc20 ?_ (by rw [← hb19]; (try rw [hc17]); kernel_rfl)
        refine YR 2 ?_
        refine YT (qD rfl (zW (cs := [Ti 0, Ti 0, Ti 0]) pl38 bt38 rfl rfl kk)) ?_
        refine YT (qD rfl (Y0_eqg3 (a0 := c1.2.2.2.2.1) (b0 := 0) (a1 := c1.2.2.2.2.2.1) (b1 := 0) (a2 := c1.2.2.2.2.2.2) (b2 := 0) eqg38 rfl kk kk)) ?_
        exact YE (by rw [← ht21]; (try rw [hc17]); (try rw [hc20]); kernel_rfl)
       ·refine YQ hc20 ?_ (by rw [← hb19]; (try rw [hc17]); kernel_rfl)
        exact YE (by rw [← ht21]; (try rw [hc17]); (try rw [hc20]); kernel_rfl)
      ·have hb19 := zB (qB hb19 hc17)
       refine YQ hc17 ?_
       refine YR 5 ?_
       subst hb19
       have hc20 : false = false := rfl
       exact YE (by rw [← ht21]; (try rw [hc17]); kernel_rfl)
     cases h
     exact zE VT
    ·refine VE ?_
     refine VC h (fun h => ?_) (fun h => ?_)
     ·obtain ⟨y23, hy23, h⟩ := zA h
      obtain ⟨t26, ht26, h⟩ := zA h
      have ht26 := zB ht26
      refine zO (mb 73 4) [] (s1 := ⟨.bot :: .bot :: Bo t26 :: bt 70 [], []⟩) ?_ ?_
      ·refine YK 2 (zDa hy23) zDW ?_
       refine YR 1 ?_
       refine zD y23 (fun hc24 => ?_) (fun hc24 => ?_)
       ·refine YQ hc24 ?_
        refine YR 5 ?_
        refine zD (bif y23 then (c1.2.2.2.1.toList == ((⟨#[]⟩ : ByteArray)).toList) else false) (fun hc25 => ?_) (fun hc25 => ?_)
        ·refine YQ hc25 ?_ (by rw [hc24]; kernel_rfl)
         refine YR 2 ?_
         refine YT (qD rfl (zW (cs := [Ti 0, Ti 0, Ti 0]) pl38 bt38 rfl rfl kk)) ?_
         refine YT (qD rfl (Y0_eqg3 (a0 := c1.2.2.2.2.1) (b0 := 0) (a1 := c1.2.2.2.2.2.1) (b1 := 0) (a2 := c1.2.2.2.2.2.2) (b2 := 0) eqg38 rfl kk kk)) ?_
         exact YE (by rw [← ht26]; (try rw [hc25]); (try rw [hc24]); kernel_rfl)
        ·refine YQ hc25 ?_ (by rw [hc24]; kernel_rfl)
         exact YE (by rw [← ht26]; (try rw [hc25]); (try rw [hc24]); kernel_rfl)
       ·refine YQ hc24 ?_
        refine YR 5 ?_
        refine zD (bif y23 then (c1.2.2.2.1.toList == ((⟨#[]⟩ : ByteArray)).toList) else false) (fun hc25 => ?_) (fun hc25 => ?_)
        ·refine YQ hc25 ?_ (by rw [hc24]; kernel_rfl)
         refine YR 2 ?_
         refine YT (qD rfl (zW (cs := [Ti 0, Ti 0, Ti 0]) pl38 bt38 rfl rfl kk)) ?_
         refine YT (qD rfl (Y0_eqg3 (a0 := c1.2.2.2.2.1) (b0 := 0) (a1 := c1.2.2.2.2.2.1) (b1 := 0) (a2 := c1.2.2.2.2.2.2) (b2 := 0) eqg38 rfl kk kk)) ?_
         exact YE (by rw [← ht26]; (try rw [hc25]); (try rw [hc24]); kernel_rfl)
        ·refine YQ hc25 ?_ (by rw [hc24]; kernel_rfl)
         exact YE (by rw [← ht26]; (try rw [hc25]); (try rw [hc24]); kernel_rfl)
      cases h
      exact zE VT
     ·refine zG ?_
      show V _ _ _ _
      refine VE ?_
      cases h
      exact zE VT
theorem cf_impl_formText : CfW Tryz.prog 162 := cfW Tryz.func162
theorem s_impl_formText {f1 : (Int × Int × Int)} {r : ByteArray} (h : zBy f1 = some r) : zT Tryz.prog 162 [.ag [Ti f1.1, Ti f1.2.1, Ti f1.2.2]] (.c (.v (.string r))) [] := by
 refine CtW [2] Tryz.func162 rfl rfl 18 ?_
 unfold zBy at h
 refine VE ?_
 obtain ⟨y2, hy2, h⟩ := zA h
 obtain ⟨u3, hu3, h⟩ := zA h
 obtain ⟨u4, hu4, h⟩ := zA h
 obtain ⟨y5, hy5, h⟩ := zA h
 obtain ⟨u6, hu6, h⟩ := zA h
 obtain ⟨u7, hu7, h⟩ := zA h
 obtain ⟨y8, hy8, h⟩ := zA h
 obtain ⟨u9, hu9, h⟩ := zA h
 obtain ⟨u10, hu10, h⟩ := zA h
 refine VDS [0, 1, 3, 7, 15, 0, 32, 103, 255, 511, 0, 1024, 3303, 8191, 16383, 32767] 16 (cdm 16 [10496000, 10496001, 10496005, 44083221, 44083285, 10486442, 10487466, 10491541, 44062037, 44127573, 699050, 1747626, 5920405, 22369621, 89478485, 357913941]) ?_
 refine EK 2 (zEE hy2) zDo ?_
 refine E0 3 rfl rfl (zBE (a := (⟨#[40]⟩ : ByteArray)) (b := y2) rfl kk kk (qW hu3)) ?_
 refine E0 4 rfl rfl (zBE (a := ((⟨#[40]⟩ : ByteArray)) ++ y2) (b := (⟨#[44]⟩ : ByteArray)) rfl kk kk (qW hu4)) ?_
 refine EK 2 (zEE hy5) zDo ?_
 refine E0 8 rfl rfl (zBE (a := (((⟨#[40]⟩ : ByteArray)) ++ y2) ++ ((⟨#[44]⟩ : ByteArray))) (b := y5) rfl kk kk (qW hu6)) ?_
 refine E0 9 rfl rfl (zBE (a := ((((⟨#[40]⟩ : ByteArray)) ++ y2) ++ ((⟨#[44]⟩ : ByteArray))) ++ y5) (b := (⟨#[44]⟩ : ByteArray)) rfl kk kk (qW hu7)) ?_
 refine EK 2 (zEE hy8) zDo ?_
 refine E0 13 rfl rfl (zBE (a := (((((⟨#[40]⟩ : ByteArray)) ++ y2) ++ ((⟨#[44]⟩ : ByteArray))) ++ y5) ++ ((⟨#[44]⟩ : ByteArray))) (b := y8) rfl kk kk (qW hu9)) ?_
 refine E0 14 rfl rfl (zBE (a := ((((((⟨#[40]⟩ : ByteArray)) ++ y2) ++ ((⟨#[44]⟩ : ByteArray))) ++ y5) ++ ((⟨#[44]⟩ : ByteArray))) ++ y8) (b := (⟨#[41]⟩ : ByteArray)) rfl kk kk (qW hu10)) ?_
 refine EF 1 ?_
 cases h
 exact zE VT
theorem cf_impl_commandText : CfW Tryz.prog 115 := cfW Tryz.func115
theorem s_impl_commandText {c1 : (Int × ByteArray × ByteArray × ByteArray × ((Int × Int × Int)))} {r : ByteArray} (h : qG c1 = some r) : zT Tryz.prog 115 [.ag [Ti c1.1, .v (.string c1.2.1), .v (.string c1.2.2.1), .v (.string c1.2.2.2.1), Ti c1.2.2.2.2.1, Ti c1.2.2.2.2.2.1, Ti c1.2.2.2.2.2.2]] (.c (.v (.string r))) [] := by
 refine CtW [2] Tryz.func115 rfl rfl 44 ?_
 unfold qG at h
 refine VE ?_
 obtain ⟨e2, he2, h⟩ := zA h
 obtain ⟨e3, he3, h⟩ := zA h
 refine VDS [0, 0, 2, 6, 15, 31, 0, 64, 255, 511] 10 (cdm 10 [41128, 40962, 40966, 40982, 41045, 41301, 2730, 6826, 21845, 87381]) ?_
 refine E1 0 rfl rfl (qP (z := zv9) (els := [(⟨#[97, 100, 100]⟩ : ByteArray), (⟨#[100, 114, 111, 112]⟩ : ByteArray), (⟨#[109, 117, 108]⟩ : ByteArray), (⟨#[105, 110, 118]⟩ : ByteArray), (⟨#[109, 111, 118, 101]⟩ : ByteArray)].map c9) Tryz.underlying66 iz9 rfl (by decide) rfl kk rfl (by simp [c9]) (by decide) (by decide)) ?_
 refine ER 3 ?_
 refine E0 4 rfl rfl (zAV (c := c9) (xs := [(⟨#[97, 100, 100]⟩ : ByteArray), (⟨#[100, 114, 111, 112]⟩ : ByteArray), (⟨#[109, 117, 108]⟩ : ByteArray), (⟨#[105, 110, 118]⟩ : ByteArray), (⟨#[109, 111, 118, 101]⟩ : ByteArray)]) (v := e2) (id := 48) (T := 9) (sz := 1) (n := w64 (c1.1 - 1)) Tryz.underlying66 sz9 rfl kk kk kk he2) ?_
 refine E0 5 rfl rfl (zA5 (c := c9) (xs := [(⟨#[97, 100, 100]⟩ : ByteArray), (⟨#[100, 114, 111, 112]⟩ : ByteArray), (⟨#[109, 117, 108]⟩ : ByteArray), (⟨#[105, 110, 118]⟩ : ByteArray), (⟨#[109, 111, 118, 101]⟩ : ByteArray)]) (v := e3) (id := 48) (sz := 1) (T := 9) (off := 0) (n := w64 (c1.1 - 1)) (d := .v (.string e3)) (ds := []) sc9 rfl kk kk he3 kk) ?_
 refine ER 2 ?_
 refine E1 8 rfl rfl (qP (z := zv9) (els := [e3, c1.2.1].map c9) Tryz.underlying66 iz9 rfl (by decide) rfl kk rfl (by simp [c9]) (by decide) (by decide)) ?_
 refine EF 1 ?_
 refine zJ ?_
 obtain ⟨t4, ht4, h⟩ := zS h
 refine zO (mb 44 3670026) [152, 112, 8] (s1 := ⟨.bot :: .pt 8 0 :: .bot :: .ow 112 :: bt 15 (.ow 152 :: I t4 :: I 0 :: bt 22 []), [(152, .arr 9 1 (([c1.2.2.1, c1.2.2.2.1]).map c9)), (112, .arr 9 1 (([e3, c1.2.1]).map c9)), (8, .box [Ti c1.1, .v (.string c1.2.1), .v (.string c1.2.2.1), .v (.string c1.2.2.2.1), Ti c1.2.2.2.2.1, Ti c1.2.2.2.2.2.1, Ti c1.2.2.2.2.2.2])]⟩) ?_ ?_
 ·refine XR 4 ?_
  refine L1 rfl rfl (qP (z := zv9) (els := [c1.2.2.1, c1.2.2.2.1].map c9) Tryz.underlying66 iz9 rfl (by decide) rfl kk rfl (by simp [c9]) (by decide) (by decide)) ?_
  refine L0 rfl rfl (qK (c := c9) (xs := [c1.2.2.1, c1.2.2.2.1]) Tryz.underlying66 rfl kk) ?_
  refine XR 1 ?_
  refine zK ?_
  subst ht4
  kernel_rfl
 obtain ⟨o8, hLo8, h⟩ := zA h
 refine zCV (mb 44 10) [112, 8] (s1 := ⟨.bot :: .pt 8 0 :: .bot :: .ow 112 :: bt 40 [], [(112, .arr 9 1 (o8.map c9)), (8, .box [Ti c1.1, .v (.string c1.2.1), .v (.string c1.2.2.1), .v (.string c1.2.2.2.1), Ti c1.2.2.2.2.1, Ti c1.2.2.2.2.2.1, Ti c1.2.2.2.2.2.2])]⟩) ?_ ?_
 ·clear h
  refine zN (jH (fun n s => ∃ (t5 : Int) (l6 : List ByteArray), s.keep (mb 44 3670026) [152, 112, 8] = (⟨.bot :: .pt 8 0 :: .bot :: .ow 112 :: bt 15 (.ow 152 :: I t4 :: I t5 :: bt 22 []), [(152, .arr 9 1 (([c1.2.2.1, c1.2.2.2.1]).map c9)), (112, .arr 9 1 (l6.map c9)), (8, .box [Ti c1.1, .v (.string c1.2.1), .v (.string c1.2.2.1), .v (.string c1.2.2.2.1), Ti c1.2.2.2.2.1, Ti c1.2.2.2.2.2.1, Ti c1.2.2.2.2.2.2])]⟩ : St) ∧ qQ c1 t4 n t5 l6 = some o8) FU ⟨_, _,  kk, hLo8⟩ ?_)
  clear hLo8
  rintro n s ⟨t5, l6, hs, h⟩
  refine jE _ _ hs ?_
  clear hs
  cases n with
  | zero => cases h
  | succ n =>
   rw [qQ] at h
   refine VE ?_
   refine zJ ?_
   refine VC h (fun h => ?_) (fun h => ?_)
   ·refine zG ?_
    show V _ _ _ _
    refine zJ ?_
    refine zN ?_
    obtain ⟨e10, he10, h⟩ := zA h
    obtain ⟨e11, he11, h⟩ := zA h
    refine VS ?_
    refine L0 rfl rfl (zAV (c := c9) (xs := [c1.2.2.1, c1.2.2.2.1]) (v := e10) (id := 152) (T := 9) (sz := 1) (n := t5) Tryz.underlying66 sz9 rfl kk kk kk he10) ?_
    refine L0 rfl rfl (zA5 (c := c9) (xs := [c1.2.2.1, c1.2.2.2.1]) (v := e11) (id := 152) (sz := 1) (T := 9) (off := 0) (n := t5) (d := .v (.string e11)) (ds := []) sc9 rfl kk kk he11 kk) ?_
    refine YF ?_
    refine VS ?_
    refine YF ?_
    refine VC h (fun h => ?_) (fun h => ?_)
    ·obtain ⟨u13, hu13, h⟩ := zA h
     refine zX ?_
     refine YR 2 ?_
     refine L1 rfl rfl (qP (z := zv9) (els := [e11].map c9) Tryz.underlying66 iz9 rfl (by decide) rfl kk rfl (by simp [c9]) (by decide) (by decide)) ?_
     refine zM rfl (zBJ (c := c9) (xs := l6) (ys := [e11]) (id := 112) (z := zv9) rfl rfl Tryz.underlying66 izb9 rfl kk kk kk (fun _ => rfl) (by simp) (zAY hu13) (by decide)) ?_
     refine YF ?_
     show V _ _ _ _
     obtain ⟨t14, ht14, h⟩ := zS h
     refine jD (mb 44 3670026) [152, 112, 8] (s1 := ⟨.bot :: .pt 8 0 :: .bot :: .ow 112 :: bt 15 (.ow 152 :: I t4 :: I t14 :: bt 22 []), [(152, .arr 9 1 (([c1.2.2.1, c1.2.2.2.1]).map c9)), (112, .arr 9 1 ((l6 ++ ([e11])).map c9)), (8, .box [Ti c1.1, .v (.string c1.2.1), .v (.string c1.2.2.1), .v (.string c1.2.2.2.1), Ti c1.2.2.2.2.1, Ti c1.2.2.2.2.2.1, Ti c1.2.2.2.2.2.2])]⟩) ?_ ?_
     ·refine XR 2 ?_
      refine zK ?_
      subst ht14
      kernel_rfl
     exact ⟨n, Nat.lt_succ_self n, _, _,  kk, h⟩
    ·refine zG ?_
     show V _ _ _ _
     obtain ⟨t15, ht15, h⟩ := zS h
     refine jD (mb 44 3670026) [152, 112, 8] (s1 := ⟨.bot :: .pt 8 0 :: .bot :: .ow 112 :: bt 15 (.ow 152 :: I t4 :: I t15 :: bt 22 []), [(152, .arr 9 1 (([c1.2.2.1, c1.2.2.2.1]).map c9)), (112, .arr 9 1 (l6.map c9)), (8, .box [Ti c1.1, .v (.string c1.2.1), .v (.string c1.2.2.1), .v (.string c1.2.2.2.1), Ti c1.2.2.2.2.1, Ti c1.2.2.2.2.2.1, Ti c1.2.2.2.2.2.2])]⟩) ?_ ?_
     ·refine XR 2 ?_
      refine zK ?_
      subst ht15
      kernel_rfl
     exact ⟨n, Nat.lt_succ_self n, _, _,  kk, h⟩
   ·refine jA ?_
    obtain rfl := zB h
    show St.keep _ _ _ = _
    kernel_rfl
 show V _ _ _ _
 obtain ⟨j16, hj16, h⟩ := zA h
 refine zCw (mb 44 8) [112] (s1 := ⟨bt 3 (.ow 112 :: bt 40 []), [(112, .arr 9 1 (j16.map c9))]⟩) ?_ ?_
 ·clear h
  have h := hj16
  clear hj16
  obtain ⟨t17, ht17, h⟩ := zA h
  have ht17 := zB ht17
  refine zO (mb 44 34359738378) [112, 8] (s1 := ⟨.bot :: .pt 8 0 :: .bot :: .ow 112 :: bt 31 (Bo t17 :: bt 8 []), [(112, .arr 9 1 (o8.map c9)), (8, .box [Ti c1.1, .v (.string c1.2.1), .v (.string c1.2.2.1), .v (.string c1.2.2.2.1), Ti c1.2.2.2.2.1, Ti c1.2.2.2.2.2.1, Ti c1.2.2.2.2.2.2])]⟩) ?_ ?_
  ·refine XR 2 ?_
   refine L0 rfl rfl (zW (cs := [Ti 0, Ti 0, Ti 0]) pl38 bt38 rfl rfl kk) ?_
   refine L0 rfl rfl (Y0_neg3 (a0 := c1.2.2.2.2.1) (b0 := 0) (a1 := c1.2.2.2.2.2.1) (b1 := 0) (a2 := c1.2.2.2.2.2.2) (b2 := 0) neg38 rfl kk kk) ?_
   refine zK ?_
   subst ht17
   kernel_rfl
  refine VC h (fun h => ?_) (fun h => ?_)
  ·obtain ⟨y19, hy19, h⟩ := zA h
   obtain ⟨u20, hu20, h⟩ := zA h
   refine zX ?_
   refine YK 3 (s_impl_formText hy19) cf_impl_formText ?_
   refine L1 rfl rfl (qP (z := zv9) (els := [y19].map c9) Tryz.underlying66 iz9 rfl (by decide) rfl kk rfl (by simp [c9]) (by decide) (by decide)) ?_
   refine zM rfl (zBJ (c := c9) (xs := o8) (ys := [y19]) (id := 112) (z := zv9) rfl rfl Tryz.underlying66 izb9 rfl kk kk kk (fun _ => rfl) (by simp) (zAY hu20) (by decide)) ?_
   refine YF ?_
   obtain rfl := zB h
   show St.keep _ _ _ = _
   kernel_rfl
  ·refine zG ?_
   obtain rfl := zB h
   show St.keep _ _ _ = _
   kernel_rfl
 obtain ⟨y21, hy21, h⟩ := zA h
 refine VS ?_
 refine YR 1 ?_
 refine L1 rfl rfl (Y1_callS (s_strings_Join hy21) cf_strings_Join rfl kk rfl rfl) ?_
 refine YF ?_
 cases h
 exact zE VT
theorem cf_impl_checkNumber : CfW Tryz.prog 116 := cfW Tryz.func116
theorem s_impl_checkNumber {vs1 : ByteArray} {before2 : Int} {r : Int} (h : q8 vs1 before2 = some r) : zT Tryz.prog 116 [.c (.v (.string vs1)), I before2] (I r) [] := by
 refine CtW [4] Tryz.func116 rfl rfl 22 ?_
 unfold q8 at h
 refine VE ?_
 refine zJ ?_
 refine VE ?_
 obtain ⟨o6, hLo6, h⟩ := zA h
 refine zCV (mb 22 2) [] (s1 := ⟨.bot :: I o6 :: bt 20 [], []⟩) ?_ ?_
 ·clear h
  refine zN (jH (fun n s => ∃ (before3 : Int) (i4 : Int), s.keep (mb 22 35) [] = (⟨.c (.v (.string vs1)) :: I before3 :: bt 3 (I i4 :: bt 16 []), []⟩ : St) ∧ qY vs1 n before3 i4 = some o6) FU ⟨_, _,  kk, hLo6⟩ ?_)
  clear hLo6
  rintro n s ⟨before3, i4, hs, h⟩
  refine jE _ _ hs ?_
  clear hs
  cases n with
  | zero => cases h
  | succ n =>
   rw [qY] at h
   refine zJ ?_
   refine VS ?_
   refine YF ?_
   refine VC h (fun h => ?_) (fun h => ?_)
   ·refine zG ?_
    show V _ _ _ _
    refine zJ ?_
    refine zN ?_
    obtain ⟨e8, he8, h⟩ := zA h
    obtain ⟨before9, hbefore9, h⟩ := zS h
    refine jD (mb 22 35) [] (s1 := ⟨.c (.v (.string vs1)) :: I before9 :: bt 3 (I i4 :: bt 16 []), []⟩) ?_ ?_
    ·refine XR 4 ?_
     refine L0 rfl rfl (zC0 (b := vs1) (k := .i64) (n := i4) (v := e8) Tryz.underlying9 rfl kk kk he8) ?_
     refine L0 rfl rfl (Y0_conv (k2 := .u8) (a := e8) Tryz.underlying5 Tryz.underlying3 rfl kk) ?_
     refine XR 2 ?_
     refine L0 rfl rfl (Y0_rem (k := .i64) (a := w64 ((w64 ((w64 (31 * before3)) + (IntKind.i64.wrap e8))) + 1)) (b := 9973) rfl kk kk (by decide)) ?_
     refine XR 1 ?_
     refine zK ?_
     subst hbefore9
     kernel_rfl
    show V _ _ _ _
    obtain ⟨i10, hi10, h⟩ := zS h
    refine jD (mb 22 35) [] (s1 := ⟨.c (.v (.string vs1)) :: I before9 :: bt 3 (I i10 :: bt 16 []), []⟩) ?_ ?_
    ·refine XR 3 ?_
     refine zK ?_
     subst hi10
     kernel_rfl
    exact ⟨n, Nat.lt_succ_self n, _, _,  kk, h⟩
   ·refine jA ?_
    obtain rfl := zB h
    show St.keep _ _ _ = _
    kernel_rfl
 show V _ _ _ _
 refine VE ?_
 cases h
 exact zE VT
theorem cf_impl_recordText : CfW Tryz.prog 56 := cfW Tryz.func56
theorem s_impl_recordText {c1 : (Int × ByteArray × ByteArray × ByteArray × ((Int × Int × Int)))} {before2 : Int} {r : (ByteArray × Int)} (h : zBb c1 before2 = some r) : zT Tryz.prog 56 [.ag [Ti c1.1, .v (.string c1.2.1), .v (.string c1.2.2.1), .v (.string c1.2.2.2.1), Ti c1.2.2.2.2.1, Ti c1.2.2.2.2.2.1, Ti c1.2.2.2.2.2.2], I before2] (.tc (.c (.v (.string r.1))) (.tc (I r.2) .tn)) [] := by
 refine CtW [4, 5] Tryz.func56 rfl rfl 20 ?_
 unfold zBb at h
 refine VE ?_
 obtain ⟨y3, hy3, h⟩ := zA h
 refine VS ?_
 refine YK 1 (s_impl_commandText hy3) cf_impl_commandText ?_
 refine YF ?_
 obtain ⟨y4, hy4, h⟩ := zA h
 refine VS ?_
 refine YK 2 (s_impl_checkNumber hy4) cf_impl_checkNumber ?_
 refine YF ?_
 obtain ⟨u5, hu5, h⟩ := zA h
 obtain ⟨y6, hy6, h⟩ := zA h
 obtain ⟨u7, hu7, h⟩ := zA h
 obtain ⟨u8, hu8, h⟩ := zA h
 refine VS ?_
 refine YR 1 ?_
 refine L0 rfl rfl (zBE (a := y3) (b := (⟨#[35]⟩ : ByteArray)) rfl kk kk (qW hu5)) ?_
 refine YK 1 (zEE hy6) zDo ?_
 refine L0 rfl rfl (zBE (a := y3 ++ ((⟨#[35]⟩ : ByteArray))) (b := y6) rfl kk kk (qW hu7)) ?_
 refine L0 rfl rfl (zBE (a := (y3 ++ ((⟨#[35]⟩ : ByteArray))) ++ y6) (b := (⟨#[10]⟩ : ByteArray)) rfl kk kk (qW hu8)) ?_
 refine YF ?_
 cases h
 exact zE VT
theorem rm47_some {n : Nat} {u : Unit} (h : rm47 n = some u) : n ≤ 140737488355328 := by
 unfold rm47 at h
 cases hb : Nat.ble n 140737488355328 with
 | false => rw [hb] at h; cases h
 | true => exact Nat.le_of_ble_eq_true hb
theorem cf_impl_JournalText : CfW Tryz.prog 31 := cfW Tryz.func31
theorem s_impl_JournalText {l1 : List ((Int × ByteArray × ByteArray × ByteArray × ((Int × Int × Int))))} {r : ByteArray × Bool} (h : jZ l1 = some r) : zT Tryz.prog 31 [.c (.sl (l1.map c40))] (.tc (.c (.v (.string r.1))) (.tc (Bo r.2) .tn)) [] := by
 refine CtW [2, 3] Tryz.func31 rfl rfl 33 ?_
 unfold jZ at h
 refine VE ?_
 refine zJ ?_
 refine VS ?_
 refine YR 1 ?_
 refine L0 rfl rfl (qK (c := c40) (xs := l1) Tryz.underlying50 rfl kk) ?_
 refine YF ?_
 refine VC h (fun h => ?_) (fun h => ?_)
 ·refine VE ?_
  cases h
  exact zE VT
 ·refine zG ?_
  show V _ _ _ _
  refine jE (mb 33 1) [] (s' := ⟨.c (.sl (l1.map c40)) :: bt 32 [], []⟩) kk ?_
  refine VB_new rfl rfl rfl kk kk fun b => ?_
  refine VP_seqV (zX ?_)
  refine YF ?_
  show VP _ _ _ _ _ _
  obtain ⟨q, hq, h⟩ := zA h
  refine VP_seq ?_
  refine VB_seqV (zX ?_)
  refine YR 1 ?_
  refine L0 rfl rfl (qK (c := c40) (xs := l1) Tryz.underlying50 rfl kk) ?_
  refine YF ?_
  show VB _ _ _ _ _ _
  refine VB_block ?_
  refine VB_loop (fun n s l => ∃ (k : Int) (m : Int), s.keep (mb 33 57393) [] = (⟨.c (.sl (l1.map c40)) :: bt 3 (bp b :: I m :: bt 7 (.c (.sl (l1.map c40)) :: I ((l1.length : Int)) :: I k :: bt 17 [])), []⟩ : St) ∧ qU l1 n k m l = some q) FU ⟨_, _, kk, hq⟩ ?_
  rintro n s l ⟨k, m, hs, h2⟩
  refine VB_keep _ _ hs ?_
  clear hs hq
  cases n with
  | zero => cases h2
  | succ n =>
   rw [qU] at h2
   refine VB_seqV (zX ?_)
   refine YF ?_
   show VB _ _ _ _ _ _
   refine VB_seqV ?_
   refine VC h2 (fun h2 => ?_) (fun h2 => ?_)
   ·refine zG ?_
    show VB _ _ _ _ _ _
    obtain ⟨e, he, h2⟩ := zA h2
    obtain ⟨y, hy, h2⟩ := zA h2
    refine VB_seq ?_
    refine VB_block ?_
    refine VB_seqV (zX ?_)
    refine L0 rfl rfl (zAn (c := c40) (xs := l1) (v := e) (n := k) Tryz.underlying50 sz40 rfl kk kk he) ?_
    refine YF ?_
    show VB _ _ _ _ _ _
    refine VB_seqV ?_
    refine VS ?_
    refine YK 1 (s_impl_isCommand hy) zER ?_
    refine YF ?_
    refine VC h2 (fun h2 => ?_) (fun h2 => ?_)
    ·refine VE ?_
     cases h2
     cases h
     exact zE VT
    ·refine zG ?_
     show VB _ _ _ _ _ _
     obtain ⟨z, hz, h2⟩ := zA h2
     obtain ⟨u, hu, h2⟩ := zA h2
     refine VB_seqV (zX ?_)
     refine YK 2 (s_impl_recordText hz) cf_impl_recordText ?_
     refine YF ?_
     show VB _ _ _ _ _ _
     refine VB_seqV (zX ?_)
     refine YF ?_
     show VB _ _ _ _ _ _
     refine VB_keep (mb 33 57649) [] (s' := ⟨.c (.sl (l1.map c40)) :: bt 3 (bp b :: I z.2 :: bt 2 (.c (.v (.string z.1)) :: bt 4 (.c (.sl (l1.map c40)) :: I ((l1.length : Int)) :: I k :: bt 17 []))), []⟩) kk ?_
     refine VB_region ?_
     refine XLB_1 ?_
     refine XLB_write rfl rfl rfl (rm47_some hu) ?_
     refine XLB_nil ?_
     show VB _ _ _ _ _ _
     refine VB_V (zX ?_)
     refine YF ?_
     exact ⟨n, Nat.lt_succ_self n, _, _, kk, h2⟩
   ·refine jA ?_
    cases h2
    show VP _ _ _ _ _ _
    refine VP_sreg ?_
    refine XLP_string rfl rfl rfl ?_
    refine YF ?_
    cases h
    exact zE VT
theorem cf_spec_lgWords : CfW Tryz.prog 180 := cfW Tryz.func180
theorem s_spec_lgWords {r : List ByteArray} (h : zDP = some r) : zT Tryz.prog 180 [] (.ow 0) [(0, .arr 9 1 (r.map c9))] := by
 refine CtW [0] Tryz.func180 rfl rfl 2 ?_
 unfold zDP at h
 refine VS ?_
 refine L1 rfl rfl (zAU (e := 9) 1 (by decide) (.inl rfl)) ?_
 refine YF ?_
 obtain ⟨l1, hl1, h⟩ := zA h
 have hl1 := zB hl1
 refine zO (mb 2 1) [8] (s1 := ⟨.ow 8 :: .bot :: [], [(8, .arr 9 1 (l1.map c9))]⟩) ?_ ?_
 ·refine L1 rfl rfl (qP (z := zv9) (els := [(⟨#[]⟩ : ByteArray), (⟨#[97, 100, 100]⟩ : ByteArray), (⟨#[100, 114, 111, 112]⟩ : ByteArray), (⟨#[109, 117, 108]⟩ : ByteArray), (⟨#[105, 110, 118]⟩ : ByteArray), (⟨#[109, 111, 118, 101]⟩ : ByteArray)].map c9) Tryz.underlying66 iz9 rfl (by decide) rfl kk rfl (by simp [c9]) (by decide) (by decide)) ?_
  refine XR 1 ?_
  refine zK ?_
  subst hl1
  kernel_rfl
 cases h
 exact zE VT
theorem cf_spec_l1Num : CfW Tryz.prog 102 := cfW Tryz.func102
theorem s_spec_l1Num_rec : ∀ (n : Nat) {vn1 : Int} {r : ByteArray}, zBW n vn1 = some r → zT Tryz.prog 102 [I vn1] (.c (.v (.string r))) [] := by
 intro n
 induction n with
 | zero => intro vn1 r h; cases h
 | succ n ih =>
  intro vn1 r h
  refine CtW [2] Tryz.func102 rfl rfl 20 ?_
  rw [zBW] at h
  show V _ _ ⟨I vn1 :: bt 19 [], []⟩ _
  refine VE ?_
  refine zJ ?_
  refine VE ?_
  refine VC h (fun h => ?_) (fun h => ?_)
  ·refine VS ?_
   refine YR 2 ?_
   refine L0 rfl rfl (Y0_conv (k2 := .i64) (a := w64 (48 + vn1)) Tryz.underlying3 Tryz.underlying5 rfl kk) ?_
   refine L1 rfl rfl (qP (z := zv5) (els := [IntKind.u8.wrap (w64 (48 + vn1))].map c5) Tryz.underlying48 iz5 rfl (by decide) rfl kk rfl (by simp [c5]) (by decide) (by decide)) ?_
   refine L0 rfl rfl (Y0_b2s (c := c5) (fun _ => rfl) ([IntKind.u8.wrap (w64 (48 + vn1))]) Tryz.underlying48 Tryz.underlying5 Tryz.underlying9 rfl kk) ?_
   refine YF ?_
   cases h
   exact zE VT
  ·refine zG ?_
   show V _ _ _ _
   obtain ⟨y3, hy3, h⟩ := zA h
   obtain ⟨u4, hu4, h⟩ := zA h
   refine VDS [0, 1, 3, 0, 8, 24, 56, 120, 248, 511, 1023] 11 (cdm 11 [174720, 174721, 174725, 42, 106, 362, 1386, 5482, 21866, 87381, 349525]) ?_
   refine ER 1 ?_
   refine E0 1 rfl rfl (zAC (a := vn1) (b := 10) rfl kk kk (by decide)) ?_
   refine EK 0 (ih hy3) cf_spec_l1Num ?_
   refine ER 1 ?_
   refine E0 4 rfl rfl (Y0_rem (k := .i64) (a := vn1) (b := 10) rfl kk kk (by decide)) ?_
   refine ER 1 ?_
   refine E0 6 rfl rfl (Y0_conv (k2 := .i64) (a := w64 (48 + (Int.tmod vn1 10))) Tryz.underlying3 Tryz.underlying5 rfl kk) ?_
   refine E1 7 rfl rfl (qP (z := zv5) (els := [IntKind.u8.wrap (w64 (48 + (Int.tmod vn1 10)))].map c5) Tryz.underlying48 iz5 rfl (by decide) rfl kk rfl (by simp [c5]) (by decide) (by decide)) ?_
   refine E0 8 rfl rfl (Y0_b2s (c := c5) (fun _ => rfl) ([IntKind.u8.wrap (w64 (48 + (Int.tmod vn1 10)))]) Tryz.underlying48 Tryz.underlying5 Tryz.underlying9 rfl kk) ?_
   refine E0 9 rfl rfl (zBE (a := y3) (b := bytesI ([IntKind.u8.wrap (w64 (48 + (Int.tmod vn1 10)))])) rfl kk kk (qW hu4)) ?_
   refine EF 1 ?_
   cases h
   exact zE VT
theorem s_spec_l1Num {vn1 : Int} {r : ByteArray} (h : zBW FU vn1 = some r) : zT Tryz.prog 102 [I vn1] (.c (.v (.string r))) [] := s_spec_l1Num_rec FU h
theorem cf_spec_l1Int : CfW Tryz.prog 136 := cfW Tryz.func136
theorem s_spec_l1Int {vn1 : Int} {r : ByteArray} (h : zCn vn1 = some r) : zT Tryz.prog 136 [I vn1] (.c (.v (.string r))) [] := by
 refine CtW [2] Tryz.func136 rfl rfl 11 ?_
 unfold zCn at h
 refine VE ?_
 refine zJ ?_
 refine VE ?_
 refine VC h (fun h => ?_) (fun h => ?_)
 ·obtain ⟨y3, hy3, h⟩ := zA h
  obtain ⟨u4, hu4, h⟩ := zA h
  refine VS ?_
  refine YK 2 (s_spec_l1Num hy3) cf_spec_l1Num ?_
  refine L0 rfl rfl (zBE (a := (⟨#[45]⟩ : ByteArray)) (b := y3) rfl kk kk (qW hu4)) ?_
  refine YF ?_
  cases h
  exact zE VT
 ·refine zG ?_
  show V _ _ _ _
  obtain ⟨y5, hy5, h⟩ := zA h
  refine VS ?_
  refine YK 1 (s_spec_l1Num hy5) cf_spec_l1Num ?_
  refine YF ?_
  cases h
  exact zE VT
theorem cf_spec_foText : CfW Tryz.prog 139 := cfW Tryz.func139
theorem s_spec_foText {f1 : (Int × Int × Int)} {r : ByteArray} (h : zDf f1 = some r) : zT Tryz.prog 139 [.ag [Ti f1.1, Ti f1.2.1, Ti f1.2.2]] (.c (.v (.string r))) [] := by
 refine CtW [2] Tryz.func139 rfl rfl 18 ?_
 unfold zDf at h
 refine VE ?_
 obtain ⟨y2, hy2, h⟩ := zA h
 obtain ⟨u3, hu3, h⟩ := zA h
 obtain ⟨u4, hu4, h⟩ := zA h
 obtain ⟨y5, hy5, h⟩ := zA h
 obtain ⟨u6, hu6, h⟩ := zA h
 obtain ⟨u7, hu7, h⟩ := zA h
 obtain ⟨y8, hy8, h⟩ := zA h
 obtain ⟨u9, hu9, h⟩ := zA h
 obtain ⟨u10, hu10, h⟩ := zA h
 refine VDS [0, 1, 3, 7, 15, 0, 32, 103, 255, 511, 0, 1024, 3303, 8191, 16383, 32767] 16 (cdm 16 [10496000, 10496001, 10496005, 44083221, 44083285, 10486442, 10487466, 10491541, 44062037, 44127573, 699050, 1747626, 5920405, 22369621, 89478485, 357913941]) ?_
 refine EK 2 (s_spec_l1Int hy2) cf_spec_l1Int ?_
 refine E0 3 rfl rfl (zBE (a := (⟨#[40]⟩ : ByteArray)) (b := y2) rfl kk kk (qW hu3)) ?_
 refine E0 4 rfl rfl (zBE (a := ((⟨#[40]⟩ : ByteArray)) ++ y2) (b := (⟨#[44]⟩ : ByteArray)) rfl kk kk (qW hu4)) ?_
 refine EK 2 (s_spec_l1Int hy5) cf_spec_l1Int ?_
 refine E0 8 rfl rfl (zBE (a := (((⟨#[40]⟩ : ByteArray)) ++ y2) ++ ((⟨#[44]⟩ : ByteArray))) (b := y5) rfl kk kk (qW hu6)) ?_
 refine E0 9 rfl rfl (zBE (a := ((((⟨#[40]⟩ : ByteArray)) ++ y2) ++ ((⟨#[44]⟩ : ByteArray))) ++ y5) (b := (⟨#[44]⟩ : ByteArray)) rfl kk kk (qW hu7)) ?_
 refine EK 2 (s_spec_l1Int hy8) cf_spec_l1Int ?_
 refine E0 13 rfl rfl (zBE (a := (((((⟨#[40]⟩ : ByteArray)) ++ y2) ++ ((⟨#[44]⟩ : ByteArray))) ++ y5) ++ ((⟨#[44]⟩ : ByteArray))) (b := y8) rfl kk kk (qW hu9)) ?_
 refine E0 14 rfl rfl (zBE (a := ((((((⟨#[40]⟩ : ByteArray)) ++ y2) ++ ((⟨#[44]⟩ : ByteArray))) ++ y5) ++ ((⟨#[44]⟩ : ByteArray))) ++ y8) (b := (⟨#[41]⟩ : ByteArray)) rfl kk kk (qW hu10)) ?_
 refine EF 1 ?_
 cases h
 exact zE VT
theorem cf_spec_lgText : CfW Tryz.prog 90 := cfW Tryz.func90
theorem s_spec_lgText {c1 : (Int × ByteArray × ByteArray × ByteArray × ((Int × Int × Int)))} {r : ByteArray} (h : qS c1 = some r) : zT Tryz.prog 90 [.ag [Ti c1.1, .v (.string c1.2.1), .v (.string c1.2.2.1), .v (.string c1.2.2.2.1), Ti c1.2.2.2.2.1, Ti c1.2.2.2.2.2.1, Ti c1.2.2.2.2.2.2]] (.c (.v (.string r))) [] := by
 refine CtW [2] Tryz.func90 rfl rfl 39 ?_
 unfold qS at h
 refine VE ?_
 obtain ⟨y2, hy2, h⟩ := zA h
 obtain ⟨e3, he3, h⟩ := zA h
 obtain ⟨e4, he4, h⟩ := zA h
 obtain ⟨u5, hu5, h⟩ := zA h
 obtain ⟨u6, hu6, h⟩ := zA h
 refine VDS [0, 0, 2, 7, 15, 31, 0, 64, 255, 511] 10 (cdm 10 [41000, 40962, 40966, 40981, 41045, 41301, 2730, 6826, 21845, 87381]) ?_
 refine EK 0 (s_spec_lgWords hy2) cf_spec_lgWords ?_
 refine ER 2 ?_
 refine E0 3 rfl rfl (zAV (c := c9) (xs := y2) (v := e3) (id := 32) (T := 9) (sz := 1) (n := c1.1) Tryz.underlying66 sz9 rfl kk kk kk he3) ?_
 refine E0 4 rfl rfl (zA5 (c := c9) (xs := y2) (v := e4) (id := 32) (sz := 1) (T := 9) (off := 0) (n := c1.1) (d := .v (.string e4)) (ds := []) sc9 rfl kk kk he4 kk) ?_
 refine E0 5 rfl rfl (zBE (a := e4) (b := (⟨#[32]⟩ : ByteArray)) rfl kk kk (qW hu5)) ?_
 refine ER 2 ?_
 refine E0 8 rfl rfl (zBE (a := e4 ++ ((⟨#[32]⟩ : ByteArray))) (b := c1.2.1) rfl kk kk (qW hu6)) ?_
 refine EF 1 ?_
 obtain ⟨j7, hj7, h⟩ := zA h
 refine zCw (mb 39 10) [8] (s1 := ⟨.bot :: .pt 8 0 :: .bot :: .c (.v (.string j7)) :: bt 35 [], [(8, .box [Ti c1.1, .v (.string c1.2.1), .v (.string c1.2.2.1), .v (.string c1.2.2.2.1), Ti c1.2.2.2.2.1, Ti c1.2.2.2.2.2.1, Ti c1.2.2.2.2.2.2])]⟩) ?_ ?_
 ·clear h
  have h := hj7
  clear hj7
  refine VS ?_
  refine YF ?_
  refine VC h (fun h => ?_) (fun h => ?_)
  ·obtain ⟨u9, hu9, h⟩ := zA h
   obtain ⟨u10, hu10, h⟩ := zA h
   refine zX ?_
   refine YR 3 ?_
   refine L0 rfl rfl (zBE (a := (⟨#[32]⟩ : ByteArray)) (b := c1.2.2.1) rfl kk kk (qW hu9)) ?_
   refine L0 rfl rfl (zBE (a := (e4 ++ ((⟨#[32]⟩ : ByteArray))) ++ c1.2.1) (b := ((⟨#[32]⟩ : ByteArray)) ++ c1.2.2.1) rfl kk kk (qW hu10)) ?_
   refine YF ?_
   obtain rfl := zB h
   show St.keep _ _ _ = _
   kernel_rfl
  ·refine zG ?_
   obtain rfl := zB h
   show St.keep _ _ _ = _
   kernel_rfl
 obtain ⟨j11, hj11, h⟩ := zA h
 refine zCw (mb 39 10) [8] (s1 := ⟨.bot :: .pt 8 0 :: .bot :: .c (.v (.string j11)) :: bt 35 [], [(8, .box [Ti c1.1, .v (.string c1.2.1), .v (.string c1.2.2.1), .v (.string c1.2.2.2.1), Ti c1.2.2.2.2.1, Ti c1.2.2.2.2.2.1, Ti c1.2.2.2.2.2.2])]⟩) ?_ ?_
 ·clear h
  have h := hj11
  clear hj11
  refine VS ?_
  refine YF ?_
  refine VC h (fun h => ?_) (fun h => ?_)
  ·obtain ⟨u13, hu13, h⟩ := zA h
   obtain ⟨u14, hu14, h⟩ := zA h
   refine zX ?_
   refine YR 3 ?_
   refine L0 rfl rfl (zBE (a := (⟨#[32]⟩ : ByteArray)) (b := c1.2.2.2.1) rfl kk kk (qW hu13)) ?_
   refine L0 rfl rfl (zBE (a := j7) (b := ((⟨#[32]⟩ : ByteArray)) ++ c1.2.2.2.1) rfl kk kk (qW hu14)) ?_
   refine YF ?_
   obtain rfl := zB h
   show St.keep _ _ _ = _
   kernel_rfl
  ·refine zG ?_
   obtain rfl := zB h
   show St.keep _ _ _ = _
   kernel_rfl
 refine zJ ?_
 obtain ⟨y15, hy15, h⟩ := zA h
 refine VS ?_
 refine YK 2 (s_spec_lgHasForm hy15) zEP ?_
 refine YF ?_
 refine VC h (fun h => ?_) (fun h => ?_)
 ·obtain ⟨y17, hy17, h⟩ := zA h
  obtain ⟨u18, hu18, h⟩ := zA h
  obtain ⟨u19, hu19, h⟩ := zA h
  refine zX ?_
  refine YK 3 (s_spec_foText hy17) cf_spec_foText ?_
  refine L0 rfl rfl (zBE (a := (⟨#[32]⟩ : ByteArray)) (b := y17) rfl kk kk (qW hu18)) ?_
  refine L0 rfl rfl (zBE (a := j11) (b := ((⟨#[32]⟩ : ByteArray)) ++ y17) rfl kk kk (qW hu19)) ?_
  refine YF ?_
  show V _ _ _ _
  refine VE ?_
  cases h
  exact zE VT
 ·refine zG ?_
  show V _ _ _ _
  refine VE ?_
  cases h
  exact zE VT
theorem cf_spec_lgCheck : CfW Tryz.prog 89 := cfW Tryz.func89
theorem s_spec_lgCheck {vs1 : ByteArray} {before2 : Int} {r : Int} (h : zBn vs1 before2 = some r) : zT Tryz.prog 89 [.c (.v (.string vs1)), I before2] (I r) [] := by
 refine CtW [4] Tryz.func89 rfl rfl 22 ?_
 unfold zBn at h
 refine VE ?_
 refine zJ ?_
 refine VE ?_
 obtain ⟨o6, hLo6, h⟩ := zA h
 refine zCV (mb 22 2) [] (s1 := ⟨.bot :: I o6 :: bt 20 [], []⟩) ?_ ?_
 ·clear h
  refine zN (jH (fun n s => ∃ (before3 : Int) (i4 : Int), s.keep (mb 22 35) [] = (⟨.c (.v (.string vs1)) :: I before3 :: bt 3 (I i4 :: bt 16 []), []⟩ : St) ∧ zB6 vs1 n before3 i4 = some o6) FU ⟨_, _,  kk, hLo6⟩ ?_)
  clear hLo6
  rintro n s ⟨before3, i4, hs, h⟩
  refine jE _ _ hs ?_
  clear hs
  cases n with
  | zero => cases h
  | succ n =>
   rw [zB6] at h
   refine zJ ?_
   refine VS ?_
   refine YF ?_
   refine VC h (fun h => ?_) (fun h => ?_)
   ·refine zG ?_
    show V _ _ _ _
    refine zJ ?_
    refine zN ?_
    obtain ⟨e8, he8, h⟩ := zA h
    obtain ⟨before9, hbefore9, h⟩ := zS h
    refine jD (mb 22 35) [] (s1 := ⟨.c (.v (.string vs1)) :: I before9 :: bt 3 (I i4 :: bt 16 []), []⟩) ?_ ?_
    ·refine XR 4 ?_
     refine L0 rfl rfl (zC0 (b := vs1) (k := .i64) (n := i4) (v := e8) Tryz.underlying9 rfl kk kk he8) ?_
     refine L0 rfl rfl (Y0_conv (k2 := .u8) (a := e8) Tryz.underlying5 Tryz.underlying3 rfl kk) ?_
     refine XR 2 ?_
     refine L0 rfl rfl (Y0_rem (k := .i64) (a := w64 ((w64 ((w64 (31 * before3)) + (IntKind.i64.wrap e8))) + 1)) (b := 9973) rfl kk kk (by decide)) ?_
     refine XR 1 ?_
     refine zK ?_
     subst hbefore9
     kernel_rfl
    show V _ _ _ _
    obtain ⟨i10, hi10, h⟩ := zS h
    refine jD (mb 22 35) [] (s1 := ⟨.c (.v (.string vs1)) :: I before9 :: bt 3 (I i10 :: bt 16 []), []⟩) ?_ ?_
    ·refine XR 3 ?_
     refine zK ?_
     subst hi10
     kernel_rfl
    exact ⟨n, Nat.lt_succ_self n, _, _,  kk, h⟩
   ·refine jA ?_
    obtain rfl := zB h
    show St.keep _ _ _ = _
    kernel_rfl
 show V _ _ _ _
 refine VE ?_
 cases h
 exact zE VT
theorem cf_spec_lgRecord : CfW Tryz.prog 51 := cfW Tryz.func51
theorem s_spec_lgRecord {c1 : (Int × ByteArray × ByteArray × ByteArray × ((Int × Int × Int)))} {before2 : Int} {r : ByteArray} (h : zBw c1 before2 = some r) : zT Tryz.prog 51 [.ag [Ti c1.1, .v (.string c1.2.1), .v (.string c1.2.2.1), .v (.string c1.2.2.2.1), Ti c1.2.2.2.2.1, Ti c1.2.2.2.2.2.1, Ti c1.2.2.2.2.2.2], I before2] (.c (.v (.string r))) [] := by
 refine CtW [4] Tryz.func51 rfl rfl 16 ?_
 unfold zBw at h
 refine VE ?_
 obtain ⟨y3, hy3, h⟩ := zA h
 refine VS ?_
 refine YK 1 (s_spec_lgText hy3) cf_spec_lgText ?_
 refine YF ?_
 obtain ⟨u4, hu4, h⟩ := zA h
 obtain ⟨y5, hy5, h⟩ := zA h
 obtain ⟨y6, hy6, h⟩ := zA h
 obtain ⟨u7, hu7, h⟩ := zA h
 obtain ⟨u8, hu8, h⟩ := zA h
 refine VS ?_
 refine YR 1 ?_
 refine L0 rfl rfl (zBE (a := y3) (b := (⟨#[35]⟩ : ByteArray)) rfl kk kk (qW hu4)) ?_
 refine YK 2 (s_spec_lgCheck hy5) cf_spec_lgCheck ?_
 refine YK 0 (s_spec_l1Num hy6) cf_spec_l1Num ?_
 refine L0 rfl rfl (zBE (a := y3 ++ ((⟨#[35]⟩ : ByteArray))) (b := y6) rfl kk kk (qW hu7)) ?_
 refine L0 rfl rfl (zBE (a := (y3 ++ ((⟨#[35]⟩ : ByteArray))) ++ y6) (b := (⟨#[10]⟩ : ByteArray)) rfl kk kk (qW hu8)) ?_
 refine YF ?_
 cases h
 exact zE VT
theorem cf_spec_lgJournal : CfW Tryz.prog 48 := cfW Tryz.func48
theorem s_spec_lgJournal {l1 : List ((Int × ByteArray × ByteArray × ByteArray × ((Int × Int × Int))))} {r : ByteArray} (h : zC7 l1 = some r) : zT Tryz.prog 48 [.c (.sl (l1.map c40))] (.c (.v (.string r))) [] := by
 refine CtW [2] Tryz.func48 rfl rfl 24 ?_
 unfold zC7 at h
 refine VE ?_
 refine VE ?_
 refine zJ ?_
 refine VS ?_
 refine YR 1 ?_
 refine L0 rfl rfl (qK (c := c40) (xs := l1) Tryz.underlying50 rfl kk) ?_
 refine YF ?_
 obtain ⟨o6, hLo6, h⟩ := zA h
 refine zCV (mb 24 8) [] (s1 := ⟨bt 3 (.c (.v (.string o6)) :: bt 20 []), []⟩) ?_ ?_
 ·clear h
  refine zN (jH (fun n s => ∃ (out2 : ByteArray) (check3 : Int) (t4 : Int), s.keep (mb 24 920) [] = (⟨bt 3 (.c (.v (.string out2)) :: I check3 :: .bot :: .bot :: .c (.sl (l1.map c40)) :: I ((l1.length : Int)) :: I t4 :: bt 14 []), []⟩ : St) ∧ zAI l1 n out2 check3 t4 = some o6) FU ⟨_, _, _,  kk, hLo6⟩ ?_)
  clear hLo6
  rintro n s ⟨out2, check3, t4, hs, h⟩
  refine jE _ _ hs ?_
  clear hs
  cases n with
  | zero => cases h
  | succ n =>
   rw [zAI] at h
   refine VE ?_
   refine zJ ?_
   refine VC h (fun h => ?_) (fun h => ?_)
   ·refine zG ?_
    show V _ _ _ _
    refine zJ ?_
    refine zN ?_
    obtain ⟨e8, he8, h⟩ := zA h
    refine VS ?_
    refine L0 rfl rfl (zAn (c := c40) (xs := l1) (v := e8) (n := t4) Tryz.underlying50 sz40 rfl kk kk he8) ?_
    refine YF ?_
    obtain ⟨y9, hy9, h⟩ := zA h
    obtain ⟨u10, hu10, h⟩ := zA h
    refine VS ?_
    refine YK 3 (s_spec_lgRecord hy9) cf_spec_lgRecord ?_
    refine L0 rfl rfl (zBE (a := out2) (b := y9) rfl kk kk (qW hu10)) ?_
    refine YF ?_
    obtain ⟨y11, hy11, h⟩ := zA h
    obtain ⟨y12, hy12, h⟩ := zA h
    refine zX ?_
    refine YK 1 (s_spec_lgText hy11) cf_spec_lgText ?_
    refine YK 1 (s_spec_lgCheck hy12) cf_spec_lgCheck ?_
    refine YF ?_
    show V _ _ _ _
    obtain ⟨t13, ht13, h⟩ := zS h
    refine jD (mb 24 920) [] (s1 := ⟨bt 3 (.c (.v (.string (out2 ++ y9))) :: I y12 :: .bot :: .bot :: .c (.sl (l1.map c40)) :: I ((l1.length : Int)) :: I t13 :: bt 14 []), []⟩) ?_ ?_
    ·refine XR 2 ?_
     refine zK ?_
     subst ht13
     kernel_rfl
    exact ⟨n, Nat.lt_succ_self n, _, _, _,  kk, h⟩
   ·refine jA ?_
    obtain rfl := zB h
    show St.keep _ _ _ = _
    kernel_rfl
 show V _ _ _ _
 refine VE ?_
 cases h
 exact zE VT
theorem cf_spec_JournalText : CfW Tryz.prog 32 := cfW Tryz.func32
theorem s_spec_JournalText {l1 : List ((Int × ByteArray × ByteArray × ByteArray × ((Int × Int × Int))))} {r : (ByteArray × Bool)} (h : zAS l1 = some r) : zT Tryz.prog 32 [.c (.sl (l1.map c40))] (.tc (.c (.v (.string r.1))) (.tc (Bo r.2) .tn)) [] := by
 refine CtW [2, 3] Tryz.func32 rfl rfl 21 ?_
 unfold zAS at h
 refine VE ?_
 refine zJ ?_
 refine VS ?_
 refine YR 1 ?_
 refine L0 rfl rfl (qK (c := c40) (xs := l1) Tryz.underlying50 rfl kk) ?_
 refine YF ?_
 obtain ⟨qo4, hLo4, hko4⟩ := zA h
 refine zEX (q := qo4) (S := fun o4 => ⟨.c (.sl (l1.map c40)) :: bt 20 [], []⟩) (mb 21 1) [] ?_ ?_
 ·refine zN (jH (fun n s => ∃ (t2 : Int), s.keep (mb 21 449) [] = (⟨.c (.sl (l1.map c40)) :: bt 5 (.c (.sl (l1.map c40)) :: I ((l1.length : Int)) :: I t2 :: bt 12 []), []⟩ : St) ∧ jO l1 n t2 = some qo4) FU ⟨_,  kk, hLo4⟩ ?_)
  clear hLo4
  rintro n s ⟨t2, hs, h⟩
  refine jE _ _ hs ?_
  clear hs
  cases n with
  | zero => cases h
  | succ n =>
   rw [jO] at h
   refine VE ?_
   refine zJ ?_
   refine VC h (fun h => ?_) (fun h => ?_)
   ·refine zG ?_
    show V _ _ _ _
    refine zJ ?_
    refine zN ?_
    obtain ⟨e6, he6, h⟩ := zA h
    refine VS ?_
    refine L0 rfl rfl (zAn (c := c40) (xs := l1) (v := e6) (n := t2) Tryz.underlying50 sz40 rfl kk kk he6) ?_
    refine YF ?_
    obtain ⟨y7, hy7, h⟩ := zA h
    refine VS ?_
    refine YK 1 (s_spec_lgCommand hy7) zEQ ?_
    refine YF ?_
    refine VC h (fun h => ?_) (fun h => ?_)
    ·refine VE ?_
     refine zE ?_
     obtain rfl := zB h
     have h := hko4
     obtain rfl := zB h
     exact VT
    ·refine zG ?_
     show V _ _ _ _
     obtain ⟨t9, ht9, h⟩ := zS h
     refine jD (mb 21 449) [] (s1 := ⟨.c (.sl (l1.map c40)) :: bt 5 (.c (.sl (l1.map c40)) :: I ((l1.length : Int)) :: I t9 :: bt 12 []), []⟩) ?_ ?_
     ·refine XR 2 ?_
      refine zK ?_
      subst ht9
      kernel_rfl
     exact ⟨n, Nat.lt_succ_self n, _,  kk, h⟩
   ·refine jA ?_
    obtain rfl := zB h
    exact ⟨_, rfl, kk⟩
 rintro o4 rfl
 have h := hko4
 clear hko4
 show V _ _ _ _
 refine zJ ?_
 refine VS ?_
 refine YR 1 ?_
 refine L0 rfl rfl (qK (c := c40) (xs := l1) Tryz.underlying50 rfl kk) ?_
 refine YF ?_
 refine VC h (fun h => ?_) (fun h => ?_)
 ·refine VE ?_
  cases h
  exact zE VT
 ·refine zG ?_
  show V _ _ _ _
  obtain ⟨y11, hy11, h⟩ := zA h
  refine VS ?_
  refine YK 1 (s_spec_lgJournal hy11) cf_spec_lgJournal ?_
  refine YF ?_
  cases h
  exact zE VT
theorem zEA : CfW Tryz.prog 189 := cfW Tryz.func189
theorem zEH {vs1 : ByteArray} {c2 : Int} {r : Int} (h : zAM vs1 c2 = some r) : zT Tryz.prog 189 [.c (.v (.string vs1)), .c (.v (.int .u8 c2))] (I r) [] := by
 refine CtW [4] Tryz.func189 rfl rfl 8 ?_
 unfold zAM at h
 refine VE ?_
 obtain ⟨t3, ht3, h⟩ := zS h
 refine zO (mb 8 16) [] (s1 := ⟨bt 4 (I t3 :: bt 3 []), []⟩) ?_ ?_
 ·refine XR 2 ?_
  refine L0 rfl rfl (Y0_idxb (b := vs1) (c := c2) cx_242 rfl kk kk) ?_
  refine XR 1 ?_
  refine zK ?_
  subst ht3
  kernel_rfl
 cases h
 exact zE VT
theorem cf_strings_IndexByte : CfW Tryz.prog 105 := cfW Tryz.func105
theorem s_strings_IndexByte {vs1 : ByteArray} {c2 : Int} {r : Int} (h : zCY vs1 c2 = some r) : zT Tryz.prog 105 [.c (.v (.string vs1)), .c (.v (.int .u8 c2))] (I r) [] := by
 refine CtW [4] Tryz.func105 rfl rfl 8 ?_
 unfold zCY at h
 refine VE ?_
 obtain ⟨y3, hy3, h⟩ := zA h
 refine VS ?_
 refine YK 2 (zEH hy3) zEA ?_
 refine YF ?_
 cases h
 exact zE VT
theorem cf_impl_integersIn : CfW Tryz.prog 160 := cfW Tryz.func160
theorem s_impl_integersIn {vs1 : ByteArray} {r : List Int} (h : zBC vs1 = some r) : zT Tryz.prog 160 [.c (.v (.string vs1))] (.ow 0) [(0, .arr 3 1 (r.map c3))] := by
 refine CtW [2] Tryz.func160 rfl rfl 30 ?_
 unfold zBC at h
 refine VS ?_
 refine L1 rfl rfl (zAU (e := 3) 1 (by decide) (.inl rfl)) ?_
 refine YF ?_
 refine VS ?_
 refine L1 rfl rfl (zBs Tryz.underlying24 sz3 (by decide) rfl rfl) ?_
 refine YF ?_
 refine zJ ?_
 obtain ⟨y2, hy2, h⟩ := zA h
 refine VS ?_
 refine YK 1 (s_strings_FieldsFunc_230 hy2) cf_strings_FieldsFunc ?_
 refine L0 rfl rfl (qK (c := c9) (xs := y2) Tryz.underlying66 rfl kk) ?_
 refine YF ?_
 obtain ⟨qo6, hLo6, hko6⟩ := zA h
 refine zEX (q := qo6) (S := fun o6 => ⟨bt 3 (.ow 64 :: bt 26 []), [(64, .arr 3 1 (o6.map c3))]⟩) (mb 30 8) [64] ?_ ?_
 ·refine zN (jH (fun n s => ∃ (t3 : Int) (l4 : List Int), s.keep (mb 30 7176) [80, 64] = (⟨bt 3 (.ow 64 :: bt 6 (.ow 80 :: I ((y2.length : Int)) :: I t3 :: bt 17 [])), [(80, .arr 9 1 (y2.map c9)), (64, .arr 3 1 (l4.map c3))]⟩ : St) ∧ qN y2 n t3 l4 = some qo6) FU ⟨_, _,  kk, hLo6⟩ ?_)
  clear hLo6
  rintro n s ⟨t3, l4, hs, h⟩
  refine jE _ _ hs ?_
  clear hs
  cases n with
  | zero => cases h
  | succ n =>
   rw [qN] at h
   refine VE ?_
   refine zJ ?_
   refine VC h (fun h => ?_) (fun h => ?_)
   ·refine zG ?_
    show V _ _ _ _
    refine zJ ?_
    refine zN ?_
    obtain ⟨e8, he8, h⟩ := zA h
    obtain ⟨e9, he9, h⟩ := zA h
    refine VS ?_
    refine L0 rfl rfl (zAV (c := c9) (xs := y2) (v := e8) (id := 80) (T := 9) (sz := 1) (n := t3) Tryz.underlying66 sz9 rfl kk kk kk he8) ?_
    refine L0 rfl rfl (zA5 (c := c9) (xs := y2) (v := e9) (id := 80) (sz := 1) (T := 9) (off := 0) (n := t3) (d := .v (.string e9)) (ds := []) sc9 rfl kk kk he9 kk) ?_
    refine YF ?_
    obtain ⟨y10, hy10, h⟩ := zA h
    refine VS ?_
    refine YK 1 (s_strconv_Atoi hy10) cf_strconv_Atoi ?_
    refine YF ?_
    refine zJ ?_
    refine VS ?_
    refine YR 1 ?_
    refine L0 rfl rfl (Y0_erne (b := y10.2) Tryz.underlying91 rfl kk) ?_
    refine YF ?_
    refine VC h (fun h => ?_) (fun h => ?_)
    ·refine VS ?_
     refine L1 rfl rfl (zBs Tryz.underlying24 sz3 (by decide) rfl rfl) ?_
     refine YF ?_
     refine zE ?_
     obtain rfl := zB h
     have h := hko6
     obtain rfl := zB h
     exact VT
    ·refine zG ?_
     show V _ _ _ _
     obtain ⟨u12, hu12, h⟩ := zA h
     refine zX ?_
     refine YR 2 ?_
     refine L1 rfl rfl (qP (z := zv3) (els := [y10.1].map c3) Tryz.underlying24 iz3 rfl (by decide) rfl kk rfl (by simp [c3]) (by decide) (by decide)) ?_
     refine zM rfl (zBJ (c := c3) (xs := l4) (ys := [y10.1]) (id := 64) (z := zv3) rfl rfl Tryz.underlying24 izb3 rfl kk kk kk (fun _ => rfl) (by simp) (zAY hu12) (by decide)) ?_
     refine YF ?_
     show V _ _ _ _
     obtain ⟨t13, ht13, h⟩ := zS h
     refine jD (mb 30 7176) [80, 64] (s1 := ⟨bt 3 (.ow 64 :: bt 6 (.ow 80 :: I ((y2.length : Int)) :: I t13 :: bt 17 [])), [(80, .arr 9 1 (y2.map c9)), (64, .arr 3 1 ((l4 ++ ([y10.1])).map c3))]⟩) ?_ ?_
     ·refine XR 2 ?_
      refine zK ?_
      subst ht13
      kernel_rfl
     exact ⟨n, Nat.lt_succ_self n, _, _,  kk, h⟩
   ·refine jA ?_
    obtain rfl := zB h
    exact ⟨_, rfl, kk⟩
 rintro o6 rfl
 have h := hko6
 clear hko6
 show V _ _ _ _
 refine VE ?_
 cases h
 exact zE VT
theorem cf_impl_ParseForm : CfW Tryz.prog 73 := cfW Tryz.func73
theorem s_impl_ParseForm {vs1 : ByteArray} {r : (((Int × Int × Int)) × Bool)} (h : zA3 vs1 = some r) : zT Tryz.prog 73 [.c (.v (.string vs1))] (.tc (.ag [Ti r.1.1, Ti r.1.2.1, Ti r.1.2.2]) (.tc (Bo r.2) .tn)) [] := by
 refine zY (rs := [.w 2 3, .t 3]) (vs := [.cell 2 38, .tmp 3]) Tryz.func73 rfl rfl (.cons ⟨rfl, wd38⟩ (.cons rfl FitsL.nil)) (by decide) 33 rfl ?_
 unfold zA3 at h
 refine VE ?_
 obtain ⟨y2, hy2, h⟩ := zA h
 refine VS ?_
 refine YK 1 (s_impl_integersIn hy2) cf_impl_integersIn ?_
 refine YF ?_
 refine zJ ?_
 refine VS ?_
 refine YR 1 ?_
 refine L0 rfl rfl (qK (c := c3) (xs := y2) Tryz.underlying24 rfl kk) ?_
 refine YF ?_
 refine VC h (fun h => ?_) (fun h => ?_)
 ·refine VS ?_
  refine L0 rfl rfl (zW (cs := [Ti 0, Ti 0, Ti 0]) pl38 bt38 rfl rfl kk) ?_
  refine YF ?_
  cases h
  exact zE VT
 ·refine zG ?_
  show V _ _ _ _
  obtain ⟨e4, he4, h⟩ := zA h
  obtain ⟨e5, he5, h⟩ := zA h
  obtain ⟨e6, he6, h⟩ := zA h
  obtain ⟨e7, he7, h⟩ := zA h
  obtain ⟨e8, he8, h⟩ := zA h
  obtain ⟨e9, he9, h⟩ := zA h
  refine VDS [0, 1, 3, 0, 8, 24, 0, 64, 192, 511, 0, 2047] 11 (cdm 11 [2271872, 2271873, 2271877, 2269226, 2269290, 2269546, 2099882, 2103978, 2120362, 2184533, 699050]) ?_
  refine ER 1 ?_
  refine E0 1 rfl rfl (zAV (c := c3) (xs := y2) (v := e4) (id := 56) (T := 3) (sz := 1) (n := 0) Tryz.underlying24 sz3 rfl kk kk kk he4) ?_
  refine E0 2 rfl rfl (zA5 (c := c3) (xs := y2) (v := e5) (id := 56) (sz := 1) (T := 3) (off := 0) (n := 0) (d := Ti e5) (ds := []) sc3 rfl kk kk he5 kk) ?_
  refine ER 1 ?_
  refine E0 4 rfl rfl (zAV (c := c3) (xs := y2) (v := e6) (id := 56) (T := 3) (sz := 1) (n := 1) Tryz.underlying24 sz3 rfl kk kk kk he6) ?_
  refine E0 5 rfl rfl (zA5 (c := c3) (xs := y2) (v := e7) (id := 56) (sz := 1) (T := 3) (off := 0) (n := 1) (d := Ti e7) (ds := []) sc3 rfl kk kk he7 kk) ?_
  refine ER 1 ?_
  refine E0 7 rfl rfl (zAV (c := c3) (xs := y2) (v := e8) (id := 56) (T := 3) (sz := 1) (n := 2) Tryz.underlying24 sz3 rfl kk kk kk he8) ?_
  refine E0 8 rfl rfl (zA5 (c := c3) (xs := y2) (v := e9) (id := 56) (sz := 1) (T := 3) (off := 0) (n := 2) (d := Ti e9) (ds := []) sc3 rfl kk kk he9 kk) ?_
  refine E0 9 rfl rfl (zW (cs := [Ti e5, Ti e7, Ti e9]) pl38 bt38 rfl rfl kk) ?_
  refine EF 1 ?_
  refine zJ ?_
  obtain ⟨y10, hy10, h⟩ := zA h
  obtain ⟨b13, hb13, h⟩ := zA h
  refine zO (mb 33 1073741860) [40, 16] (s1 := ⟨.bot :: .bot :: .pt 16 0 :: .bot :: .bot :: .pt 40 0 :: bt 24 (Bo b13 :: .bot :: .bot :: []), [(40, .box [Ti e5, Ti e7, Ti e9]), (16, .box [Ti 0, Ti 0, Ti 0])]⟩) ?_ ?_
  ·refine YK 1 (s_impl_IsForm hy10) cf_impl_IsForm ?_
   refine YR 2 ?_
   refine zD (!y10) (fun hc11 => ?_) (fun hc11 => ?_)
   ·have hb13 := zB (qM hb13 hc11)
    refine YQ hc11 ?_
    exact YE (by rw [← hb13]; (try rw [hc11]); kernel_rfl)
   ·have hb13 := qB hb13 hc11
    obtain ⟨y12, hy12, hb13⟩ := zA hb13
    have hb13 := zB hb13
    refine YQ hc11 ?_
    refine YK 1 (s_impl_formText hy12) cf_impl_formText ?_
    exact YE (by rw [← hb13]; (try rw [hc11]); kernel_rfl)
  refine VC h (fun h => ?_) (fun h => ?_)
  ·refine VS ?_
   refine L0 rfl rfl (zW (cs := [Ti 0, Ti 0, Ti 0]) pl38 bt38 rfl rfl kk) ?_
   refine YF ?_
   cases h
   exact zE VT
  ·refine zG ?_
   show V _ _ _ _
   refine VE ?_
   cases h
   exact zE VT
end Go.Proofs.YtfmjfofocklgpaaGreatDoor
