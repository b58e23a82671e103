/-
  The functions of the program compute what the plain functions say.
  Conditions: none.
-/
import Derived.Test.YtmpnloechnfkjaaDoorShLi
import Derived.Test.YtmpnloechnfkjaaDoorDeRaw
import Derived.Test.YtmpnloechnfkjaaDoorRows
namespace Go.Proofs.YtmpnloechnfkjaaDoor
open Go.RowKit
set_option linter.unusedVariables false
set_option linter.unusedSimpArgs false
def c5 (x : Int) : List Tr := [.v (.int .u8 x)]
def c9 (x : ByteArray) : List Tr := [.v (.string x)]
def c3 (x : Int) : List Tr := [Ti x]
def zv3 : Value := .int .i64 0
theorem zf3 : (Tryd.prog.info? 3).bind (·.zero) = some zv3 := by kernel_rfl
def zv5 : Value := .int .u8 0
theorem zf5 : (Tryd.prog.info? 5).bind (·.zero) = some zv5 := by kernel_rfl
def zv9 : Value := .string ByteArray.empty
theorem zf9 : (Tryd.prog.info? 9).bind (·.zero) = some zv9 := by kernel_rfl
def zv33 : Value := .agg #[.int .i64 0, .int .i64 0, .int .i64 0]
theorem zf33 : (Tryd.prog.info? 33).bind (·.zero) = some zv33 := by kernel_rfl
def zv53 : Value := .agg #[.int .i64 0, .int .i64 0, .int .i64 0, .int .i64 0]
theorem zf53 : (Tryd.prog.info? 53).bind (·.zero) = some zv53 := by kernel_rfl
theorem iz3 : (Tryd.prog.info? 3).map (fun i => (i.zero, i.size)) = some (some zv3, 1) := by kernel_rfl
theorem iz5 : (Tryd.prog.info? 5).map (fun i => (i.zero, i.size)) = some (some zv5, 1) := by kernel_rfl
theorem iz9 : (Tryd.prog.info? 9).map (fun i => (i.zero, i.size)) = some (some zv9, 1) := by kernel_rfl
theorem sc3 : scalar Tryd.prog 3 := ⟨_, Tryd.underlying3, rfl⟩
theorem sc9 : scalar Tryd.prog 9 := ⟨_, Tryd.underlying9, rfl⟩
theorem sz3 : (Tryd.prog.info? 3).map (·.size) = some 1 := by kernel_rfl
theorem sz9 : (Tryd.prog.info? 9).map (·.size) = some 1 := by kernel_rfl
theorem sz33 : (Tryd.prog.info? 33).map (·.size) = some 3 := by kernel_rfl
theorem sz53 : (Tryd.prog.info? 53).map (·.size) = some 4 := by kernel_rfl
theorem wd31 : wide Tryd.prog 31 3 := ⟨⟨_, Tryd.underlying31, rfl⟩, by kernel_rfl⟩
theorem wd33 : wide Tryd.prog 33 3 := ⟨⟨_, Tryd.underlying33, rfl⟩, by kernel_rfl⟩
theorem wd53 : wide Tryd.prog 53 4 := ⟨⟨_, Tryd.underlying53, rfl⟩, by kernel_rfl⟩
def pl33 : Nat → Option (Nat × Nat) := fun i => (#[(0, 1), (1, 1), (2, 1)] : Array (Nat × Nat))[i]?
theorem bt33 : ∀ ps, Tryd.prog.built 33 ps = Instr.fill pl33 #[.int .i64 0, .int .i64 0, .int .i64 0] ps := fun ps => by kernel_rfl
def pl53 : Nat → Option (Nat × Nat) := fun i => (#[(0, 1), (1, 1), (2, 1), (3, 1)] : Array (Nat × Nat))[i]?
theorem bt53 : ∀ ps, Tryd.prog.built 53 ps = Instr.fill pl53 #[.int .i64 0, .int .i64 0, .int .i64 0, .int .i64 0] ps := fun ps => by kernel_rfl
theorem eqg33 : EqAg3 Tryd.prog .eql 33 := by
  intro a0 a1 a2 b0 b1 b2 x y w
  have hg : (eqGuard .eql 33 x y (.agg #[.int .i64 a0, .int .i64 a1, .int .i64 a2]) (.agg #[.int .i64 b0, .int .i64 b1, .int .i64 b2])).run Tryd.prog w = .ok () w := by simp [eqGuard, (by kernel_rfl : Tryd.prog.eqGuardType Tryd.prog.depth 33 = false)]
  have hf : (Tryd.prog.fieldsOf 33).toList = (match Tryd.prog.underlying 33 with | some (.struct fs) => fs.toList | _ => []) := by kernel_rfl
  refine ⟨hg, ?_⟩
  rw [run_eql_struct, run_equalIn_agg (d := 9999) (ht := by kernel_rfl) (hp := by kernel_rfl), hf, Tryd.underlying33]
  by_cases h0 : a0 = b0 <;> by_cases h1 : a1 = b1 <;> by_cases h2 : a2 = b2 <;> simp [Op.eqFields, part, go_sem, h0, h1, h2]
theorem neg33 : EqAg3 Tryd.prog .neq 33 := by
  intro a0 a1 a2 b0 b1 b2 x y w
  have hg : (eqGuard .neq 33 x y (.agg #[.int .i64 a0, .int .i64 a1, .int .i64 a2]) (.agg #[.int .i64 b0, .int .i64 b1, .int .i64 b2])).run Tryd.prog w = .ok () w := by simp [eqGuard, (by kernel_rfl : Tryd.prog.eqGuardType Tryd.prog.depth 33 = false)]
  have hf : (Tryd.prog.fieldsOf 33).toList = (match Tryd.prog.underlying 33 with | some (.struct fs) => fs.toList | _ => []) := by kernel_rfl
  refine ⟨hg, ?_⟩
  rw [run_neq_struct, run_equalIn_agg (d := 9999) (ht := by kernel_rfl) (hp := by kernel_rfl), hf, Tryd.underlying33]
  by_cases h0 : a0 = b0 <;> by_cases h1 : a1 = b1 <;> by_cases h2 : a2 = b2 <;> simp [Op.eqFields, part, go_sem, h0, h1, h2]
theorem cf_laws_toForm : ∀ args w, (callFunc 20 args).run Tryd.prog w = .ok (.enter 20 args) w := run_callFunc Tryd.func20 (by kernel_rfl) (by kernel_rfl)
set_option maxRecDepth 100000 in
set_option maxHeartbeats 400000 in
theorem s_laws_toForm {a1 : (Int × Int × Int)} {r : (Int × Int × Int)} (h : r_laws_toForm a1 = some r) : CallS Tryd.prog 20 [.ag [Ti a1.1, Ti a1.2.1, Ti a1.2.2]] (.ag [Ti r.1, Ti r.2.1, Ti r.2.2]) [] := by
  refine CallS_of_text (rs := [.w 2 3]) (vs := [.cell 2 33]) Tryd.func20 rfl rfl (.cons ⟨rfl, wd33⟩ FitsL.nil) (by decide) 14 rfl ?_
  unfold r_laws_toForm at h
  show V _ _ ⟨[.ag [Ti a1.1, Ti a1.2.1, Ti a1.2.2], .bot, .bot, .bot, .bot, .bot, .bot, .bot, .bot, .bot, .bot, .bot, .bot, .bot], []⟩ _
  refine V_sreg [false, true, true, false, false, false, false, false, false, false, false, false, false, false] [16, 8] (s1 := ⟨[.bot, .pt 8 0, .pt 16 0, .bot, .bot, .bot, .bot, .bot, .bot, .bot, .bot, .bot, .bot, .bot], [(16, .box [Ti 0, Ti 0, Ti 0]), (8, .box [Ti a1.1, Ti a1.2.1, Ti a1.2.2])]⟩) ?_ ?_
  · refine XL_cons rfl (X_of_Y1 rfl (Y1_box (cs := [Ti a1.1, Ti a1.2.1, Ti a1.2.2]) rfl (by kernel_rfl))) ?_
    refine XL_cons rfl (X_of_Y1 rfl (Y1_alloc (z := zv33) rfl zf33 rfl)) ?_
    refine XL_nil ?_
    kernel_rfl
  refine V_sreg [false, true, true, true, false, false, false, false, false, false, false, false, false, false] [24, 16, 8] (s1 := ⟨[.bot, .pt 8 0, .pt 16 0, .pt 24 0, .bot, .bot, .bot, .bot, .bot, .bot, .bot, .bot, .bot, .bot], [(24, .box [Ti 0, Ti 0, Ti 0]), (16, .box [Ti 0, Ti 0, Ti 0]), (8, .box [Ti a1.1, Ti a1.2.1, Ti a1.2.2])]⟩) ?_ ?_
  · refine XL_cons rfl (X_of_Y1 rfl (Y1_alloc (z := zv33) rfl zf33 rfl)) ?_
    refine XL_nil ?_
    kernel_rfl
  refine V_sreg [false, true, true, true, false, false, false, false, false, false, false, false, false, false] [24, 16, 8] (s1 := ⟨[.bot, .pt 8 0, .pt 16 0, .pt 24 0, .bot, .bot, .bot, .bot, .bot, .bot, .bot, .bot, .bot, .bot], [(24, .box [Ti a1.1, Ti 0, Ti 0]), (16, .box [Ti 0, Ti 0, Ti 0]), (8, .box [Ti a1.1, Ti a1.2.1, Ti a1.2.2])]⟩) ?_ ?_
  · refine XL_cons rfl (X_of_Y0 rfl (E_field (.pt 8 0) Tryd.underlying31 rfl sz3 rfl (by kernel_rfl) (by intro hh; cases hh))) ?_
    refine XL_cons rfl (X_of_Y0 rfl (Y0_load1 (c := Ti a1.1) (cs := [Ti a1.2.1, Ti a1.2.2]) sc3 rfl (by kernel_rfl))) ?_
    refine XL_cons rfl (X_of_Y0 rfl (E_field (.pt 24 0) Tryd.underlying33 rfl sz3 rfl (by kernel_rfl) (by intro hh; cases hh))) ?_
    refine XL_cons rfl (E_store (id := 24) (off := 0) (cs := [Ti 0, Ti 0, Ti 0]) (vc := [Ti a1.1]) [Ti a1.1, Ti 0, Ti 0] rfl rfl (by kernel_rfl) (by kernel_rfl) (by kernel_rfl) sz3 (Nat.le_of_ble_eq_true rfl) (by kernel_rfl)) ?_
    refine XL_nil ?_
    kernel_rfl
  refine V_sreg [false, true, true, true, false, false, false, false, false, false, false, false, false, false] [24, 16, 8] (s1 := ⟨[.bot, .pt 8 0, .pt 16 0, .pt 24 0, .bot, .bot, .bot, .bot, .bot, .bot, .bot, .bot, .bot, .bot], [(24, .box [Ti a1.1, Ti a1.2.1, Ti 0]), (16, .box [Ti 0, Ti 0, Ti 0]), (8, .box [Ti a1.1, Ti a1.2.1, Ti a1.2.2])]⟩) ?_ ?_
  · refine XL_cons rfl (X_of_Y0 rfl (E_field (.pt 8 1) Tryd.underlying31 rfl sz3 rfl (by kernel_rfl) (by intro hh; cases hh))) ?_
    refine XL_cons rfl (X_of_Y0 rfl (Y0_load1 (c := Ti a1.2.1) (cs := [Ti a1.2.2]) sc3 rfl (by kernel_rfl))) ?_
    refine XL_cons rfl (X_of_Y0 rfl (E_field (.pt 24 1) Tryd.underlying33 rfl sz3 rfl (by kernel_rfl) (by intro hh; cases hh))) ?_
    refine XL_cons rfl (E_store (id := 24) (off := 1) (cs := [Ti a1.1, Ti 0, Ti 0]) (vc := [Ti a1.2.1]) [Ti a1.1, Ti a1.2.1, Ti 0] rfl rfl (by kernel_rfl) (by kernel_rfl) (by kernel_rfl) sz3 (Nat.le_of_ble_eq_true rfl) (by kernel_rfl)) ?_
    refine XL_nil ?_
    kernel_rfl
  refine V_sreg [false, false, true, true, false, false, false, false, false, false, false, false, false, false] [24, 16] (s1 := ⟨[.bot, .bot, .pt 16 0, .pt 24 0, .bot, .bot, .bot, .bot, .bot, .bot, .bot, .bot, .bot, .bot], [(24, .box [Ti a1.1, Ti a1.2.1, Ti a1.2.2]), (16, .box [Ti 0, Ti 0, Ti 0])]⟩) ?_ ?_
  · refine XL_cons rfl (X_of_Y0 rfl (E_field (.pt 8 2) Tryd.underlying31 rfl sz3 rfl (by kernel_rfl) (by intro hh; cases hh))) ?_
    refine XL_cons rfl (X_of_Y0 rfl (Y0_load1 (c := Ti a1.2.2) (cs := []) sc3 rfl (by kernel_rfl))) ?_
    refine XL_cons rfl (X_of_Y0 rfl (E_field (.pt 24 2) Tryd.underlying33 rfl sz3 rfl (by kernel_rfl) (by intro hh; cases hh))) ?_
    refine XL_cons rfl (E_store (id := 24) (off := 2) (cs := [Ti a1.1, Ti a1.2.1, Ti 0]) (vc := [Ti a1.2.2]) [Ti a1.1, Ti a1.2.1, Ti a1.2.2] rfl rfl (by kernel_rfl) (by kernel_rfl) (by kernel_rfl) sz3 (Nat.le_of_ble_eq_true rfl) (by kernel_rfl)) ?_
    refine XL_nil ?_
    kernel_rfl
  refine V_sreg [false, false, true, false, false, false, false, false, false, false, false, false, false, false] [16] (s1 := ⟨[.bot, .bot, .pt 16 0, .bot, .bot, .bot, .bot, .bot, .bot, .bot, .bot, .bot, .bot, .bot], [(16, .box [Ti a1.1, Ti a1.2.1, Ti a1.2.2])]⟩) ?_ ?_
  · refine XL_cons rfl (X_of_Y0 rfl (E_loadn (cs := [Ti a1.1, Ti a1.2.1, Ti a1.2.2]) [Ti a1.1, Ti a1.2.1, Ti a1.2.2] wd33 rfl (by kernel_rfl) (Nat.le_of_ble_eq_true rfl) (by kernel_rfl))) ?_
    refine XL_cons rfl (E_store (id := 16) (off := 0) (cs := [Ti 0, Ti 0, Ti 0]) (vc := [Ti a1.1, Ti a1.2.1, Ti a1.2.2]) [Ti a1.1, Ti a1.2.1, Ti a1.2.2] rfl rfl (by kernel_rfl) (by kernel_rfl) (by kernel_rfl) sz33 (Nat.le_of_ble_eq_true rfl) (by kernel_rfl)) ?_
    refine XL_nil ?_
    kernel_rfl
  refine V_ret ?_
  obtain rfl := some_inj h
  show Post _ _ _ _ _
  exact ⟨.inr rfl, rfl, rfl, rfl⟩
theorem cf_spec_l1In : ∀ args w, (callFunc 66 args).run Tryd.prog w = .ok (.enter 66 args) w := run_callFunc Tryd.func66 (by kernel_rfl) (by kernel_rfl)
set_option maxRecDepth 100000 in
set_option maxHeartbeats 400000 in
theorem s_spec_l1In {vn1 : Int} {lo2 : Int} {hi3 : Int} {r : Bool} (h : r_spec_l1In vn1 lo2 hi3 = some r) : CallS Tryd.prog 66 [I vn1, I lo2, I hi3] (Bo r) [] := by
  refine CallS_of_text (rs := [.t 6]) (vs := [.tmp 6]) Tryd.func66 rfl rfl (.cons rfl FitsL.nil) (by decide) 15 rfl ?_
  unfold r_spec_l1In at h
  show V _ _ ⟨[I vn1, I lo2, I hi3, .bot, .bot, .bot, .bot, .bot, .bot, .bot, .bot, .bot, .bot, .bot, .bot], []⟩ _
  refine V_sreg [true, true, true, false, false, false, false, false, false, false, false, false, false, false, false] [] (s1 := ⟨[I vn1, I lo2, I hi3, .bot, .bot, .bot, .bot, .bot, .bot, .bot, .bot, .bot, .bot, .bot, .bot], []⟩) ?_ ?_
  · refine XL_cons rfl (X_of_Y0 rfl (E_assign (Bo false) rfl (by kernel_rfl))) ?_
    refine XL_nil ?_
    kernel_rfl
  refine V_sreg [false, false, false, false, false, false, true, false, false, false, false, false, false, false, false] [] (s1 := ⟨[.bot, .bot, .bot, .bot, .bot, .bot, Bo (bif (leI lo2 vn1) then (leI vn1 hi3) else false), .bot, .bot, .bot, .bot, .bot, .bot, .bot, .bot], []⟩) ?_ ?_
  · refine XL_cons rfl (X_of_Y0 rfl (E_move (I vn1) rfl (by kernel_rfl))) ?_
    refine XL_cons rfl (X_of_Y0 rfl (E_move (I lo2) rfl (by kernel_rfl))) ?_
    refine XL_cons rfl (X_of_Y0 rfl (Y0_gew (k := .i64) (a := vn1) (b := lo2) rfl (by kernel_rfl) (by kernel_rfl))) ?_
    refine XL_cons rfl (X_of_Y0 rfl (E_move (Bo (leI lo2 vn1)) rfl (by kernel_rfl))) ?_
    refine XL_split (leI lo2 vn1) (fun hc4 => ?_) (fun hc4 => ?_)
    · refine XL_takeC (leI lo2 vn1) rfl rfl (by kernel_rfl) hc4 (X_of_Y0 rfl (E_move (I vn1) rfl (by kernel_rfl))) ?_
      refine XL_takeC (leI lo2 vn1) rfl rfl (by kernel_rfl) hc4 (X_of_Y0 rfl (E_move (I hi3) rfl (by kernel_rfl))) ?_
      refine XL_takeC (leI lo2 vn1) rfl rfl (by kernel_rfl) hc4 (X_of_Y0 rfl (Y0_lew (k := .i64) (a := vn1) (b := hi3) rfl (by kernel_rfl) (by kernel_rfl))) ?_
      refine XL_cons rfl (X_of_Y0 rfl (Y0_pick1 (b := leI lo2 vn1) (p := leI vn1 hi3) (q := false) rfl (by kernel_rfl) hc4 (by kernel_rfl))) ?_
      refine XL_cons rfl (X_of_Y0 rfl (E_assign (Bo (bif (leI lo2 vn1) then (leI vn1 hi3) else false)) rfl (by kernel_rfl))) ?_
      refine XL_nil ?_
      kernel_rfl
    · refine XL_skipT (leI lo2 vn1) rfl rfl (by kernel_rfl) hc4 rfl ?_
      refine XL_skipT (leI lo2 vn1) rfl rfl (by kernel_rfl) hc4 rfl ?_
      refine XL_skipT (leI lo2 vn1) rfl rfl (by kernel_rfl) hc4 rfl ?_
      refine XL_cons rfl (X_of_Y0 rfl (Y0_pick0 (b := leI lo2 vn1) (p := leI vn1 hi3) (q := false) rfl (by kernel_rfl) hc4 (by kernel_rfl))) ?_
      refine XL_cons rfl (X_of_Y0 rfl (E_assign (Bo (bif (leI lo2 vn1) then (leI vn1 hi3) else false)) rfl (by kernel_rfl))) ?_
      refine XL_nil ?_
      kernel_rfl
  refine V_ret ?_
  obtain rfl := some_inj h
  show Post _ _ _ _ _
  exact ⟨.inr rfl, rfl, rfl, rfl⟩
theorem cf_spec_nuGood : ∀ args w, (callFunc 57 args).run Tryd.prog w = .ok (.enter 57 args) w := run_callFunc Tryd.func57 (by kernel_rfl) (by kernel_rfl)
set_option maxRecDepth 100000 in
set_option maxHeartbeats 400000 in
theorem s_spec_nuGood {vn1 : Int} {r : Bool} (h : r_spec_nuGood vn1 = some r) : CallS Tryd.prog 57 [I vn1] (Bo r) [] := by
  refine CallS_of_text (rs := [.t 2]) (vs := [.tmp 2]) Tryd.func57 rfl rfl (.cons rfl FitsL.nil) (by decide) 5 rfl ?_
  unfold r_spec_nuGood at h
  show V _ _ ⟨[I vn1, .bot, .bot, .bot, .bot], []⟩ _
  refine V_sreg [true, false, false, false, false] [] (s1 := ⟨[I vn1, .bot, .bot, .bot, .bot], []⟩) ?_ ?_
  · refine XL_cons rfl (X_of_Y0 rfl (E_assign (Bo false) rfl (by kernel_rfl))) ?_
    refine XL_nil ?_
    kernel_rfl
  obtain ⟨y2, hy2, h⟩ := of_bind h
  refine V_sreg [false, false, true, false, false] [] (s1 := ⟨[.bot, .bot, Bo y2, .bot, .bot], []⟩) ?_ ?_
  · refine XL_cons rfl (X_of_Y0 rfl (E_move (I vn1) rfl (by kernel_rfl))) ?_
    refine XL_cons rfl (X_of_Y1 rfl (Y1_call (s_spec_l1In hy2) cf_spec_l1In rfl (by kernel_rfl))) ?_
    refine XL_cons rfl (X_of_Y0 rfl (E_assign (Bo y2) rfl (by kernel_rfl))) ?_
    refine XL_nil ?_
    kernel_rfl
  refine V_ret ?_
  obtain rfl := some_inj h
  show Post _ _ _ _ _
  exact ⟨.inr rfl, rfl, rfl, rfl⟩
theorem cf_spec_foGood : ∀ args w, (callFunc 80 args).run Tryd.prog w = .ok (.enter 80 args) w := run_callFunc Tryd.func80 (by kernel_rfl) (by kernel_rfl)
set_option maxRecDepth 100000 in
set_option maxHeartbeats 400000 in
theorem s_spec_foGood {f1 : (Int × Int × Int)} {r : Bool} (h : r_spec_foGood f1 = some r) : CallS Tryd.prog 80 [.ag [Ti f1.1, Ti f1.2.1, Ti f1.2.2]] (Bo r) [] := by
  refine CallS_of_text (rs := [.t 2]) (vs := [.tmp 2]) Tryd.func80 rfl rfl (.cons rfl FitsL.nil) (by decide) 16 rfl ?_
  unfold r_spec_foGood at h
  show V _ _ ⟨[.ag [Ti f1.1, Ti f1.2.1, Ti f1.2.2], .bot, .bot, .bot, .bot, .bot, .bot, .bot, .bot, .bot, .bot, .bot, .bot, .bot, .bot, .bot], []⟩ _
  refine V_sreg [false, true, false, false, false, false, false, false, false, false, false, false, false, false, false, false] [8] (s1 := ⟨[.bot, .pt 8 0, .bot, .bot, .bot, .bot, .bot, .bot, .bot, .bot, .bot, .bot, .bot, .bot, .bot, .bot], [(8, .box [Ti f1.1, Ti f1.2.1, Ti f1.2.2])]⟩) ?_ ?_
  · refine XL_cons rfl (X_of_Y1 rfl (Y1_box (cs := [Ti f1.1, Ti f1.2.1, Ti f1.2.2]) rfl (by kernel_rfl))) ?_
    refine XL_cons rfl (X_of_Y0 rfl (E_assign (Bo false) rfl (by kernel_rfl))) ?_
    refine XL_nil ?_
    kernel_rfl
  obtain ⟨y2, hy2, h⟩ := of_bind h
  obtain ⟨b5, hb5, h⟩ := of_bind h
  obtain ⟨b8, hb8, h⟩ := of_bind h
  refine V_sreg [false, false, true, false, false, false, false, false, false, false, false, false, false, false, false, false] [] (s1 := ⟨[.bot, .bot, Bo b8, .bot, .bot, .bot, .bot, .bot, .bot, .bot, .bot, .bot, .bot, .bot, .bot, .bot], []⟩) ?_ ?_
  · refine XL_cons rfl (X_of_Y0 rfl (E_field (.pt 8 0) Tryd.underlying33 rfl sz3 rfl (by kernel_rfl) (by intro hh; cases hh))) ?_
    refine XL_cons rfl (X_of_Y0 rfl (Y0_load1 (c := Ti f1.1) (cs := [Ti f1.2.1, Ti f1.2.2]) sc3 rfl (by kernel_rfl))) ?_
    refine XL_cons rfl (X_of_Y1 rfl (Y1_call (s_spec_nuGood hy2) cf_spec_nuGood rfl (by kernel_rfl))) ?_
    refine XL_cons rfl (X_of_Y0 rfl (E_move (Bo y2) rfl (by kernel_rfl))) ?_
    refine XL_split y2 (fun hc3 => ?_) (fun hc3 => ?_)
    · have hb5 := of_true hb5 hc3
      obtain ⟨y4, hy4, hb5⟩ := of_bind hb5
      have hb5 := some_inj hb5
      refine XL_takeC (y2) rfl rfl (by kernel_rfl) hc3 (X_of_Y0 rfl (E_field (.pt 8 1) Tryd.underlying33 rfl sz3 rfl (by kernel_rfl) (by intro hh; cases hh))) ?_
      refine XL_takeC (y2) rfl rfl (by kernel_rfl) hc3 (X_of_Y0 rfl (Y0_load1 (c := Ti f1.2.1) (cs := [Ti f1.2.2]) sc3 rfl (by kernel_rfl))) ?_
      refine XL_takeC (y2) rfl rfl (by kernel_rfl) hc3 (X_of_Y1 rfl (Y1_call (s_spec_nuGood hy4) cf_spec_nuGood rfl (by kernel_rfl))) ?_
      refine XL_cons rfl (X_of_Y0 rfl (Y0_pickTe (b := y2) (p := y4) rfl (by kernel_rfl) hc3 (by kernel_rfl) hb5)) ?_
      refine XL_cons rfl (X_of_Y0 rfl (E_move (Bo b5) rfl (by kernel_rfl))) ?_
      refine XL_split b5 (fun hc6 => ?_) (fun hc6 => ?_)
      · have hb8 := of_true hb8 hc6
        obtain ⟨y7, hy7, hb8⟩ := of_bind hb8
        have hb8 := some_inj hb8
        refine XL_takeC (b5) rfl rfl (by kernel_rfl) hc6 (X_of_Y0 rfl (E_field (.pt 8 2) Tryd.underlying33 rfl sz3 rfl (by kernel_rfl) (by intro hh; cases hh))) ?_
        refine XL_takeC (b5) rfl rfl (by kernel_rfl) hc6 (X_of_Y0 rfl (Y0_load1 (c := Ti f1.2.2) (cs := []) sc3 rfl (by kernel_rfl))) ?_
        refine XL_takeC (b5) rfl rfl (by kernel_rfl) hc6 (X_of_Y1 rfl (Y1_call (s_spec_nuGood hy7) cf_spec_nuGood rfl (by kernel_rfl))) ?_
        refine XL_cons rfl (X_of_Y0 rfl (Y0_pickTe (b := b5) (p := y7) rfl (by kernel_rfl) hc6 (by kernel_rfl) hb8)) ?_
        refine XL_cons rfl (X_of_Y0 rfl (E_assign (Bo b8) rfl (by kernel_rfl))) ?_
        refine XL_nil ?_
        kernel_rfl
      · have hb8 := some_inj (of_false hb8 hc6)
        refine XL_skipT (b5) rfl rfl (by kernel_rfl) hc6 rfl ?_
        refine XL_skipT (b5) rfl rfl (by kernel_rfl) hc6 rfl ?_
        refine XL_skipT (b5) rfl rfl (by kernel_rfl) hc6 rfl ?_
        refine XL_cons rfl (X_of_Y0 rfl (Y0_pickFe (b := b5) (p := false) rfl (by kernel_rfl) hc6 (by kernel_rfl) hb8)) ?_
        refine XL_cons rfl (X_of_Y0 rfl (E_assign (Bo b8) rfl (by kernel_rfl))) ?_
        refine XL_nil ?_
        kernel_rfl
    · have hb5 := some_inj (of_false hb5 hc3)
      refine XL_skipT (y2) rfl rfl (by kernel_rfl) hc3 rfl ?_
      refine XL_skipT (y2) rfl rfl (by kernel_rfl) hc3 rfl ?_
      refine XL_skipT (y2) rfl rfl (by kernel_rfl) hc3 rfl ?_
      refine XL_cons rfl (X_of_Y0 rfl (Y0_pickFe (b := y2) (p := false) rfl (by kernel_rfl) hc3 (by kernel_rfl) hb5)) ?_
      refine XL_cons rfl (X_of_Y0 rfl (E_move (Bo b5) rfl (by kernel_rfl))) ?_
      refine XL_split b5 (fun hc6 => ?_) (fun hc6 => ?_)
      · have hb8 := of_true hb8 hc6
        obtain ⟨y7, hy7, hb8⟩ := of_bind hb8
        have hb8 := some_inj hb8
        refine XL_takeC (b5) rfl rfl (by kernel_rfl) hc6 (X_of_Y0 rfl (E_field (.pt 8 2) Tryd.underlying33 rfl sz3 rfl (by kernel_rfl) (by intro hh; cases hh))) ?_
        refine XL_takeC (b5) rfl rfl (by kernel_rfl) hc6 (X_of_Y0 rfl (Y0_load1 (c := Ti f1.2.2) (cs := []) sc3 rfl (by kernel_rfl))) ?_
        refine XL_takeC (b5) rfl rfl (by kernel_rfl) hc6 (X_of_Y1 rfl (Y1_call (s_spec_nuGood hy7) cf_spec_nuGood rfl (by kernel_rfl))) ?_
        refine XL_cons rfl (X_of_Y0 rfl (Y0_pickTe (b := b5) (p := y7) rfl (by kernel_rfl) hc6 (by kernel_rfl) hb8)) ?_
        refine XL_cons rfl (X_of_Y0 rfl (E_assign (Bo b8) rfl (by kernel_rfl))) ?_
        refine XL_nil ?_
        kernel_rfl
      · have hb8 := some_inj (of_false hb8 hc6)
        refine XL_skipT (b5) rfl rfl (by kernel_rfl) hc6 rfl ?_
        refine XL_skipT (b5) rfl rfl (by kernel_rfl) hc6 rfl ?_
        refine XL_skipT (b5) rfl rfl (by kernel_rfl) hc6 rfl ?_
        refine XL_cons rfl (X_of_Y0 rfl (Y0_pickFe (b := b5) (p := false) rfl (by kernel_rfl) hc6 (by kernel_rfl) hb8)) ?_
        refine XL_cons rfl (X_of_Y0 rfl (E_assign (Bo b8) rfl (by kernel_rfl))) ?_
        refine XL_nil ?_
        kernel_rfl
  refine V_ret ?_
  obtain rfl := some_inj h
  show Post _ _ _ _ _
  exact ⟨.inr rfl, rfl, rfl, rfl⟩
theorem cf_spec_foDisc : ∀ args w, (callFunc 81 args).run Tryd.prog w = .ok (.enter 81 args) w := run_callFunc Tryd.func81 (by kernel_rfl) (by kernel_rfl)
set_option maxRecDepth 100000 in
set_option maxHeartbeats 400000 in
theorem s_spec_foDisc {f1 : (Int × Int × Int)} {r : Int} (h : r_spec_foDisc f1 = some r) : CallS Tryd.prog 81 [.ag [Ti f1.1, Ti f1.2.1, Ti f1.2.2]] (I r) [] := by
  refine CallS_of_text (rs := [.t 2]) (vs := [.tmp 2]) Tryd.func81 rfl rfl (.cons rfl FitsL.nil) (by decide) 15 rfl ?_
  unfold r_spec_foDisc at h
  show V _ _ ⟨[.ag [Ti f1.1, Ti f1.2.1, Ti f1.2.2], .bot, .bot, .bot, .bot, .bot, .bot, .bot, .bot, .bot, .bot, .bot, .bot, .bot, .bot], []⟩ _
  refine V_sreg [false, true, false, false, false, false, false, false, false, false, false, false, false, false, false] [8] (s1 := ⟨[.bot, .pt 8 0, .bot, .bot, .bot, .bot, .bot, .bot, .bot, .bot, .bot, .bot, .bot, .bot, .bot], [(8, .box [Ti f1.1, Ti f1.2.1, Ti f1.2.2])]⟩) ?_ ?_
  · refine XL_cons rfl (X_of_Y1 rfl (Y1_box (cs := [Ti f1.1, Ti f1.2.1, Ti f1.2.2]) rfl (by kernel_rfl))) ?_
    refine XL_cons rfl (X_of_Y0 rfl (E_assign (I 0) rfl (by kernel_rfl))) ?_
    refine XL_nil ?_
    kernel_rfl
  obtain ⟨t2, ht2, h⟩ := of_sI h
  refine V_sreg [false, false, true, false, false, false, false, false, false, false, false, false, false, false, false] [] (s1 := ⟨[.bot, .bot, I t2, .bot, .bot, .bot, .bot, .bot, .bot, .bot, .bot, .bot, .bot, .bot, .bot], []⟩) ?_ ?_
  · refine XL_cons rfl (X_of_Y0 rfl (E_field (.pt 8 1) Tryd.underlying33 rfl sz3 rfl (by kernel_rfl) (by intro hh; cases hh))) ?_
    refine XL_cons rfl (X_of_Y0 rfl (Y0_load1 (c := Ti f1.2.1) (cs := [Ti f1.2.2]) sc3 rfl (by kernel_rfl))) ?_
    refine XL_cons rfl (X_of_Y0 rfl (E_field (.pt 8 1) Tryd.underlying33 rfl sz3 rfl (by kernel_rfl) (by intro hh; cases hh))) ?_
    refine XL_cons rfl (X_of_Y0 rfl (Y0_load1 (c := Ti f1.2.1) (cs := [Ti f1.2.2]) sc3 rfl (by kernel_rfl))) ?_
    refine XL_cons rfl (X_of_Y0 rfl (Y0_mul64 (a := f1.2.1) (b := f1.2.1) rfl (by kernel_rfl) (by kernel_rfl))) ?_
    refine XL_cons rfl (X_of_Y0 rfl (E_field (.pt 8 0) Tryd.underlying33 rfl sz3 rfl (by kernel_rfl) (by intro hh; cases hh))) ?_
    refine XL_cons rfl (X_of_Y0 rfl (Y0_load1 (c := Ti f1.1) (cs := [Ti f1.2.1, Ti f1.2.2]) sc3 rfl (by kernel_rfl))) ?_
    refine XL_cons rfl (X_of_Y0 rfl (Y0_mul64 (a := 4) (b := f1.1) rfl (by kernel_rfl) (by kernel_rfl))) ?_
    refine XL_cons rfl (X_of_Y0 rfl (E_field (.pt 8 2) Tryd.underlying33 rfl sz3 rfl (by kernel_rfl) (by intro hh; cases hh))) ?_
    refine XL_cons rfl (X_of_Y0 rfl (Y0_load1 (c := Ti f1.2.2) (cs := []) sc3 rfl (by kernel_rfl))) ?_
    refine XL_cons rfl (X_of_Y0 rfl (Y0_mul64 (a := w64 (4 * f1.1)) (b := f1.2.2) rfl (by kernel_rfl) (by kernel_rfl))) ?_
    refine XL_cons rfl (X_of_Y0 rfl (Y0_sub64 (a := w64 (f1.2.1 * f1.2.1)) (b := w64 ((w64 (4 * f1.1)) * f1.2.2)) rfl (by kernel_rfl) (by kernel_rfl))) ?_
    refine XL_cons rfl (X_of_Y0 rfl (E_assign (I (w64 ((w64 (f1.2.1 * f1.2.1)) - (w64 ((w64 (4 * f1.1)) * f1.2.2))))) rfl (by kernel_rfl))) ?_
    refine XL_nil ?_
    subst ht2
    kernel_rfl
  refine V_ret ?_
  obtain rfl := some_inj h
  show Post _ _ _ _ _
  exact ⟨.inr rfl, rfl, rfl, rfl⟩
theorem cf_spec_foDefinite : ∀ args w, (callFunc 43 args).run Tryd.prog w = .ok (.enter 43 args) w := run_callFunc Tryd.func43 (by kernel_rfl) (by kernel_rfl)
set_option maxRecDepth 100000 in
set_option maxHeartbeats 400000 in
theorem s_spec_foDefinite {f1 : (Int × Int × Int)} {r : Bool} (h : r_spec_foDefinite f1 = some r) : CallS Tryd.prog 43 [.ag [Ti f1.1, Ti f1.2.1, Ti f1.2.2]] (Bo r) [] := by
  refine CallS_of_text (rs := [.t 2]) (vs := [.tmp 2]) Tryd.func43 rfl rfl (.cons rfl FitsL.nil) (by decide) 15 rfl ?_
  unfold r_spec_foDefinite at h
  show V _ _ ⟨[.ag [Ti f1.1, Ti f1.2.1, Ti f1.2.2], .bot, .bot, .bot, .bot, .bot, .bot, .bot, .bot, .bot, .bot, .bot, .bot, .bot, .bot], []⟩ _
  refine V_sreg [false, true, false, false, false, false, false, false, false, false, false, false, false, false, false] [8] (s1 := ⟨[.bot, .pt 8 0, .bot, .bot, .bot, .bot, .bot, .bot, .bot, .bot, .bot, .bot, .bot, .bot, .bot], [(8, .box [Ti f1.1, Ti f1.2.1, Ti f1.2.2])]⟩) ?_ ?_
  · refine XL_cons rfl (X_of_Y1 rfl (Y1_box (cs := [Ti f1.1, Ti f1.2.1, Ti f1.2.2]) rfl (by kernel_rfl))) ?_
    refine XL_cons rfl (X_of_Y0 rfl (E_assign (Bo false) rfl (by kernel_rfl))) ?_
    refine XL_nil ?_
    kernel_rfl
  obtain ⟨y2, hy2, h⟩ := of_bind h
  obtain ⟨b5, hb5, h⟩ := of_bind h
  refine V_sreg [false, false, true, false, false, false, false, false, false, false, false, false, false, false, false] [] (s1 := ⟨[.bot, .bot, Bo (bif b5 then (ltI 0 f1.1) else false), .bot, .bot, .bot, .bot, .bot, .bot, .bot, .bot, .bot, .bot, .bot, .bot], []⟩) ?_ ?_
  · refine XL_cons rfl (X_of_Y0 rfl (E_loadn (cs := [Ti f1.1, Ti f1.2.1, Ti f1.2.2]) [Ti f1.1, Ti f1.2.1, Ti f1.2.2] wd33 rfl (by kernel_rfl) (Nat.le_of_ble_eq_true rfl) (by kernel_rfl))) ?_
    refine XL_cons rfl (X_of_Y1 rfl (Y1_call (s_spec_foGood hy2) cf_spec_foGood rfl (by kernel_rfl))) ?_
    refine XL_cons rfl (X_of_Y0 rfl (E_move (Bo y2) rfl (by kernel_rfl))) ?_
    refine XL_split y2 (fun hc3 => ?_) (fun hc3 => ?_)
    · have hb5 := of_true hb5 hc3
      obtain ⟨y4, hy4, hb5⟩ := of_bind hb5
      have hb5 := some_inj hb5
      refine XL_takeC (y2) rfl rfl (by kernel_rfl) hc3 (X_of_Y0 rfl (E_loadn (cs := [Ti f1.1, Ti f1.2.1, Ti f1.2.2]) [Ti f1.1, Ti f1.2.1, Ti f1.2.2] wd33 rfl (by kernel_rfl) (Nat.le_of_ble_eq_true rfl) (by kernel_rfl))) ?_
      refine XL_takeC (y2) rfl rfl (by kernel_rfl) hc3 (X_of_Y1 rfl (Y1_call (s_spec_foDisc hy4) cf_spec_foDisc rfl (by kernel_rfl))) ?_
      refine XL_takeC (y2) rfl rfl (by kernel_rfl) hc3 (X_of_Y0 rfl (Y0_ltw (k := .i64) (a := y4) (b := 0) rfl (by kernel_rfl) (by kernel_rfl))) ?_
      refine XL_cons rfl (X_of_Y0 rfl (Y0_pickTe (b := y2) (p := ltI y4 0) rfl (by kernel_rfl) hc3 (by kernel_rfl) hb5)) ?_
      refine XL_cons rfl (X_of_Y0 rfl (E_move (Bo b5) rfl (by kernel_rfl))) ?_
      refine XL_split b5 (fun hc6 => ?_) (fun hc6 => ?_)
      · refine XL_takeC (b5) rfl rfl (by kernel_rfl) hc6 (X_of_Y0 rfl (E_field (.pt 8 0) Tryd.underlying33 rfl sz3 rfl (by kernel_rfl) (by intro hh; cases hh))) ?_
        refine XL_takeC (b5) rfl rfl (by kernel_rfl) hc6 (X_of_Y0 rfl (Y0_load1 (c := Ti f1.1) (cs := [Ti f1.2.1, Ti f1.2.2]) sc3 rfl (by kernel_rfl))) ?_
        refine XL_takeC (b5) rfl rfl (by kernel_rfl) hc6 (X_of_Y0 rfl (Y0_gtw (k := .i64) (a := f1.1) (b := 0) rfl (by kernel_rfl) (by kernel_rfl))) ?_
        refine XL_cons rfl (X_of_Y0 rfl (Y0_pick1 (b := b5) (p := ltI 0 f1.1) (q := false) rfl (by kernel_rfl) hc6 (by kernel_rfl))) ?_
        refine XL_cons rfl (X_of_Y0 rfl (E_assign (Bo (bif b5 then (ltI 0 f1.1) else false)) rfl (by kernel_rfl))) ?_
        refine XL_nil ?_
        kernel_rfl
      · refine XL_skipT (b5) rfl rfl (by kernel_rfl) hc6 rfl ?_
        refine XL_skipT (b5) rfl rfl (by kernel_rfl) hc6 rfl ?_
        refine XL_skipT (b5) rfl rfl (by kernel_rfl) hc6 rfl ?_
        refine XL_cons rfl (X_of_Y0 rfl (Y0_pick0 (b := b5) (p := ltI 0 f1.1) (q := false) rfl (by kernel_rfl) hc6 (by kernel_rfl))) ?_
        refine XL_cons rfl (X_of_Y0 rfl (E_assign (Bo (bif b5 then (ltI 0 f1.1) else false)) rfl (by kernel_rfl))) ?_
        refine XL_nil ?_
        kernel_rfl
    · have hb5 := some_inj (of_false hb5 hc3)
      refine XL_skipT (y2) rfl rfl (by kernel_rfl) hc3 rfl ?_
      refine XL_skipT (y2) rfl rfl (by kernel_rfl) hc3 rfl ?_
      refine XL_skipT (y2) rfl rfl (by kernel_rfl) hc3 rfl ?_
      refine XL_cons rfl (X_of_Y0 rfl (Y0_pickFe (b := y2) (p := false) rfl (by kernel_rfl) hc3 (by kernel_rfl) hb5)) ?_
      refine XL_cons rfl (X_of_Y0 rfl (E_move (Bo b5) rfl (by kernel_rfl))) ?_
      refine XL_split b5 (fun hc6 => ?_) (fun hc6 => ?_)
      · refine XL_takeC (b5) rfl rfl (by kernel_rfl) hc6 (X_of_Y0 rfl (E_field (.pt 8 0) Tryd.underlying33 rfl sz3 rfl (by kernel_rfl) (by intro hh; cases hh))) ?_
        refine XL_takeC (b5) rfl rfl (by kernel_rfl) hc6 (X_of_Y0 rfl (Y0_load1 (c := Ti f1.1) (cs := [Ti f1.2.1, Ti f1.2.2]) sc3 rfl (by kernel_rfl))) ?_
        refine XL_takeC (b5) rfl rfl (by kernel_rfl) hc6 (X_of_Y0 rfl (Y0_gtw (k := .i64) (a := f1.1) (b := 0) rfl (by kernel_rfl) (by kernel_rfl))) ?_
        refine XL_cons rfl (X_of_Y0 rfl (Y0_pick1 (b := b5) (p := ltI 0 f1.1) (q := false) rfl (by kernel_rfl) hc6 (by kernel_rfl))) ?_
        refine XL_cons rfl (X_of_Y0 rfl (E_assign (Bo (bif b5 then (ltI 0 f1.1) else false)) rfl (by kernel_rfl))) ?_
        refine XL_nil ?_
        kernel_rfl
      · refine XL_skipT (b5) rfl rfl (by kernel_rfl) hc6 rfl ?_
        refine XL_skipT (b5) rfl rfl (by kernel_rfl) hc6 rfl ?_
        refine XL_skipT (b5) rfl rfl (by kernel_rfl) hc6 rfl ?_
        refine XL_cons rfl (X_of_Y0 rfl (Y0_pick0 (b := b5) (p := ltI 0 f1.1) (q := false) rfl (by kernel_rfl) hc6 (by kernel_rfl))) ?_
        refine XL_cons rfl (X_of_Y0 rfl (E_assign (Bo (bif b5 then (ltI 0 f1.1) else false)) rfl (by kernel_rfl))) ?_
        refine XL_nil ?_
        kernel_rfl
  refine V_ret ?_
  obtain rfl := some_inj h
  show Post _ _ _ _ _
  exact ⟨.inr rfl, rfl, rfl, rfl⟩
theorem cf_spec_reIs : ∀ args w, (callFunc 82 args).run Tryd.prog w = .ok (.enter 82 args) w := run_callFunc Tryd.func82 (by kernel_rfl) (by kernel_rfl)
set_option maxRecDepth 100000 in
set_option maxHeartbeats 400000 in
theorem s_spec_reIs {f1 : (Int × Int × Int)} {r : Bool} (h : r_spec_reIs f1 = some r) : CallS Tryd.prog 82 [.ag [Ti f1.1, Ti f1.2.1, Ti f1.2.2]] (Bo r) [] := by
  refine CallS_of_text (rs := [.t 2]) (vs := [.tmp 2]) Tryd.func82 rfl rfl (.cons rfl FitsL.nil) (by decide) 35 rfl ?_
  unfold r_spec_reIs at h
  show V _ _ ⟨[.ag [Ti f1.1, Ti f1.2.1, Ti f1.2.2], .bot, .bot, .bot, .bot, .bot, .bot, .bot, .bot, .bot, .bot, .bot, .bot, .bot, .bot, .bot, .bot, .bot, .bot, .bot, .bot, .bot, .bot, .bot, .bot, .bot, .bot, .bot, .bot, .bot, .bot, .bot, .bot, .bot, .bot], []⟩ _
  refine V_sreg [false, true, false, false, false, false, false, false, false, false, false, false, false, false, false, false, false, false, false, false, false, false, false, false, false, false, false, false, false, false, false, false, false, false, false] [8] (s1 := ⟨[.bot, .pt 8 0, .bot, .bot, .bot, .bot, .bot, .bot, .bot, .bot, .bot, .bot, .bot, .bot, .bot, .bot, .bot, .bot, .bot, .bot, .bot, .bot, .bot, .bot, .bot, .bot, .bot, .bot, .bot, .bot, .bot, .bot, .bot, .bot, .bot], [(8, .box [Ti f1.1, Ti f1.2.1, Ti f1.2.2])]⟩) ?_ ?_
  · refine XL_cons rfl (X_of_Y1 rfl (Y1_box (cs := [Ti f1.1, Ti f1.2.1, Ti f1.2.2]) rfl (by kernel_rfl))) ?_
    refine XL_cons rfl (X_of_Y0 rfl (E_assign (Bo false) rfl (by kernel_rfl))) ?_
    refine XL_nil ?_
    kernel_rfl
  obtain ⟨t6, ht6, h⟩ := of_bind h
  have ht6 := some_inj ht6
  refine V_sreg [false, false, true, false, false, false, false, false, false, false, false, false, false, false, false, false, false, false, false, false, false, false, false, false, false, false, false, false, false, false, false, false, false, false, false] [] (s1 := ⟨[.bot, .bot, Bo t6, .bot, .bot, .bot, .bot, .bot, .bot, .bot, .bot, .bot, .bot, .bot, .bot, .bot, .bot, .bot, .bot, .bot, .bot, .bot, .bot, .bot, .bot, .bot, .bot, .bot, .bot, .bot, .bot, .bot, .bot, .bot, .bot], []⟩) ?_ ?_
  · refine XL_cons rfl (X_of_Y0 rfl (E_field (.pt 8 0) Tryd.underlying33 rfl sz3 rfl (by kernel_rfl) (by intro hh; cases hh))) ?_
    refine XL_cons rfl (X_of_Y0 rfl (Y0_load1 (c := Ti f1.1) (cs := [Ti f1.2.1, Ti f1.2.2]) sc3 rfl (by kernel_rfl))) ?_
    refine XL_cons rfl (X_of_Y0 rfl (Y0_neg64 (a := f1.1) rfl (by kernel_rfl))) ?_
    refine XL_cons rfl (X_of_Y0 rfl (E_field (.pt 8 1) Tryd.underlying33 rfl sz3 rfl (by kernel_rfl) (by intro hh; cases hh))) ?_
    refine XL_cons rfl (X_of_Y0 rfl (Y0_load1 (c := Ti f1.2.1) (cs := [Ti f1.2.2]) sc3 rfl (by kernel_rfl))) ?_
    refine XL_cons rfl (X_of_Y0 rfl (Y0_ltw (k := .i64) (a := w64 (0 - f1.1)) (b := f1.2.1) rfl (by kernel_rfl) (by kernel_rfl))) ?_
    refine XL_cons rfl (X_of_Y0 rfl (E_move (Bo (ltI (w64 (0 - f1.1)) f1.2.1)) rfl (by kernel_rfl))) ?_
    refine XL_split (ltI (w64 (0 - f1.1)) f1.2.1) (fun hc2 => ?_) (fun hc2 => ?_)
    · refine XL_takeC (ltI (w64 (0 - f1.1)) f1.2.1) rfl rfl (by kernel_rfl) hc2 (X_of_Y0 rfl (E_field (.pt 8 1) Tryd.underlying33 rfl sz3 rfl (by kernel_rfl) (by intro hh; cases hh))) ?_
      refine XL_takeC (ltI (w64 (0 - f1.1)) f1.2.1) rfl rfl (by kernel_rfl) hc2 (X_of_Y0 rfl (Y0_load1 (c := Ti f1.2.1) (cs := [Ti f1.2.2]) sc3 rfl (by kernel_rfl))) ?_
      refine XL_takeC (ltI (w64 (0 - f1.1)) f1.2.1) rfl rfl (by kernel_rfl) hc2 (X_of_Y0 rfl (E_field (.pt 8 0) Tryd.underlying33 rfl sz3 rfl (by kernel_rfl) (by intro hh; cases hh))) ?_
      refine XL_takeC (ltI (w64 (0 - f1.1)) f1.2.1) rfl rfl (by kernel_rfl) hc2 (X_of_Y0 rfl (Y0_load1 (c := Ti f1.1) (cs := [Ti f1.2.1, Ti f1.2.2]) sc3 rfl (by kernel_rfl))) ?_
      refine XL_takeC (ltI (w64 (0 - f1.1)) f1.2.1) rfl rfl (by kernel_rfl) hc2 (X_of_Y0 rfl (Y0_lew (k := .i64) (a := f1.2.1) (b := f1.1) rfl (by kernel_rfl) (by kernel_rfl))) ?_
      refine XL_cons rfl (X_of_Y0 rfl (Y0_pick1 (b := ltI (w64 (0 - f1.1)) f1.2.1) (p := leI f1.2.1 f1.1) (q := false) rfl (by kernel_rfl) hc2 (by kernel_rfl))) ?_
      refine XL_cons rfl (X_of_Y0 rfl (E_move (Bo (bif (ltI (w64 (0 - f1.1)) f1.2.1) then (leI f1.2.1 f1.1) else false)) rfl (by kernel_rfl))) ?_
      refine XL_split (bif (ltI (w64 (0 - f1.1)) f1.2.1) then (leI f1.2.1 f1.1) else false) (fun hc3 => ?_) (fun hc3 => ?_)
      · refine XL_takeC (bif (ltI (w64 (0 - f1.1)) f1.2.1) then (leI f1.2.1 f1.1) else false) rfl rfl (by kernel_rfl) hc3 (X_of_Y0 rfl (E_field (.pt 8 0) Tryd.underlying33 rfl sz3 rfl (by kernel_rfl) (by intro hh; cases hh))) ?_
        refine XL_takeC (bif (ltI (w64 (0 - f1.1)) f1.2.1) then (leI f1.2.1 f1.1) else false) rfl rfl (by kernel_rfl) hc3 (X_of_Y0 rfl (Y0_load1 (c := Ti f1.1) (cs := [Ti f1.2.1, Ti f1.2.2]) sc3 rfl (by kernel_rfl))) ?_
        refine XL_takeC (bif (ltI (w64 (0 - f1.1)) f1.2.1) then (leI f1.2.1 f1.1) else false) rfl rfl (by kernel_rfl) hc3 (X_of_Y0 rfl (E_field (.pt 8 2) Tryd.underlying33 rfl sz3 rfl (by kernel_rfl) (by intro hh; cases hh))) ?_
        refine XL_takeC (bif (ltI (w64 (0 - f1.1)) f1.2.1) then (leI f1.2.1 f1.1) else false) rfl rfl (by kernel_rfl) hc3 (X_of_Y0 rfl (Y0_load1 (c := Ti f1.2.2) (cs := []) sc3 rfl (by kernel_rfl))) ?_
        refine XL_takeC (bif (ltI (w64 (0 - f1.1)) f1.2.1) then (leI f1.2.1 f1.1) else false) rfl rfl (by kernel_rfl) hc3 (X_of_Y0 rfl (Y0_ltw (k := .i64) (a := f1.1) (b := f1.2.2) rfl (by kernel_rfl) (by kernel_rfl))) ?_
        refine XL_takeC (bif (ltI (w64 (0 - f1.1)) f1.2.1) then (leI f1.2.1 f1.1) else false) rfl rfl (by kernel_rfl) hc3 (X_of_Y0 rfl (E_move (Bo (ltI f1.1 f1.2.2)) rfl (by kernel_rfl))) ?_
        refine XL_split (ltI f1.1 f1.2.2) (fun hc4 => ?_) (fun hc4 => ?_)
        · refine XL_skipF (ltI f1.1 f1.2.2) rfl rfl (by kernel_rfl) hc4 rfl ?_
          refine XL_skipF (ltI f1.1 f1.2.2) rfl rfl (by kernel_rfl) hc4 rfl ?_
          refine XL_skipF (ltI f1.1 f1.2.2) rfl rfl (by kernel_rfl) hc4 rfl ?_
          refine XL_skipF (ltI f1.1 f1.2.2) rfl rfl (by kernel_rfl) hc4 rfl ?_
          refine XL_skipF (ltI f1.1 f1.2.2) rfl rfl (by kernel_rfl) hc4 rfl ?_
          refine XL_skipF (ltI f1.1 f1.2.2) rfl rfl (by kernel_rfl) hc4 rfl ?_
          refine XL_skip2 rfl rfl (by kernel_rfl) rfl ?_
          refine XL_skip2 rfl rfl (by kernel_rfl) rfl ?_
          refine XL_skip2 rfl rfl (by kernel_rfl) rfl ?_
          refine XL_skipF (ltI f1.1 f1.2.2) rfl rfl (by kernel_rfl) hc4 rfl ?_
          refine XL_takeC (bif (ltI (w64 (0 - f1.1)) f1.2.1) then (leI f1.2.1 f1.1) else false) rfl rfl (by kernel_rfl) hc3 (X_of_Y0 rfl (Y0_pick1 (b := ltI f1.1 f1.2.2) (p := true) (q := bif (eqI f1.1 f1.2.2) then (leI 0 f1.2.1) else false) rfl (by kernel_rfl) hc4 (by kernel_rfl))) ?_
          refine XL_cons rfl (X_of_Y0 rfl (Y0_pick1 (b := bif (ltI (w64 (0 - f1.1)) f1.2.1) then (leI f1.2.1 f1.1) else false) (p := bif (ltI f1.1 f1.2.2) then true else (bif (eqI f1.1 f1.2.2) then (leI 0 f1.2.1) else false)) (q := false) rfl (by kernel_rfl) hc3 (by kernel_rfl))) ?_
          refine XL_cons rfl (X_of_Y0 rfl (E_assign (Bo (bif (bif (ltI (w64 (0 - f1.1)) f1.2.1) then (leI f1.2.1 f1.1) else false) then (bif (ltI f1.1 f1.2.2) then true else (bif (eqI f1.1 f1.2.2) then (leI 0 f1.2.1) else false)) else false)) rfl (by kernel_rfl))) ?_
          refine XL_nil ?_
          subst ht6
          kernel_rfl
        · refine XL_takeC (ltI f1.1 f1.2.2) rfl rfl (by kernel_rfl) hc4 (X_of_Y0 rfl (E_field (.pt 8 0) Tryd.underlying33 rfl sz3 rfl (by kernel_rfl) (by intro hh; cases hh))) ?_
          refine XL_takeC (ltI f1.1 f1.2.2) rfl rfl (by kernel_rfl) hc4 (X_of_Y0 rfl (Y0_load1 (c := Ti f1.1) (cs := [Ti f1.2.1, Ti f1.2.2]) sc3 rfl (by kernel_rfl))) ?_
          refine XL_takeC (ltI f1.1 f1.2.2) rfl rfl (by kernel_rfl) hc4 (X_of_Y0 rfl (E_field (.pt 8 2) Tryd.underlying33 rfl sz3 rfl (by kernel_rfl) (by intro hh; cases hh))) ?_
          refine XL_takeC (ltI f1.1 f1.2.2) rfl rfl (by kernel_rfl) hc4 (X_of_Y0 rfl (Y0_load1 (c := Ti f1.2.2) (cs := []) sc3 rfl (by kernel_rfl))) ?_
          refine XL_takeC (ltI f1.1 f1.2.2) rfl rfl (by kernel_rfl) hc4 (X_of_Y0 rfl (Y0_eqw (k := .i64) (a := f1.1) (b := f1.2.2) rfl (by kernel_rfl) (by kernel_rfl))) ?_
          refine XL_takeC (ltI f1.1 f1.2.2) rfl rfl (by kernel_rfl) hc4 (X_of_Y0 rfl (E_move (Bo (eqI f1.1 f1.2.2)) rfl (by kernel_rfl))) ?_
          refine XL_split (eqI f1.1 f1.2.2) (fun hc5 => ?_) (fun hc5 => ?_)
          · refine XL_takeC (eqI f1.1 f1.2.2) rfl rfl (by kernel_rfl) hc5 (X_of_Y0 rfl (E_field (.pt 8 1) Tryd.underlying33 rfl sz3 rfl (by kernel_rfl) (by intro hh; cases hh))) ?_
            refine XL_takeC (eqI f1.1 f1.2.2) rfl rfl (by kernel_rfl) hc5 (X_of_Y0 rfl (Y0_load1 (c := Ti f1.2.1) (cs := [Ti f1.2.2]) sc3 rfl (by kernel_rfl))) ?_
            refine XL_takeC (eqI f1.1 f1.2.2) rfl rfl (by kernel_rfl) hc5 (X_of_Y0 rfl (Y0_gew (k := .i64) (a := f1.2.1) (b := 0) rfl (by kernel_rfl) (by kernel_rfl))) ?_
            refine XL_takeC (ltI f1.1 f1.2.2) rfl rfl (by kernel_rfl) hc4 (X_of_Y0 rfl (Y0_pick1 (b := eqI f1.1 f1.2.2) (p := leI 0 f1.2.1) (q := false) rfl (by kernel_rfl) hc5 (by kernel_rfl))) ?_
            refine XL_takeC (bif (ltI (w64 (0 - f1.1)) f1.2.1) then (leI f1.2.1 f1.1) else false) rfl rfl (by kernel_rfl) hc3 (X_of_Y0 rfl (Y0_pick0 (b := ltI f1.1 f1.2.2) (p := true) (q := bif (eqI f1.1 f1.2.2) then (leI 0 f1.2.1) else false) rfl (by kernel_rfl) hc4 (by kernel_rfl))) ?_
            refine XL_cons rfl (X_of_Y0 rfl (Y0_pick1 (b := bif (ltI (w64 (0 - f1.1)) f1.2.1) then (leI f1.2.1 f1.1) else false) (p := bif (ltI f1.1 f1.2.2) then true else (bif (eqI f1.1 f1.2.2) then (leI 0 f1.2.1) else false)) (q := false) rfl (by kernel_rfl) hc3 (by kernel_rfl))) ?_
            refine XL_cons rfl (X_of_Y0 rfl (E_assign (Bo (bif (bif (ltI (w64 (0 - f1.1)) f1.2.1) then (leI f1.2.1 f1.1) else false) then (bif (ltI f1.1 f1.2.2) then true else (bif (eqI f1.1 f1.2.2) then (leI 0 f1.2.1) else false)) else false)) rfl (by kernel_rfl))) ?_
            refine XL_nil ?_
            subst ht6
            kernel_rfl
          · refine XL_skipT (eqI f1.1 f1.2.2) rfl rfl (by kernel_rfl) hc5 rfl ?_
            refine XL_skipT (eqI f1.1 f1.2.2) rfl rfl (by kernel_rfl) hc5 rfl ?_
            refine XL_skipT (eqI f1.1 f1.2.2) rfl rfl (by kernel_rfl) hc5 rfl ?_
            refine XL_takeC (ltI f1.1 f1.2.2) rfl rfl (by kernel_rfl) hc4 (X_of_Y0 rfl (Y0_pick0 (b := eqI f1.1 f1.2.2) (p := leI 0 f1.2.1) (q := false) rfl (by kernel_rfl) hc5 (by kernel_rfl))) ?_
            refine XL_takeC (bif (ltI (w64 (0 - f1.1)) f1.2.1) then (leI f1.2.1 f1.1) else false) rfl rfl (by kernel_rfl) hc3 (X_of_Y0 rfl (Y0_pick0 (b := ltI f1.1 f1.2.2) (p := true) (q := bif (eqI f1.1 f1.2.2) then (leI 0 f1.2.1) else false) rfl (by kernel_rfl) hc4 (by kernel_rfl))) ?_
            refine XL_cons rfl (X_of_Y0 rfl (Y0_pick1 (b := bif (ltI (w64 (0 - f1.1)) f1.2.1) then (leI f1.2.1 f1.1) else false) (p := bif (ltI f1.1 f1.2.2) then true else (bif (eqI f1.1 f1.2.2) then (leI 0 f1.2.1) else false)) (q := false) rfl (by kernel_rfl) hc3 (by kernel_rfl))) ?_
            refine XL_cons rfl (X_of_Y0 rfl (E_assign (Bo (bif (bif (ltI (w64 (0 - f1.1)) f1.2.1) then (leI f1.2.1 f1.1) else false) then (bif (ltI f1.1 f1.2.2) then true else (bif (eqI f1.1 f1.2.2) then (leI 0 f1.2.1) else false)) else false)) rfl (by kernel_rfl))) ?_
            refine XL_nil ?_
            subst ht6
            kernel_rfl
      · refine XL_skipT (bif (ltI (w64 (0 - f1.1)) f1.2.1) then (leI f1.2.1 f1.1) else false) rfl rfl (by kernel_rfl) hc3 rfl ?_
        refine XL_skipT (bif (ltI (w64 (0 - f1.1)) f1.2.1) then (leI f1.2.1 f1.1) else false) rfl rfl (by kernel_rfl) hc3 rfl ?_
        refine XL_skipT (bif (ltI (w64 (0 - f1.1)) f1.2.1) then (leI f1.2.1 f1.1) else false) rfl rfl (by kernel_rfl) hc3 rfl ?_
        refine XL_skipT (bif (ltI (w64 (0 - f1.1)) f1.2.1) then (leI f1.2.1 f1.1) else false) rfl rfl (by kernel_rfl) hc3 rfl ?_
        refine XL_skipT (bif (ltI (w64 (0 - f1.1)) f1.2.1) then (leI f1.2.1 f1.1) else false) rfl rfl (by kernel_rfl) hc3 rfl ?_
        refine XL_skipT (bif (ltI (w64 (0 - f1.1)) f1.2.1) then (leI f1.2.1 f1.1) else false) rfl rfl (by kernel_rfl) hc3 rfl ?_
        refine XL_skip2 rfl rfl (by kernel_rfl) rfl ?_
        refine XL_skip2 rfl rfl (by kernel_rfl) rfl ?_
        refine XL_skip2 rfl rfl (by kernel_rfl) rfl ?_
        refine XL_skip2 rfl rfl (by kernel_rfl) rfl ?_
        refine XL_skip2 rfl rfl (by kernel_rfl) rfl ?_
        refine XL_skip2 rfl rfl (by kernel_rfl) rfl ?_
        refine XL_skip2 rfl rfl (by kernel_rfl) rfl ?_
        refine XL_skip2 rfl rfl (by kernel_rfl) rfl ?_
        refine XL_skip2 rfl rfl (by kernel_rfl) rfl ?_
        refine XL_skip2 rfl rfl (by kernel_rfl) rfl ?_
        refine XL_skipT (bif (ltI (w64 (0 - f1.1)) f1.2.1) then (leI f1.2.1 f1.1) else false) rfl rfl (by kernel_rfl) hc3 rfl ?_
        refine XL_cons rfl (X_of_Y0 rfl (Y0_pick0 (b := bif (ltI (w64 (0 - f1.1)) f1.2.1) then (leI f1.2.1 f1.1) else false) (p := bif (ltI f1.1 f1.2.2) then true else (bif (eqI f1.1 f1.2.2) then (leI 0 f1.2.1) else false)) (q := false) rfl (by kernel_rfl) hc3 (by kernel_rfl))) ?_
        refine XL_cons rfl (X_of_Y0 rfl (E_assign (Bo (bif (bif (ltI (w64 (0 - f1.1)) f1.2.1) then (leI f1.2.1 f1.1) else false) then (bif (ltI f1.1 f1.2.2) then true else (bif (eqI f1.1 f1.2.2) then (leI 0 f1.2.1) else false)) else false)) rfl (by kernel_rfl))) ?_
        refine XL_nil ?_
        subst ht6
        kernel_rfl
    · refine XL_skipT (ltI (w64 (0 - f1.1)) f1.2.1) rfl rfl (by kernel_rfl) hc2 rfl ?_
      refine XL_skipT (ltI (w64 (0 - f1.1)) f1.2.1) rfl rfl (by kernel_rfl) hc2 rfl ?_
      refine XL_skipT (ltI (w64 (0 - f1.1)) f1.2.1) rfl rfl (by kernel_rfl) hc2 rfl ?_
      refine XL_skipT (ltI (w64 (0 - f1.1)) f1.2.1) rfl rfl (by kernel_rfl) hc2 rfl ?_
      refine XL_skipT (ltI (w64 (0 - f1.1)) f1.2.1) rfl rfl (by kernel_rfl) hc2 rfl ?_
      refine XL_cons rfl (X_of_Y0 rfl (Y0_pick0 (b := ltI (w64 (0 - f1.1)) f1.2.1) (p := leI f1.2.1 f1.1) (q := false) rfl (by kernel_rfl) hc2 (by kernel_rfl))) ?_
      refine XL_cons rfl (X_of_Y0 rfl (E_move (Bo (bif (ltI (w64 (0 - f1.1)) f1.2.1) then (leI f1.2.1 f1.1) else false)) rfl (by kernel_rfl))) ?_
      refine XL_split (bif (ltI (w64 (0 - f1.1)) f1.2.1) then (leI f1.2.1 f1.1) else false) (fun hc3 => ?_) (fun hc3 => ?_)
      · refine XL_takeC (bif (ltI (w64 (0 - f1.1)) f1.2.1) then (leI f1.2.1 f1.1) else false) rfl rfl (by kernel_rfl) hc3 (X_of_Y0 rfl (E_field (.pt 8 0) Tryd.underlying33 rfl sz3 rfl (by kernel_rfl) (by intro hh; cases hh))) ?_
        refine XL_takeC (bif (ltI (w64 (0 - f1.1)) f1.2.1) then (leI f1.2.1 f1.1) else false) rfl rfl (by kernel_rfl) hc3 (X_of_Y0 rfl (Y0_load1 (c := Ti f1.1) (cs := [Ti f1.2.1, Ti f1.2.2]) sc3 rfl (by kernel_rfl))) ?_
        refine XL_takeC (bif (ltI (w64 (0 - f1.1)) f1.2.1) then (leI f1.2.1 f1.1) else false) rfl rfl (by kernel_rfl) hc3 (X_of_Y0 rfl (E_field (.pt 8 2) Tryd.underlying33 rfl sz3 rfl (by kernel_rfl) (by intro hh; cases hh))) ?_
        refine XL_takeC (bif (ltI (w64 (0 - f1.1)) f1.2.1) then (leI f1.2.1 f1.1) else false) rfl rfl (by kernel_rfl) hc3 (X_of_Y0 rfl (Y0_load1 (c := Ti f1.2.2) (cs := []) sc3 rfl (by kernel_rfl))) ?_
        refine XL_takeC (bif (ltI (w64 (0 - f1.1)) f1.2.1) then (leI f1.2.1 f1.1) else false) rfl rfl (by kernel_rfl) hc3 (X_of_Y0 rfl (Y0_ltw (k := .i64) (a := f1.1) (b := f1.2.2) rfl (by kernel_rfl) (by kernel_rfl))) ?_
        refine XL_takeC (bif (ltI (w64 (0 - f1.1)) f1.2.1) then (leI f1.2.1 f1.1) else false) rfl rfl (by kernel_rfl) hc3 (X_of_Y0 rfl (E_move (Bo (ltI f1.1 f1.2.2)) rfl (by kernel_rfl))) ?_
        refine XL_split (ltI f1.1 f1.2.2) (fun hc4 => ?_) (fun hc4 => ?_)
        · refine XL_skipF (ltI f1.1 f1.2.2) rfl rfl (by kernel_rfl) hc4 rfl ?_
          refine XL_skipF (ltI f1.1 f1.2.2) rfl rfl (by kernel_rfl) hc4 rfl ?_
          refine XL_skipF (ltI f1.1 f1.2.2) rfl rfl (by kernel_rfl) hc4 rfl ?_
          refine XL_skipF (ltI f1.1 f1.2.2) rfl rfl (by kernel_rfl) hc4 rfl ?_
          refine XL_skipF (ltI f1.1 f1.2.2) rfl rfl (by kernel_rfl) hc4 rfl ?_
          refine XL_skipF (ltI f1.1 f1.2.2) rfl rfl (by kernel_rfl) hc4 rfl ?_
          refine XL_skip2 rfl rfl (by kernel_rfl) rfl ?_
          refine XL_skip2 rfl rfl (by kernel_rfl) rfl ?_
          refine XL_skip2 rfl rfl (by kernel_rfl) rfl ?_
          refine XL_skipF (ltI f1.1 f1.2.2) rfl rfl (by kernel_rfl) hc4 rfl ?_
          refine XL_takeC (bif (ltI (w64 (0 - f1.1)) f1.2.1) then (leI f1.2.1 f1.1) else false) rfl rfl (by kernel_rfl) hc3 (X_of_Y0 rfl (Y0_pick1 (b := ltI f1.1 f1.2.2) (p := true) (q := bif (eqI f1.1 f1.2.2) then (leI 0 f1.2.1) else false) rfl (by kernel_rfl) hc4 (by kernel_rfl))) ?_
          refine XL_cons rfl (X_of_Y0 rfl (Y0_pick1 (b := bif (ltI (w64 (0 - f1.1)) f1.2.1) then (leI f1.2.1 f1.1) else false) (p := bif (ltI f1.1 f1.2.2) then true else (bif (eqI f1.1 f1.2.2) then (leI 0 f1.2.1) else false)) (q := false) rfl (by kernel_rfl) hc3 (by kernel_rfl))) ?_
          refine XL_cons rfl (X_of_Y0 rfl (E_assign (Bo (bif (bif (ltI (w64 (0 - f1.1)) f1.2.1) then (leI f1.2.1 f1.1) else false) then (bif (ltI f1.1 f1.2.2) then true else (bif (eqI f1.1 f1.2.2) then (leI 0 f1.2.1) else false)) else false)) rfl (by kernel_rfl))) ?_
          refine XL_nil ?_
          subst ht6
          kernel_rfl
        · refine XL_takeC (ltI f1.1 f1.2.2) rfl rfl (by kernel_rfl) hc4 (X_of_Y0 rfl (E_field (.pt 8 0) Tryd.underlying33 rfl sz3 rfl (by kernel_rfl) (by intro hh; cases hh))) ?_
          refine XL_takeC (ltI f1.1 f1.2.2) rfl rfl (by kernel_rfl) hc4 (X_of_Y0 rfl (Y0_load1 (c := Ti f1.1) (cs := [Ti f1.2.1, Ti f1.2.2]) sc3 rfl (by kernel_rfl))) ?_
          refine XL_takeC (ltI f1.1 f1.2.2) rfl rfl (by kernel_rfl) hc4 (X_of_Y0 rfl (E_field (.pt 8 2) Tryd.underlying33 rfl sz3 rfl (by kernel_rfl) (by intro hh; cases hh))) ?_
          refine XL_takeC (ltI f1.1 f1.2.2) rfl rfl (by kernel_rfl) hc4 (X_of_Y0 rfl (Y0_load1 (c := Ti f1.2.2) (cs := []) sc3 rfl (by kernel_rfl))) ?_
          refine XL_takeC (ltI f1.1 f1.2.2) rfl rfl (by kernel_rfl) hc4 (X_of_Y0 rfl (Y0_eqw (k := .i64) (a := f1.1) (b := f1.2.2) rfl (by kernel_rfl) (by kernel_rfl))) ?_
          refine XL_takeC (ltI f1.1 f1.2.2) rfl rfl (by kernel_rfl) hc4 (X_of_Y0 rfl (E_move (Bo (eqI f1.1 f1.2.2)) rfl (by kernel_rfl))) ?_
          refine XL_split (eqI f1.1 f1.2.2) (fun hc5 => ?_) (fun hc5 => ?_)
          · refine XL_takeC (eqI f1.1 f1.2.2) rfl rfl (by kernel_rfl) hc5 (X_of_Y0 rfl (E_field (.pt 8 1) Tryd.underlying33 rfl sz3 rfl (by kernel_rfl) (by intro hh; cases hh))) ?_
            refine XL_takeC (eqI f1.1 f1.2.2) rfl rfl (by kernel_rfl) hc5 (X_of_Y0 rfl (Y0_load1 (c := Ti f1.2.1) (cs := [Ti f1.2.2]) sc3 rfl (by kernel_rfl))) ?_
            refine XL_takeC (eqI f1.1 f1.2.2) rfl rfl (by kernel_rfl) hc5 (X_of_Y0 rfl (Y0_gew (k := .i64) (a := f1.2.1) (b := 0) rfl (by kernel_rfl) (by kernel_rfl))) ?_
            refine XL_takeC (ltI f1.1 f1.2.2) rfl rfl (by kernel_rfl) hc4 (X_of_Y0 rfl (Y0_pick1 (b := eqI f1.1 f1.2.2) (p := leI 0 f1.2.1) (q := false) rfl (by kernel_rfl) hc5 (by kernel_rfl))) ?_
            refine XL_takeC (bif (ltI (w64 (0 - f1.1)) f1.2.1) then (leI f1.2.1 f1.1) else false) rfl rfl (by kernel_rfl) hc3 (X_of_Y0 rfl (Y0_pick0 (b := ltI f1.1 f1.2.2) (p := true) (q := bif (eqI f1.1 f1.2.2) then (leI 0 f1.2.1) else false) rfl (by kernel_rfl) hc4 (by kernel_rfl))) ?_
            refine XL_cons rfl (X_of_Y0 rfl (Y0_pick1 (b := bif (ltI (w64 (0 - f1.1)) f1.2.1) then (leI f1.2.1 f1.1) else false) (p := bif (ltI f1.1 f1.2.2) then true else (bif (eqI f1.1 f1.2.2) then (leI 0 f1.2.1) else false)) (q := false) rfl (by kernel_rfl) hc3 (by kernel_rfl))) ?_
            refine XL_cons rfl (X_of_Y0 rfl (E_assign (Bo (bif (bif (ltI (w64 (0 - f1.1)) f1.2.1) then (leI f1.2.1 f1.1) else false) then (bif (ltI f1.1 f1.2.2) then true else (bif (eqI f1.1 f1.2.2) then (leI 0 f1.2.1) else false)) else false)) rfl (by kernel_rfl))) ?_
            refine XL_nil ?_
            subst ht6
            kernel_rfl
          · refine XL_skipT (eqI f1.1 f1.2.2) rfl rfl (by kernel_rfl) hc5 rfl ?_
            refine XL_skipT (eqI f1.1 f1.2.2) rfl rfl (by kernel_rfl) hc5 rfl ?_
            refine XL_skipT (eqI f1.1 f1.2.2) rfl rfl (by kernel_rfl) hc5 rfl ?_
            refine XL_takeC (ltI f1.1 f1.2.2) rfl rfl (by kernel_rfl) hc4 (X_of_Y0 rfl (Y0_pick0 (b := eqI f1.1 f1.2.2) (p := leI 0 f1.2.1) (q := false) rfl (by kernel_rfl) hc5 (by kernel_rfl))) ?_
            refine XL_takeC (bif (ltI (w64 (0 - f1.1)) f1.2.1) then (leI f1.2.1 f1.1) else false) rfl rfl (by kernel_rfl) hc3 (X_of_Y0 rfl (Y0_pick0 (b := ltI f1.1 f1.2.2) (p := true) (q := bif (eqI f1.1 f1.2.2) then (leI 0 f1.2.1) else false) rfl (by kernel_rfl) hc4 (by kernel_rfl))) ?_
            refine XL_cons rfl (X_of_Y0 rfl (Y0_pick1 (b := bif (ltI (w64 (0 - f1.1)) f1.2.1) then (leI f1.2.1 f1.1) else false) (p := bif (ltI f1.1 f1.2.2) then true else (bif (eqI f1.1 f1.2.2) then (leI 0 f1.2.1) else false)) (q := false) rfl (by kernel_rfl) hc3 (by kernel_rfl))) ?_
            refine XL_cons rfl (X_of_Y0 rfl (E_assign (Bo (bif (bif (ltI (w64 (0 - f1.1)) f1.2.1) then (leI f1.2.1 f1.1) else false) then (bif (ltI f1.1 f1.2.2) then true else (bif (eqI f1.1 f1.2.2) then (leI 0 f1.2.1) else false)) else false)) rfl (by kernel_rfl))) ?_
            refine XL_nil ?_
            subst ht6
            kernel_rfl
      · refine XL_skipT (bif (ltI (w64 (0 - f1.1)) f1.2.1) then (leI f1.2.1 f1.1) else false) rfl rfl (by kernel_rfl) hc3 rfl ?_
        refine XL_skipT (bif (ltI (w64 (0 - f1.1)) f1.2.1) then (leI f1.2.1 f1.1) else false) rfl rfl (by kernel_rfl) hc3 rfl ?_
        refine XL_skipT (bif (ltI (w64 (0 - f1.1)) f1.2.1) then (leI f1.2.1 f1.1) else false) rfl rfl (by kernel_rfl) hc3 rfl ?_
        refine XL_skipT (bif (ltI (w64 (0 - f1.1)) f1.2.1) then (leI f1.2.1 f1.1) else false) rfl rfl (by kernel_rfl) hc3 rfl ?_
        refine XL_skipT (bif (ltI (w64 (0 - f1.1)) f1.2.1) then (leI f1.2.1 f1.1) else false) rfl rfl (by kernel_rfl) hc3 rfl ?_
        refine XL_skipT (bif (ltI (w64 (0 - f1.1)) f1.2.1) then (leI f1.2.1 f1.1) else false) rfl rfl (by kernel_rfl) hc3 rfl ?_
        refine XL_skip2 rfl rfl (by kernel_rfl) rfl ?_
        refine XL_skip2 rfl rfl (by kernel_rfl) rfl ?_
        refine XL_skip2 rfl rfl (by kernel_rfl) rfl ?_
        refine XL_skip2 rfl rfl (by kernel_rfl) rfl ?_
        refine XL_skip2 rfl rfl (by kernel_rfl) rfl ?_
        refine XL_skip2 rfl rfl (by kernel_rfl) rfl ?_
        refine XL_skip2 rfl rfl (by kernel_rfl) rfl ?_
        refine XL_skip2 rfl rfl (by kernel_rfl) rfl ?_
        refine XL_skip2 rfl rfl (by kernel_rfl) rfl ?_
        refine XL_skip2 rfl rfl (by kernel_rfl) rfl ?_
        refine XL_skipT (bif (ltI (w64 (0 - f1.1)) f1.2.1) then (leI f1.2.1 f1.1) else false) rfl rfl (by kernel_rfl) hc3 rfl ?_
        refine XL_cons rfl (X_of_Y0 rfl (Y0_pick0 (b := bif (ltI (w64 (0 - f1.1)) f1.2.1) then (leI f1.2.1 f1.1) else false) (p := bif (ltI f1.1 f1.2.2) then true else (bif (eqI f1.1 f1.2.2) then (leI 0 f1.2.1) else false)) (q := false) rfl (by kernel_rfl) hc3 (by kernel_rfl))) ?_
        refine XL_cons rfl (X_of_Y0 rfl (E_assign (Bo (bif (bif (ltI (w64 (0 - f1.1)) f1.2.1) then (leI f1.2.1 f1.1) else false) then (bif (ltI f1.1 f1.2.2) then true else (bif (eqI f1.1 f1.2.2) then (leI 0 f1.2.1) else false)) else false)) rfl (by kernel_rfl))) ?_
        refine XL_nil ?_
        subst ht6
        kernel_rfl
  refine V_ret ?_
  obtain rfl := some_inj h
  show Post _ _ _ _ _
  exact ⟨.inr rfl, rfl, rfl, rfl⟩
theorem cf_spec_nuMod : ∀ args w, (callFunc 124 args).run Tryd.prog w = .ok (.enter 124 args) w := run_callFunc Tryd.func124 (by kernel_rfl) (by kernel_rfl)
set_option maxRecDepth 100000 in
set_option maxHeartbeats 400000 in
theorem s_spec_nuMod {a1 : Int} {vm2 : Int} {r : Int} (h : r_spec_nuMod a1 vm2 = some r) : CallS Tryd.prog 124 [I a1, I vm2] (I r) [] := by
  refine CallS_of_text (rs := [.t 4]) (vs := [.tmp 4]) Tryd.func124 rfl rfl (.cons rfl FitsL.nil) (by decide) 15 rfl ?_
  unfold r_spec_nuMod at h
  show V _ _ ⟨[I a1, I vm2, .bot, .bot, .bot, .bot, .bot, .bot, .bot, .bot, .bot, .bot, .bot, .bot, .bot], []⟩ _
  refine V_sreg [true, true, false, false, false, false, false, false, false, false, false, false, false, false, false] [] (s1 := ⟨[I a1, I vm2, .bot, .bot, .bot, .bot, .bot, .bot, .bot, .bot, .bot, .bot, .bot, .bot, .bot], []⟩) ?_ ?_
  · refine XL_cons rfl (X_of_Y0 rfl (E_assign (I 0) rfl (by kernel_rfl))) ?_
    refine XL_nil ?_
    kernel_rfl
  obtain ⟨z3, hz3, h⟩ := of_bind h
  obtain ⟨vr4, hvr4, h⟩ := of_sI h
  refine V_sreg [false, true, false, false, false, true, false, false, false, false, false, false, false, false, false] [] (s1 := ⟨[.bot, I vm2, .bot, .bot, .bot, I vr4, .bot, .bot, .bot, .bot, .bot, .bot, .bot, .bot, .bot], []⟩) ?_ ?_
  · refine XL_cons rfl (X_of_Y0 rfl (E_move (I a1) rfl (by kernel_rfl))) ?_
    refine XL_cons rfl (X_of_Y0 rfl (E_move (I vm2) rfl (by kernel_rfl))) ?_
    refine XL_cons rfl (X_of_Y0 rfl (Y0_rem (k := .i64) (a := a1) (b := vm2) rfl (by kernel_rfl) (by kernel_rfl) (nz_some hz3))) ?_
    refine XL_cons rfl (X_of_Y0 rfl (E_assign (I (Int.tmod a1 vm2)) rfl (by kernel_rfl))) ?_
    refine XL_nil ?_
    subst hvr4
    kernel_rfl
  refine V_seq ?_
  refine V_sreg [false, true, false, false, false, true, false, false, false, false, true, false, false, false, false] [] (s1 := ⟨[.bot, I vm2, .bot, .bot, .bot, I vr4, .bot, .bot, .bot, .bot, Bo (ltI vr4 0), .bot, .bot, .bot, .bot], []⟩) ?_ ?_
  · refine XL_cons rfl (X_of_Y0 rfl (E_move (I vr4) rfl (by kernel_rfl))) ?_
    refine XL_cons rfl (X_of_Y0 rfl (Y0_ltw (k := .i64) (a := vr4) (b := 0) rfl (by kernel_rfl) (by kernel_rfl))) ?_
    refine XL_nil ?_
    kernel_rfl
  refine V_cond rfl (fun hc5 => ?_) (fun hc5 => ?_)
  · have h := of_true h hc5
    obtain ⟨vr6, hvr6, h⟩ := of_sI h
    refine V_reg [false, false, false, false, false, true, false, false, false, false, false, false, false, false, false] [] (s1 := ⟨[.bot, .bot, .bot, .bot, .bot, I vr6, .bot, .bot, .bot, .bot, .bot, .bot, .bot, .bot, .bot], []⟩) ?_ ?_
    · refine XL_cons rfl (X_of_Y0 rfl (E_move (I vr4) rfl (by kernel_rfl))) ?_
      refine XL_cons rfl (X_of_Y0 rfl (E_move (I vm2) rfl (by kernel_rfl))) ?_
      refine XL_cons rfl (X_of_Y0 rfl (Y0_add64 (a := vr4) (b := vm2) rfl (by kernel_rfl) (by kernel_rfl))) ?_
      refine XL_cons rfl (X_of_Y0 rfl (E_assign (I (w64 (vr4 + vm2))) rfl (by kernel_rfl))) ?_
      refine XL_nil ?_
      subst hvr6
      kernel_rfl
    show V _ _ _ _
    refine V_sreg [false, false, false, false, true, false, false, false, false, false, false, false, false, false, false] [] (s1 := ⟨[.bot, .bot, .bot, .bot, I vr6, .bot, .bot, .bot, .bot, .bot, .bot, .bot, .bot, .bot, .bot], []⟩) ?_ ?_
    · refine XL_cons rfl (X_of_Y0 rfl (E_move (I vr6) rfl (by kernel_rfl))) ?_
      refine XL_cons rfl (X_of_Y0 rfl (E_assign (I vr6) rfl (by kernel_rfl))) ?_
      refine XL_nil ?_
      kernel_rfl
    refine V_ret ?_
    obtain rfl := some_inj h
    show Post _ _ _ _ _
    exact ⟨.inr rfl, rfl, rfl, rfl⟩
  · have h := of_false h hc5
    refine V_skip ?_
    show V _ _ _ _
    refine V_sreg [false, false, false, false, true, false, false, false, false, false, false, false, false, false, false] [] (s1 := ⟨[.bot, .bot, .bot, .bot, I vr4, .bot, .bot, .bot, .bot, .bot, .bot, .bot, .bot, .bot, .bot], []⟩) ?_ ?_
    · refine XL_cons rfl (X_of_Y0 rfl (E_move (I vr4) rfl (by kernel_rfl))) ?_
      refine XL_cons rfl (X_of_Y0 rfl (E_assign (I vr4) rfl (by kernel_rfl))) ?_
      refine XL_nil ?_
      kernel_rfl
    refine V_ret ?_
    obtain rfl := some_inj h
    show Post _ _ _ _ _
    exact ⟨.inr rfl, rfl, rfl, rfl⟩
theorem cf_spec_reNormal : ∀ args w, (callFunc 129 args).run Tryd.prog w = .ok (.enter 129 args) w := run_callFunc Tryd.func129 (by kernel_rfl) (by kernel_rfl)
set_option maxRecDepth 100000 in
set_option maxHeartbeats 400000 in
theorem s_spec_reNormal {f1 : (Int × Int × Int)} {r : Int} (h : r_spec_reNormal f1 = some r) : CallS Tryd.prog 129 [.ag [Ti f1.1, Ti f1.2.1, Ti f1.2.2]] (I r) [] := by
  refine CallS_of_text (rs := [.t 2]) (vs := [.tmp 2]) Tryd.func129 rfl rfl (.cons rfl FitsL.nil) (by decide) 22 rfl ?_
  unfold r_spec_reNormal at h
  show V _ _ ⟨[.ag [Ti f1.1, Ti f1.2.1, Ti f1.2.2], .bot, .bot, .bot, .bot, .bot, .bot, .bot, .bot, .bot, .bot, .bot, .bot, .bot, .bot, .bot, .bot, .bot, .bot, .bot, .bot, .bot], []⟩ _
  refine V_sreg [false, true, false, false, false, false, false, false, false, false, false, false, false, false, false, false, false, false, false, false, false, false] [8] (s1 := ⟨[.bot, .pt 8 0, .bot, .bot, .bot, .bot, .bot, .bot, .bot, .bot, .bot, .bot, .bot, .bot, .bot, .bot, .bot, .bot, .bot, .bot, .bot, .bot], [(8, .box [Ti f1.1, Ti f1.2.1, Ti f1.2.2])]⟩) ?_ ?_
  · refine XL_cons rfl (X_of_Y1 rfl (Y1_box (cs := [Ti f1.1, Ti f1.2.1, Ti f1.2.2]) rfl (by kernel_rfl))) ?_
    refine XL_cons rfl (X_of_Y0 rfl (E_assign (I 0) rfl (by kernel_rfl))) ?_
    refine XL_nil ?_
    kernel_rfl
  obtain ⟨y2, hy2, h⟩ := of_bind h
  obtain ⟨z3, hz3, h⟩ := of_bind h
  obtain ⟨t4, ht4, h⟩ := of_sI h
  refine V_sdreg [0, 1, 0, 4, 15, 0, 32, 0, 128, 480, 0, 1024, 3072, 8160, 16383, 0, 32768, 98304, 262143, 524287] 20 [[.z, .z, .b, .b, .z, .b, .b, .b, .b, .b, .b, .b, .b, .b, .z, .b, .b, .b, .z, .z], [.a, .z, .b, .b, .z, .b, .b, .b, .b, .b, .b, .b, .b, .b, .z, .b, .b, .b, .z, .z], [.b, .b, .z, .z, .z, .b, .b, .b, .b, .b, .b, .b, .b, .b, .z, .b, .b, .b, .z, .z], [.b, .b, .a, .z, .z, .b, .b, .b, .b, .b, .b, .b, .b, .b, .z, .b, .b, .b, .z, .z], [.a, .a, .a, .a, .z, .b, .b, .b, .b, .b, .b, .b, .b, .b, .z, .b, .b, .b, .z, .z], [.b, .b, .b, .b, .b, .z, .z, .b, .b, .z, .b, .b, .b, .z, .z, .b, .b, .b, .z, .z], [.b, .b, .b, .b, .b, .a, .z, .b, .b, .z, .b, .b, .b, .z, .z, .b, .b, .b, .z, .z], [.b, .b, .b, .b, .b, .b, .b, .z, .z, .z, .b, .b, .b, .z, .z, .b, .b, .b, .z, .z], [.b, .b, .b, .b, .b, .b, .b, .a, .z, .z, .b, .b, .b, .z, .z, .b, .b, .b, .z, .z], [.b, .b, .b, .b, .b, .a, .a, .a, .a, .z, .b, .b, .b, .z, .z, .b, .b, .b, .z, .z], [.b, .b, .b, .b, .b, .b, .b, .b, .b, .b, .z, .z, .z, .z, .z, .b, .b, .b, .z, .z], [.b, .b, .b, .b, .b, .b, .b, .b, .b, .b, .a, .z, .z, .z, .z, .b, .b, .b, .z, .z], [.b, .b, .b, .b, .b, .b, .b, .b, .b, .b, .a, .a, .z, .z, .z, .b, .b, .b, .z, .z], [.b, .b, .b, .b, .b, .a, .a, .a, .a, .a, .a, .a, .a, .z, .z, .b, .b, .b, .z, .z], [.a, .a, .a, .a, .a, .a, .a, .a, .a, .a, .a, .a, .a, .a, .z, .b, .b, .b, .z, .z], [.b, .b, .b, .b, .b, .b, .b, .b, .b, .b, .b, .b, .b, .b, .b, .z, .z, .z, .z, .z], [.b, .b, .b, .b, .b, .b, .b, .b, .b, .b, .b, .b, .b, .b, .b, .a, .z, .z, .z, .z], [.b, .b, .b, .b, .b, .b, .b, .b, .b, .b, .b, .b, .b, .b, .b, .a, .a, .z, .z, .z], [.a, .a, .a, .a, .a, .a, .a, .a, .a, .a, .a, .a, .a, .a, .a, .a, .a, .a, .z, .z], [.a, .a, .a, .a, .a, .a, .a, .a, .a, .a, .a, .a, .a, .a, .a, .a, .a, .a, .a, .z]] [false, false, true, false, false, false, false, false, false, false, false, false, false, false, false, false, false, false, false, false, false, false] [] (s1 := ⟨[.bot, .bot, I t4, .bot, .bot, .bot, .bot, .bot, .bot, .bot, .bot, .bot, .bot, .bot, .bot, .bot, .bot, .bot, .bot, .bot, .bot, .bot], []⟩) (by kernel_rfl) (by kernel_rfl) ?_ ?_
  · refine DE_0 0 (.pt 8 0) (by kernel_rfl) rfl rfl rfl (gsat_none rfl) (by kernel_rfl) (E_field (.pt 8 0) Tryd.underlying33 rfl sz3 rfl (by kernel_rfl) (by intro hh; cases hh)) 3 rfl ?_
    refine DE_0 1 (I f1.1) (by kernel_rfl) rfl rfl rfl (gsat_none rfl) (by kernel_rfl) (Y0_load1 (c := Ti f1.1) (cs := [Ti f1.2.1, Ti f1.2.2]) sc3 rfl (by kernel_rfl)) 4 rfl ?_
    refine DE_0 2 (.pt 8 1) (by kernel_rfl) rfl rfl rfl (gsat_none rfl) (by kernel_rfl) (E_field (.pt 8 1) Tryd.underlying33 rfl sz3 rfl (by kernel_rfl) (by intro hh; cases hh)) 5 rfl ?_
    refine DE_0 3 (I f1.2.1) (by kernel_rfl) rfl rfl rfl (gsat_none rfl) (by kernel_rfl) (Y0_load1 (c := Ti f1.2.1) (cs := [Ti f1.2.2]) sc3 rfl (by kernel_rfl)) 6 rfl ?_
    refine DE_0 4 (I (w64 (f1.1 - f1.2.1))) (by kernel_rfl) rfl rfl rfl (gsat_none rfl) (by kernel_rfl) (Y0_sub64 (a := f1.1) (b := f1.2.1) rfl (by kernel_rfl) (by kernel_rfl)) 7 rfl ?_
    refine DE_0 5 (.pt 8 0) (by kernel_rfl) rfl rfl rfl (gsat_none rfl) (by kernel_rfl) (E_field (.pt 8 0) Tryd.underlying33 rfl sz3 rfl (by kernel_rfl) (by intro hh; cases hh)) 8 rfl ?_
    refine DE_0 6 (I f1.1) (by kernel_rfl) rfl rfl rfl (gsat_none rfl) (by kernel_rfl) (Y0_load1 (c := Ti f1.1) (cs := [Ti f1.2.1, Ti f1.2.2]) sc3 rfl (by kernel_rfl)) 9 rfl ?_
    refine DE_0 7 (.pt 8 1) (by kernel_rfl) rfl rfl rfl (gsat_none rfl) (by kernel_rfl) (E_field (.pt 8 1) Tryd.underlying33 rfl sz3 rfl (by kernel_rfl) (by intro hh; cases hh)) 10 rfl ?_
    refine DE_0 8 (I f1.2.1) (by kernel_rfl) rfl rfl rfl (gsat_none rfl) (by kernel_rfl) (Y0_load1 (c := Ti f1.2.1) (cs := [Ti f1.2.2]) sc3 rfl (by kernel_rfl)) 11 rfl ?_
    refine DE_0 9 (I (w64 (f1.1 - f1.2.1))) (by kernel_rfl) rfl rfl rfl (gsat_none rfl) (by kernel_rfl) (Y0_sub64 (a := f1.1) (b := f1.2.1) rfl (by kernel_rfl) (by kernel_rfl)) 12 rfl ?_
    refine DE_0 10 (.pt 8 0) (by kernel_rfl) rfl rfl rfl (gsat_none rfl) (by kernel_rfl) (E_field (.pt 8 0) Tryd.underlying33 rfl sz3 rfl (by kernel_rfl) (by intro hh; cases hh)) 13 rfl ?_
    refine DE_0 11 (I f1.1) (by kernel_rfl) rfl rfl rfl (gsat_none rfl) (by kernel_rfl) (Y0_load1 (c := Ti f1.1) (cs := [Ti f1.2.1, Ti f1.2.2]) sc3 rfl (by kernel_rfl)) 14 rfl ?_
    refine DE_0 12 (I (w64 (2 * f1.1))) (by kernel_rfl) rfl rfl rfl (gsat_none rfl) (by kernel_rfl) (Y0_mul64 (a := 2) (b := f1.1) rfl (by kernel_rfl) (by kernel_rfl)) 15 rfl ?_
    refine DE_1 13 (by kernel_rfl) rfl rfl rfl (gsat_none rfl) (Y1_call (s_spec_nuMod hy2) cf_spec_nuMod rfl (by kernel_rfl)) rfl rfl rfl 16 rfl ?_
    refine DE_0 14 (I (w64 ((w64 (f1.1 - f1.2.1)) - y2))) (by kernel_rfl) rfl rfl rfl (gsat_none rfl) (by kernel_rfl) (Y0_sub64 (a := w64 (f1.1 - f1.2.1)) (b := y2) rfl (by kernel_rfl) (by kernel_rfl)) 17 rfl ?_
    refine DE_0 15 (.pt 8 0) (by kernel_rfl) rfl rfl rfl (gsat_none rfl) (by kernel_rfl) (E_field (.pt 8 0) Tryd.underlying33 rfl sz3 rfl (by kernel_rfl) (by intro hh; cases hh)) 18 rfl ?_
    refine DE_0 16 (I f1.1) (by kernel_rfl) rfl rfl rfl (gsat_none rfl) (by kernel_rfl) (Y0_load1 (c := Ti f1.1) (cs := [Ti f1.2.1, Ti f1.2.2]) sc3 rfl (by kernel_rfl)) 19 rfl ?_
    refine DE_0 17 (I (w64 (2 * f1.1))) (by kernel_rfl) rfl rfl rfl (gsat_none rfl) (by kernel_rfl) (Y0_mul64 (a := 2) (b := f1.1) rfl (by kernel_rfl) (by kernel_rfl)) 20 rfl ?_
    refine DE_0 18 (I (w64 (Int.tdiv (w64 ((w64 (f1.1 - f1.2.1)) - y2)) (w64 (2 * f1.1))))) (by kernel_rfl) rfl rfl rfl (gsat_none rfl) (by kernel_rfl) (Y0_quo64 (a := w64 ((w64 (f1.1 - f1.2.1)) - y2)) (b := w64 (2 * f1.1)) rfl (by kernel_rfl) (by kernel_rfl) (nz_some hz3)) 21 rfl ?_
    refine DE_0 19 (I (w64 (Int.tdiv (w64 ((w64 (f1.1 - f1.2.1)) - y2)) (w64 (2 * f1.1))))) (by kernel_rfl) rfl rfl rfl (gsat_none rfl) (by kernel_rfl) (E_assign (I (w64 (Int.tdiv (w64 ((w64 (f1.1 - f1.2.1)) - y2)) (w64 (2 * f1.1))))) rfl (by kernel_rfl)) 2 rfl ?_
    refine DL_nil (by kernel_rfl) ?_
    refine XL_nil ?_
    subst ht4
    kernel_rfl
  refine V_ret ?_
  obtain rfl := some_inj h
  show Post _ _ _ _ _
  exact ⟨.inr rfl, rfl, rfl, rfl⟩
theorem cf_spec_reMove : ∀ args w, (callFunc 83 args).run Tryd.prog w = .ok (.enter 83 args) w := run_callFunc Tryd.func83 (by kernel_rfl) (by kernel_rfl)
set_option maxRecDepth 100000 in
set_option maxHeartbeats 400000 in
theorem s_spec_reMove {f1 : (Int × Int × Int)} {r : (Int × Int × Int × Int)} (h : r_spec_reMove f1 = some r) : CallS Tryd.prog 83 [.ag [Ti f1.1, Ti f1.2.1, Ti f1.2.2]] (.ag [Ti r.1, Ti r.2.1, Ti r.2.2.1, Ti r.2.2.2]) [] := by
  refine CallS_of_text (rs := [.w 2 4]) (vs := [.cell 2 53]) Tryd.func83 rfl rfl (.cons ⟨rfl, wd53⟩ FitsL.nil) (by decide) 14 rfl ?_
  unfold r_spec_reMove at h
  show V _ _ ⟨[.ag [Ti f1.1, Ti f1.2.1, Ti f1.2.2], .bot, .bot, .bot, .bot, .bot, .bot, .bot, .bot, .bot, .bot, .bot, .bot, .bot], []⟩ _
  refine V_sreg [false, true, true, false, false, false, false, false, false, false, false, false, false, false] [16, 8] (s1 := ⟨[.bot, .pt 8 0, .pt 16 0, .bot, .bot, .bot, .bot, .bot, .bot, .bot, .bot, .bot, .bot, .bot], [(16, .box [Ti 0, Ti 0, Ti 0, Ti 0]), (8, .box [Ti f1.1, Ti f1.2.1, Ti f1.2.2])]⟩) ?_ ?_
  · refine XL_cons rfl (X_of_Y1 rfl (Y1_box (cs := [Ti f1.1, Ti f1.2.1, Ti f1.2.2]) rfl (by kernel_rfl))) ?_
    refine XL_cons rfl (X_of_Y1 rfl (Y1_alloc (z := zv53) rfl zf53 rfl)) ?_
    refine XL_nil ?_
    kernel_rfl
  refine V_seq ?_
  obtain ⟨y2, hy2, h⟩ := of_bind h
  refine V_sreg [false, true, true, true, false, false, false, false, false, false, false, false, false, false] [16, 8] (s1 := ⟨[.bot, .pt 8 0, .pt 16 0, I y2, .bot, .bot, .bot, .bot, .bot, .bot, .bot, .bot, .bot, .bot], [(16, .box [Ti 0, Ti 0, Ti 0, Ti 0]), (8, .box [Ti f1.1, Ti f1.2.1, Ti f1.2.2])]⟩) ?_ ?_
  · refine XL_cons rfl (X_of_Y0 rfl (E_loadn (cs := [Ti f1.1, Ti f1.2.1, Ti f1.2.2]) [Ti f1.1, Ti f1.2.1, Ti f1.2.2] wd33 rfl (by kernel_rfl) (Nat.le_of_ble_eq_true rfl) (by kernel_rfl))) ?_
    refine XL_cons rfl (X_of_Y1 rfl (Y1_call (s_spec_reNormal hy2) cf_spec_reNormal rfl (by kernel_rfl))) ?_
    refine XL_cons rfl (X_of_Y0 rfl (E_assign (I y2) rfl (by kernel_rfl))) ?_
    refine XL_nil ?_
    kernel_rfl
  refine V_sreg [false, true, true, true, false, false, false, true, false, false, false, false, false, false] [16, 8] (s1 := ⟨[.bot, .pt 8 0, .pt 16 0, I y2, .bot, .bot, .bot, Bo (!eqI y2 0), .bot, .bot, .bot, .bot, .bot, .bot], [(16, .box [Ti 0, Ti 0, Ti 0, Ti 0]), (8, .box [Ti f1.1, Ti f1.2.1, Ti f1.2.2])]⟩) ?_ ?_
  · refine XL_cons rfl (X_of_Y0 rfl (E_move (I y2) rfl (by kernel_rfl))) ?_
    refine XL_cons rfl (X_of_Y0 rfl (Y0_new (k := .i64) (a := y2) (b := 0) rfl (by kernel_rfl) (by kernel_rfl))) ?_
    refine XL_nil ?_
    kernel_rfl
  refine V_cond rfl (fun hc3 => ?_) (fun hc3 => ?_)
  · have h := of_true h hc3
    refine V_sreg [false, false, true, false, false, false, false, false, false, false, false, false, false, false] [16] (s1 := ⟨[.bot, .bot, .pt 16 0, .bot, .bot, .bot, .bot, .bot, .bot, .bot, .bot, .bot, .bot, .bot], [(16, .box [Ti 1, Ti y2, Ti 0, Ti 1])]⟩) ?_ ?_
    · refine XL_cons rfl (X_of_Y0 rfl (E_move (I y2) rfl (by kernel_rfl))) ?_
      refine XL_cons rfl (X_of_Y0 rfl (Y0_build (cs := [Ti 1, Ti y2, Ti 0, Ti 1]) pl53 bt53 rfl rfl (by kernel_rfl))) ?_
      refine XL_cons rfl (E_store (id := 16) (off := 0) (cs := [Ti 0, Ti 0, Ti 0, Ti 0]) (vc := [Ti 1, Ti y2, Ti 0, Ti 1]) [Ti 1, Ti y2, Ti 0, Ti 1] rfl rfl (by kernel_rfl) (by kernel_rfl) (by kernel_rfl) sz53 (Nat.le_of_ble_eq_true rfl) (by kernel_rfl)) ?_
      refine XL_nil ?_
      kernel_rfl
    refine V_ret ?_
    obtain rfl := some_inj h
    show Post _ _ _ _ _
    exact ⟨.inr rfl, rfl, rfl, rfl⟩
  · have h := of_false h hc3
    refine V_skip ?_
    show V _ _ _ _
    refine V_seq ?_
    obtain ⟨y4, hy4, h⟩ := of_bind h
    refine V_sreg [false, false, true, false, false, false, false, false, false, false, false, true, false, false] [16] (s1 := ⟨[.bot, .bot, .pt 16 0, .bot, .bot, .bot, .bot, .bot, .bot, .bot, .bot, Bo y4, .bot, .bot], [(16, .box [Ti 0, Ti 0, Ti 0, Ti 0])]⟩) ?_ ?_
    · refine XL_cons rfl (X_of_Y0 rfl (E_loadn (cs := [Ti f1.1, Ti f1.2.1, Ti f1.2.2]) [Ti f1.1, Ti f1.2.1, Ti f1.2.2] wd33 rfl (by kernel_rfl) (Nat.le_of_ble_eq_true rfl) (by kernel_rfl))) ?_
      refine XL_cons rfl (X_of_Y1 rfl (Y1_call (s_spec_reIs hy4) cf_spec_reIs rfl (by kernel_rfl))) ?_
      refine XL_nil ?_
      kernel_rfl
    refine V_cond rfl (fun hc5 => ?_) (fun hc5 => ?_)
    · have h := of_true h hc5
      refine V_sreg [false, false, true, false, false, false, false, false, false, false, false, false, false, false] [16] (s1 := ⟨[.bot, .bot, .pt 16 0, .bot, .bot, .bot, .bot, .bot, .bot, .bot, .bot, .bot, .bot, .bot], [(16, .box [Ti 1, Ti 0, Ti 0, Ti 1])]⟩) ?_ ?_
      · refine XL_cons rfl (X_of_Y0 rfl (Y0_build (cs := [Ti 1, Ti 0, Ti 0, Ti 1]) pl53 bt53 rfl rfl (by kernel_rfl))) ?_
        refine XL_cons rfl (E_store (id := 16) (off := 0) (cs := [Ti 0, Ti 0, Ti 0, Ti 0]) (vc := [Ti 1, Ti 0, Ti 0, Ti 1]) [Ti 1, Ti 0, Ti 0, Ti 1] rfl rfl (by kernel_rfl) (by kernel_rfl) (by kernel_rfl) sz53 (Nat.le_of_ble_eq_true rfl) (by kernel_rfl)) ?_
        refine XL_nil ?_
        kernel_rfl
      refine V_ret ?_
      obtain rfl := some_inj h
      show Post _ _ _ _ _
      exact ⟨.inr rfl, rfl, rfl, rfl⟩
    · have h := of_false h hc5
      refine V_skip ?_
      show V _ _ _ _
      refine V_sreg [false, false, true, false, false, false, false, false, false, false, false, false, false, false] [16] (s1 := ⟨[.bot, .bot, .pt 16 0, .bot, .bot, .bot, .bot, .bot, .bot, .bot, .bot, .bot, .bot, .bot], [(16, .box [Ti 0, Ti (-1), Ti 1, Ti 0])]⟩) ?_ ?_
      · refine XL_cons rfl (X_of_Y0 rfl (Y0_build (cs := [Ti 0, Ti (-1), Ti 1, Ti 0]) pl53 bt53 rfl rfl (by kernel_rfl))) ?_
        refine XL_cons rfl (E_store (id := 16) (off := 0) (cs := [Ti 0, Ti 0, Ti 0, Ti 0]) (vc := [Ti 0, Ti (-1), Ti 1, Ti 0]) [Ti 0, Ti (-1), Ti 1, Ti 0] rfl rfl (by kernel_rfl) (by kernel_rfl) (by kernel_rfl) sz53 (Nat.le_of_ble_eq_true rfl) (by kernel_rfl)) ?_
        refine XL_nil ?_
        kernel_rfl
      refine V_ret ?_
      obtain rfl := some_inj h
      show Post _ _ _ _ _
      exact ⟨.inr rfl, rfl, rfl, rfl⟩
theorem cf_spec_foValue : ∀ args w, (callFunc 130 args).run Tryd.prog w = .ok (.enter 130 args) w := run_callFunc Tryd.func130 (by kernel_rfl) (by kernel_rfl)
set_option maxRecDepth 100000 in
set_option maxHeartbeats 400000 in
theorem s_spec_foValue {f1 : (Int × Int × Int)} {x2 : Int} {y3 : Int} {r : Int} (h : r_spec_foValue f1 x2 y3 = some r) : CallS Tryd.prog 130 [.ag [Ti f1.1, Ti f1.2.1, Ti f1.2.2], I x2, I y3] (I r) [] := by
  refine CallS_of_text (rs := [.t 6]) (vs := [.tmp 6]) Tryd.func130 rfl rfl (.cons rfl FitsL.nil) (by decide) 27 rfl ?_
  unfold r_spec_foValue at h
  show V _ _ ⟨[.ag [Ti f1.1, Ti f1.2.1, Ti f1.2.2], I x2, I y3, .bot, .bot, .bot, .bot, .bot, .bot, .bot, .bot, .bot, .bot, .bot, .bot, .bot, .bot, .bot, .bot, .bot, .bot, .bot, .bot, .bot, .bot, .bot, .bot], []⟩ _
  refine V_sreg [false, true, true, true, false, false, false, false, false, false, false, false, false, false, false, false, false, false, false, false, false, false, false, false, false, false, false] [24] (s1 := ⟨[.bot, I x2, I y3, .pt 24 0, .bot, .bot, .bot, .bot, .bot, .bot, .bot, .bot, .bot, .bot, .bot, .bot, .bot, .bot, .bot, .bot, .bot, .bot, .bot, .bot, .bot, .bot, .bot], [(24, .box [Ti f1.1, Ti f1.2.1, Ti f1.2.2])]⟩) ?_ ?_
  · refine XL_cons rfl (X_of_Y1 rfl (Y1_box (cs := [Ti f1.1, Ti f1.2.1, Ti f1.2.2]) rfl (by kernel_rfl))) ?_
    refine XL_cons rfl (X_of_Y0 rfl (E_assign (I 0) rfl (by kernel_rfl))) ?_
    refine XL_nil ?_
    kernel_rfl
  obtain ⟨t4, ht4, h⟩ := of_sI h
  refine V_sreg [false, false, false, false, false, false, true, false, false, false, false, false, false, false, false, false, false, false, false, false, false, false, false, false, false, false, false] [] (s1 := ⟨[.bot, .bot, .bot, .bot, .bot, .bot, I t4, .bot, .bot, .bot, .bot, .bot, .bot, .bot, .bot, .bot, .bot, .bot, .bot, .bot, .bot, .bot, .bot, .bot, .bot, .bot, .bot], []⟩) ?_ ?_
  · refine XL_cons rfl (X_of_Y0 rfl (E_field (.pt 24 0) Tryd.underlying33 rfl sz3 rfl (by kernel_rfl) (by intro hh; cases hh))) ?_
    refine XL_cons rfl (X_of_Y0 rfl (Y0_load1 (c := Ti f1.1) (cs := [Ti f1.2.1, Ti f1.2.2]) sc3 rfl (by kernel_rfl))) ?_
    refine XL_cons rfl (X_of_Y0 rfl (E_move (I x2) rfl (by kernel_rfl))) ?_
    refine XL_cons rfl (X_of_Y0 rfl (Y0_mul64 (a := f1.1) (b := x2) rfl (by kernel_rfl) (by kernel_rfl))) ?_
    refine XL_cons rfl (X_of_Y0 rfl (E_move (I x2) rfl (by kernel_rfl))) ?_
    refine XL_cons rfl (X_of_Y0 rfl (Y0_mul64 (a := w64 (f1.1 * x2)) (b := x2) rfl (by kernel_rfl) (by kernel_rfl))) ?_
    refine XL_cons rfl (X_of_Y0 rfl (E_field (.pt 24 1) Tryd.underlying33 rfl sz3 rfl (by kernel_rfl) (by intro hh; cases hh))) ?_
    refine XL_cons rfl (X_of_Y0 rfl (Y0_load1 (c := Ti f1.2.1) (cs := [Ti f1.2.2]) sc3 rfl (by kernel_rfl))) ?_
    refine XL_cons rfl (X_of_Y0 rfl (E_move (I x2) rfl (by kernel_rfl))) ?_
    refine XL_cons rfl (X_of_Y0 rfl (Y0_mul64 (a := f1.2.1) (b := x2) rfl (by kernel_rfl) (by kernel_rfl))) ?_
    refine XL_cons rfl (X_of_Y0 rfl (E_move (I y3) rfl (by kernel_rfl))) ?_
    refine XL_cons rfl (X_of_Y0 rfl (Y0_mul64 (a := w64 (f1.2.1 * x2)) (b := y3) rfl (by kernel_rfl) (by kernel_rfl))) ?_
    refine XL_cons rfl (X_of_Y0 rfl (Y0_add64 (a := w64 ((w64 (f1.1 * x2)) * x2)) (b := w64 ((w64 (f1.2.1 * x2)) * y3)) rfl (by kernel_rfl) (by kernel_rfl))) ?_
    refine XL_cons rfl (X_of_Y0 rfl (E_field (.pt 24 2) Tryd.underlying33 rfl sz3 rfl (by kernel_rfl) (by intro hh; cases hh))) ?_
    refine XL_cons rfl (X_of_Y0 rfl (Y0_load1 (c := Ti f1.2.2) (cs := []) sc3 rfl (by kernel_rfl))) ?_
    refine XL_cons rfl (X_of_Y0 rfl (E_move (I y3) rfl (by kernel_rfl))) ?_
    refine XL_cons rfl (X_of_Y0 rfl (Y0_mul64 (a := f1.2.2) (b := y3) rfl (by kernel_rfl) (by kernel_rfl))) ?_
    refine XL_cons rfl (X_of_Y0 rfl (E_move (I y3) rfl (by kernel_rfl))) ?_
    refine XL_cons rfl (X_of_Y0 rfl (Y0_mul64 (a := w64 (f1.2.2 * y3)) (b := y3) rfl (by kernel_rfl) (by kernel_rfl))) ?_
    refine XL_cons rfl (X_of_Y0 rfl (Y0_add64 (a := w64 ((w64 ((w64 (f1.1 * x2)) * x2)) + (w64 ((w64 (f1.2.1 * x2)) * y3)))) (b := w64 ((w64 (f1.2.2 * y3)) * y3)) rfl (by kernel_rfl) (by kernel_rfl))) ?_
    refine XL_cons rfl (X_of_Y0 rfl (E_assign (I (w64 ((w64 ((w64 ((w64 (f1.1 * x2)) * x2)) + (w64 ((w64 (f1.2.1 * x2)) * y3)))) + (w64 ((w64 (f1.2.2 * y3)) * y3))))) rfl (by kernel_rfl))) ?_
    refine XL_nil ?_
    subst ht4
    kernel_rfl
  refine V_ret ?_
  obtain rfl := some_inj h
  show Post _ _ _ _ _
  exact ⟨.inr rfl, rfl, rfl, rfl⟩
theorem cf_spec_foPolar : ∀ args w, (callFunc 131 args).run Tryd.prog w = .ok (.enter 131 args) w := run_callFunc Tryd.func131 (by kernel_rfl) (by kernel_rfl)
set_option maxRecDepth 100000 in
set_option maxHeartbeats 400000 in
theorem s_spec_foPolar {f1 : (Int × Int × Int)} {x2 : Int} {y3 : Int} {u4 : Int} {v5 : Int} {r : Int} (h : r_spec_foPolar f1 x2 y3 u4 v5 = some r) : CallS Tryd.prog 131 [.ag [Ti f1.1, Ti f1.2.1, Ti f1.2.2], I x2, I y3, I u4, I v5] (I r) [] := by
  refine CallS_of_text (rs := [.t 10]) (vs := [.tmp 10]) Tryd.func131 rfl rfl (.cons rfl FitsL.nil) (by decide) 37 rfl ?_
  unfold r_spec_foPolar at h
  show V _ _ ⟨[.ag [Ti f1.1, Ti f1.2.1, Ti f1.2.2], I x2, I y3, I u4, I v5, .bot, .bot, .bot, .bot, .bot, .bot, .bot, .bot, .bot, .bot, .bot, .bot, .bot, .bot, .bot, .bot, .bot, .bot, .bot, .bot, .bot, .bot, .bot, .bot, .bot, .bot, .bot, .bot, .bot, .bot, .bot, .bot], []⟩ _
  refine V_sreg [false, true, true, true, true, true, false, false, false, false, false, false, false, false, false, false, false, false, false, false, false, false, false, false, false, false, false, false, false, false, false, false, false, false, false, false, false] [40] (s1 := ⟨[.bot, I x2, I y3, I u4, I v5, .pt 40 0, .bot, .bot, .bot, .bot, .bot, .bot, .bot, .bot, .bot, .bot, .bot, .bot, .bot, .bot, .bot, .bot, .bot, .bot, .bot, .bot, .bot, .bot, .bot, .bot, .bot, .bot, .bot, .bot, .bot, .bot, .bot], [(40, .box [Ti f1.1, Ti f1.2.1, Ti f1.2.2])]⟩) ?_ ?_
  · refine XL_cons rfl (X_of_Y1 rfl (Y1_box (cs := [Ti f1.1, Ti f1.2.1, Ti f1.2.2]) rfl (by kernel_rfl))) ?_
    refine XL_cons rfl (X_of_Y0 rfl (E_assign (I 0) rfl (by kernel_rfl))) ?_
    refine XL_nil ?_
    kernel_rfl
  obtain ⟨t6, ht6, h⟩ := of_sI h
  refine V_sreg [false, false, false, false, false, false, false, false, false, false, true, false, false, false, false, false, false, false, false, false, false, false, false, false, false, false, false, false, false, false, false, false, false, false, false, false, false] [] (s1 := ⟨[.bot, .bot, .bot, .bot, .bot, .bot, .bot, .bot, .bot, .bot, I t6, .bot, .bot, .bot, .bot, .bot, .bot, .bot, .bot, .bot, .bot, .bot, .bot, .bot, .bot, .bot, .bot, .bot, .bot, .bot, .bot, .bot, .bot, .bot, .bot, .bot, .bot], []⟩) ?_ ?_
  · refine XL_cons rfl (X_of_Y0 rfl (E_field (.pt 40 0) Tryd.underlying33 rfl sz3 rfl (by kernel_rfl) (by intro hh; cases hh))) ?_
    refine XL_cons rfl (X_of_Y0 rfl (Y0_load1 (c := Ti f1.1) (cs := [Ti f1.2.1, Ti f1.2.2]) sc3 rfl (by kernel_rfl))) ?_
    refine XL_cons rfl (X_of_Y0 rfl (Y0_mul64 (a := 2) (b := f1.1) rfl (by kernel_rfl) (by kernel_rfl))) ?_
    refine XL_cons rfl (X_of_Y0 rfl (E_move (I x2) rfl (by kernel_rfl))) ?_
    refine XL_cons rfl (X_of_Y0 rfl (Y0_mul64 (a := w64 (2 * f1.1)) (b := x2) rfl (by kernel_rfl) (by kernel_rfl))) ?_
    refine XL_cons rfl (X_of_Y0 rfl (E_move (I u4) rfl (by kernel_rfl))) ?_
    refine XL_cons rfl (X_of_Y0 rfl (Y0_mul64 (a := w64 ((w64 (2 * f1.1)) * x2)) (b := u4) rfl (by kernel_rfl) (by kernel_rfl))) ?_
    refine XL_cons rfl (X_of_Y0 rfl (E_field (.pt 40 1) Tryd.underlying33 rfl sz3 rfl (by kernel_rfl) (by intro hh; cases hh))) ?_
    refine XL_cons rfl (X_of_Y0 rfl (Y0_load1 (c := Ti f1.2.1) (cs := [Ti f1.2.2]) sc3 rfl (by kernel_rfl))) ?_
    refine XL_cons rfl (X_of_Y0 rfl (E_move (I x2) rfl (by kernel_rfl))) ?_
    refine XL_cons rfl (X_of_Y0 rfl (E_move (I v5) rfl (by kernel_rfl))) ?_
    refine XL_cons rfl (X_of_Y0 rfl (Y0_mul64 (a := x2) (b := v5) rfl (by kernel_rfl) (by kernel_rfl))) ?_
    refine XL_cons rfl (X_of_Y0 rfl (E_move (I y3) rfl (by kernel_rfl))) ?_
    refine XL_cons rfl (X_of_Y0 rfl (E_move (I u4) rfl (by kernel_rfl))) ?_
    refine XL_cons rfl (X_of_Y0 rfl (Y0_mul64 (a := y3) (b := u4) rfl (by kernel_rfl) (by kernel_rfl))) ?_
    refine XL_cons rfl (X_of_Y0 rfl (Y0_add64 (a := w64 (x2 * v5)) (b := w64 (y3 * u4)) rfl (by kernel_rfl) (by kernel_rfl))) ?_
    refine XL_cons rfl (X_of_Y0 rfl (Y0_mul64 (a := f1.2.1) (b := w64 ((w64 (x2 * v5)) + (w64 (y3 * u4)))) rfl (by kernel_rfl) (by kernel_rfl))) ?_
    refine XL_cons rfl (X_of_Y0 rfl (Y0_add64 (a := w64 ((w64 ((w64 (2 * f1.1)) * x2)) * u4)) (b := w64 (f1.2.1 * (w64 ((w64 (x2 * v5)) + (w64 (y3 * u4)))))) rfl (by kernel_rfl) (by kernel_rfl))) ?_
    refine XL_cons rfl (X_of_Y0 rfl (E_field (.pt 40 2) Tryd.underlying33 rfl sz3 rfl (by kernel_rfl) (by intro hh; cases hh))) ?_
    refine XL_cons rfl (X_of_Y0 rfl (Y0_load1 (c := Ti f1.2.2) (cs := []) sc3 rfl (by kernel_rfl))) ?_
    refine XL_cons rfl (X_of_Y0 rfl (Y0_mul64 (a := 2) (b := f1.2.2) rfl (by kernel_rfl) (by kernel_rfl))) ?_
    refine XL_cons rfl (X_of_Y0 rfl (E_move (I y3) rfl (by kernel_rfl))) ?_
    refine XL_cons rfl (X_of_Y0 rfl (Y0_mul64 (a := w64 (2 * f1.2.2)) (b := y3) rfl (by kernel_rfl) (by kernel_rfl))) ?_
    refine XL_cons rfl (X_of_Y0 rfl (E_move (I v5) rfl (by kernel_rfl))) ?_
    refine XL_cons rfl (X_of_Y0 rfl (Y0_mul64 (a := w64 ((w64 (2 * f1.2.2)) * y3)) (b := v5) rfl (by kernel_rfl) (by kernel_rfl))) ?_
    refine XL_cons rfl (X_of_Y0 rfl (Y0_add64 (a := w64 ((w64 ((w64 ((w64 (2 * f1.1)) * x2)) * u4)) + (w64 (f1.2.1 * (w64 ((w64 (x2 * v5)) + (w64 (y3 * u4)))))))) (b := w64 ((w64 ((w64 (2 * f1.2.2)) * y3)) * v5)) rfl (by kernel_rfl) (by kernel_rfl))) ?_
    refine XL_cons rfl (X_of_Y0 rfl (E_assign (I (w64 ((w64 ((w64 ((w64 ((w64 (2 * f1.1)) * x2)) * u4)) + (w64 (f1.2.1 * (w64 ((w64 (x2 * v5)) + (w64 (y3 * u4)))))))) + (w64 ((w64 ((w64 (2 * f1.2.2)) * y3)) * v5))))) rfl (by kernel_rfl))) ?_
    refine XL_nil ?_
    subst ht6
    kernel_rfl
  refine V_ret ?_
  obtain rfl := some_inj h
  show Post _ _ _ _ _
  exact ⟨.inr rfl, rfl, rfl, rfl⟩
theorem cf_spec_foAct : ∀ args w, (callFunc 84 args).run Tryd.prog w = .ok (.enter 84 args) w := run_callFunc Tryd.func84 (by kernel_rfl) (by kernel_rfl)
set_option maxRecDepth 100000 in
set_option maxHeartbeats 400000 in
theorem s_spec_foAct {f1 : (Int × Int × Int)} {vm2 : (Int × Int × Int × Int)} {r : (Int × Int × Int)} (h : r_spec_foAct f1 vm2 = some r) : CallS Tryd.prog 84 [.ag [Ti f1.1, Ti f1.2.1, Ti f1.2.2], .ag [Ti vm2.1, Ti vm2.2.1, Ti vm2.2.2.1, Ti vm2.2.2.2]] (.ag [Ti r.1, Ti r.2.1, Ti r.2.2]) [] := by
  refine CallS_of_text (rs := [.w 4 3]) (vs := [.cell 4 33]) Tryd.func84 rfl rfl (.cons ⟨rfl, wd33⟩ FitsL.nil) (by decide) 28 rfl ?_
  unfold r_spec_foAct at h
  show V _ _ ⟨[.ag [Ti f1.1, Ti f1.2.1, Ti f1.2.2], .ag [Ti vm2.1, Ti vm2.2.1, Ti vm2.2.2.1, Ti vm2.2.2.2], .bot, .bot, .bot, .bot, .bot, .bot, .bot, .bot, .bot, .bot, .bot, .bot, .bot, .bot, .bot, .bot, .bot, .bot, .bot, .bot, .bot, .bot, .bot, .bot, .bot, .bot], []⟩ _
  refine V_sreg [false, false, true, true, true, false, false, false, false, false, false, false, false, false, false, false, false, false, false, false, false, false, false, false, false, false, false, false] [32, 24, 16] (s1 := ⟨[.bot, .bot, .pt 16 0, .pt 24 0, .pt 32 0, .bot, .bot, .bot, .bot, .bot, .bot, .bot, .bot, .bot, .bot, .bot, .bot, .bot, .bot, .bot, .bot, .bot, .bot, .bot, .bot, .bot, .bot, .bot], [(32, .box [Ti 0, Ti 0, Ti 0]), (24, .box [Ti vm2.1, Ti vm2.2.1, Ti vm2.2.2.1, Ti vm2.2.2.2]), (16, .box [Ti f1.1, Ti f1.2.1, Ti f1.2.2])]⟩) ?_ ?_
  · refine XL_cons rfl (X_of_Y1 rfl (Y1_box (cs := [Ti f1.1, Ti f1.2.1, Ti f1.2.2]) rfl (by kernel_rfl))) ?_
    refine XL_cons rfl (X_of_Y1 rfl (Y1_box (cs := [Ti vm2.1, Ti vm2.2.1, Ti vm2.2.2.1, Ti vm2.2.2.2]) rfl (by kernel_rfl))) ?_
    refine XL_cons rfl (X_of_Y1 rfl (Y1_alloc (z := zv33) rfl zf33 rfl)) ?_
    refine XL_nil ?_
    kernel_rfl
  obtain ⟨y3, hy3, h⟩ := of_bind h
  obtain ⟨y4, hy4, h⟩ := of_bind h
  obtain ⟨y5, hy5, h⟩ := of_bind h
  refine V_sdreg [0, 0, 2, 0, 8, 31, 0, 0, 128, 0, 512, 0, 2048, 0, 8192, 32767, 0, 0, 131072, 0, 524288, 2097151, 4194303, 8388607] 23 [[.z, .b, .b, .b, .b, .z, .b, .b, .b, .b, .b, .b, .b, .b, .b, .z, .b, .b, .b, .b, .b, .z, .z], [.b, .z, .z, .b, .b, .z, .b, .b, .b, .b, .b, .b, .b, .b, .b, .z, .b, .b, .b, .b, .b, .z, .z], [.b, .a, .z, .b, .b, .z, .b, .b, .b, .b, .b, .b, .b, .b, .b, .z, .b, .b, .b, .b, .b, .z, .z], [.b, .b, .b, .z, .z, .z, .b, .b, .b, .b, .b, .b, .b, .b, .b, .z, .b, .b, .b, .b, .b, .z, .z], [.b, .b, .b, .a, .z, .z, .b, .b, .b, .b, .b, .b, .b, .b, .b, .z, .b, .b, .b, .b, .b, .z, .z], [.a, .a, .a, .a, .a, .z, .b, .b, .b, .b, .b, .b, .b, .b, .b, .z, .b, .b, .b, .b, .b, .z, .z], [.b, .b, .b, .b, .b, .b, .z, .b, .b, .b, .b, .b, .b, .b, .b, .z, .b, .b, .b, .b, .b, .z, .z], [.b, .b, .b, .b, .b, .b, .b, .z, .z, .b, .b, .b, .b, .b, .b, .z, .b, .b, .b, .b, .b, .z, .z], [.b, .b, .b, .b, .b, .b, .b, .a, .z, .b, .b, .b, .b, .b, .b, .z, .b, .b, .b, .b, .b, .z, .z], [.b, .b, .b, .b, .b, .b, .b, .b, .b, .z, .z, .b, .b, .b, .b, .z, .b, .b, .b, .b, .b, .z, .z], [.b, .b, .b, .b, .b, .b, .b, .b, .b, .a, .z, .b, .b, .b, .b, .z, .b, .b, .b, .b, .b, .z, .z], [.b, .b, .b, .b, .b, .b, .b, .b, .b, .b, .b, .z, .z, .b, .b, .z, .b, .b, .b, .b, .b, .z, .z], [.b, .b, .b, .b, .b, .b, .b, .b, .b, .b, .b, .a, .z, .b, .b, .z, .b, .b, .b, .b, .b, .z, .z], [.b, .b, .b, .b, .b, .b, .b, .b, .b, .b, .b, .b, .b, .z, .z, .z, .b, .b, .b, .b, .b, .z, .z], [.b, .b, .b, .b, .b, .b, .b, .b, .b, .b, .b, .b, .b, .a, .z, .z, .b, .b, .b, .b, .b, .z, .z], [.a, .a, .a, .a, .a, .a, .a, .a, .a, .a, .a, .a, .a, .a, .a, .z, .b, .b, .b, .b, .b, .z, .z], [.b, .b, .b, .b, .b, .b, .b, .b, .b, .b, .b, .b, .b, .b, .b, .b, .z, .b, .b, .b, .b, .z, .z], [.b, .b, .b, .b, .b, .b, .b, .b, .b, .b, .b, .b, .b, .b, .b, .b, .b, .z, .z, .b, .b, .z, .z], [.b, .b, .b, .b, .b, .b, .b, .b, .b, .b, .b, .b, .b, .b, .b, .b, .b, .a, .z, .b, .b, .z, .z], [.b, .b, .b, .b, .b, .b, .b, .b, .b, .b, .b, .b, .b, .b, .b, .b, .b, .b, .b, .z, .z, .z, .z], [.b, .b, .b, .b, .b, .b, .b, .b, .b, .b, .b, .b, .b, .b, .b, .b, .b, .b, .b, .a, .z, .z, .z], [.a, .a, .a, .a, .a, .a, .a, .a, .a, .a, .a, .a, .a, .a, .a, .a, .a, .a, .a, .a, .a, .z, .z], [.a, .a, .a, .a, .a, .a, .a, .a, .a, .a, .a, .a, .a, .a, .a, .a, .a, .a, .a, .a, .a, .a, .z]] [false, false, false, false, true, false, false, false, false, false, false, false, false, false, false, false, false, false, false, false, false, false, false, false, false, false, false, false] [32] (s1 := ⟨[.bot, .bot, .bot, .bot, .pt 32 0, .bot, .bot, .bot, .bot, .bot, .bot, .bot, .bot, .bot, .bot, .bot, .bot, .bot, .bot, .bot, .bot, .bot, .bot, .bot, .bot, .bot, .bot, .bot], [(32, .box [Ti y3, Ti y4, Ti y5])]⟩) (by kernel_rfl) (by kernel_rfl) ?_ ?_
  · refine DE_0 0 (.ag [Ti f1.1, Ti f1.2.1, Ti f1.2.2]) (by kernel_rfl) rfl rfl rfl (gsat_none rfl) (by kernel_rfl) (E_loadn (cs := [Ti f1.1, Ti f1.2.1, Ti f1.2.2]) [Ti f1.1, Ti f1.2.1, Ti f1.2.2] wd33 rfl (by kernel_rfl) (Nat.le_of_ble_eq_true rfl) (by kernel_rfl)) 5 rfl ?_
    refine DE_0 1 (.pt 24 0) (by kernel_rfl) rfl rfl rfl (gsat_none rfl) (by kernel_rfl) (E_field (.pt 24 0) Tryd.underlying53 rfl sz3 rfl (by kernel_rfl) (by intro hh; cases hh)) 6 rfl ?_
    refine DE_0 2 (I vm2.1) (by kernel_rfl) rfl rfl rfl (gsat_none rfl) (by kernel_rfl) (Y0_load1 (c := Ti vm2.1) (cs := [Ti vm2.2.1, Ti vm2.2.2.1, Ti vm2.2.2.2]) sc3 rfl (by kernel_rfl)) 7 rfl ?_
    refine DE_0 3 (.pt 24 2) (by kernel_rfl) rfl rfl rfl (gsat_none rfl) (by kernel_rfl) (E_field (.pt 24 2) Tryd.underlying53 rfl sz3 rfl (by kernel_rfl) (by intro hh; cases hh)) 8 rfl ?_
    refine DE_0 4 (I vm2.2.2.1) (by kernel_rfl) rfl rfl rfl (gsat_none rfl) (by kernel_rfl) (Y0_load1 (c := Ti vm2.2.2.1) (cs := [Ti vm2.2.2.2]) sc3 rfl (by kernel_rfl)) 9 rfl ?_
    refine DE_1 5 (by kernel_rfl) rfl rfl rfl (gsat_none rfl) (Y1_call (s_spec_foValue hy3) cf_spec_foValue rfl (by kernel_rfl)) rfl rfl rfl 10 rfl ?_
    refine DE_0 6 (.ag [Ti f1.1, Ti f1.2.1, Ti f1.2.2]) (by kernel_rfl) rfl rfl rfl (gsat_none rfl) (by kernel_rfl) (E_loadn (cs := [Ti f1.1, Ti f1.2.1, Ti f1.2.2]) [Ti f1.1, Ti f1.2.1, Ti f1.2.2] wd33 rfl (by kernel_rfl) (Nat.le_of_ble_eq_true rfl) (by kernel_rfl)) 11 rfl ?_
    refine DE_0 7 (.pt 24 0) (by kernel_rfl) rfl rfl rfl (gsat_none rfl) (by kernel_rfl) (E_field (.pt 24 0) Tryd.underlying53 rfl sz3 rfl (by kernel_rfl) (by intro hh; cases hh)) 12 rfl ?_
    refine DE_0 8 (I vm2.1) (by kernel_rfl) rfl rfl rfl (gsat_none rfl) (by kernel_rfl) (Y0_load1 (c := Ti vm2.1) (cs := [Ti vm2.2.1, Ti vm2.2.2.1, Ti vm2.2.2.2]) sc3 rfl (by kernel_rfl)) 13 rfl ?_
    refine DE_0 9 (.pt 24 2) (by kernel_rfl) rfl rfl rfl (gsat_none rfl) (by kernel_rfl) (E_field (.pt 24 2) Tryd.underlying53 rfl sz3 rfl (by kernel_rfl) (by intro hh; cases hh)) 14 rfl ?_
    refine DE_0 10 (I vm2.2.2.1) (by kernel_rfl) rfl rfl rfl (gsat_none rfl) (by kernel_rfl) (Y0_load1 (c := Ti vm2.2.2.1) (cs := [Ti vm2.2.2.2]) sc3 rfl (by kernel_rfl)) 15 rfl ?_
    refine DE_0 11 (.pt 24 1) (by kernel_rfl) rfl rfl rfl (gsat_none rfl) (by kernel_rfl) (E_field (.pt 24 1) Tryd.underlying53 rfl sz3 rfl (by kernel_rfl) (by intro hh; cases hh)) 16 rfl ?_
    refine DE_0 12 (I vm2.2.1) (by kernel_rfl) rfl rfl rfl (gsat_none rfl) (by kernel_rfl) (Y0_load1 (c := Ti vm2.2.1) (cs := [Ti vm2.2.2.1, Ti vm2.2.2.2]) sc3 rfl (by kernel_rfl)) 17 rfl ?_
    refine DE_0 13 (.pt 24 3) (by kernel_rfl) rfl rfl rfl (gsat_none rfl) (by kernel_rfl) (E_field (.pt 24 3) Tryd.underlying53 rfl sz3 rfl (by kernel_rfl) (by intro hh; cases hh)) 18 rfl ?_
    refine DE_0 14 (I vm2.2.2.2) (by kernel_rfl) rfl rfl rfl (gsat_none rfl) (by kernel_rfl) (Y0_load1 (c := Ti vm2.2.2.2) (cs := []) sc3 rfl (by kernel_rfl)) 19 rfl ?_
    refine DE_1 15 (by kernel_rfl) rfl rfl rfl (gsat_none rfl) (Y1_call (s_spec_foPolar hy4) cf_spec_foPolar rfl (by kernel_rfl)) rfl rfl rfl 20 rfl ?_
    refine DE_0 16 (.ag [Ti f1.1, Ti f1.2.1, Ti f1.2.2]) (by kernel_rfl) rfl rfl rfl (gsat_none rfl) (by kernel_rfl) (E_loadn (cs := [Ti f1.1, Ti f1.2.1, Ti f1.2.2]) [Ti f1.1, Ti f1.2.1, Ti f1.2.2] wd33 rfl (by kernel_rfl) (Nat.le_of_ble_eq_true rfl) (by kernel_rfl)) 21 rfl ?_
    refine DE_0 17 (.pt 24 1) (by kernel_rfl) rfl rfl rfl (gsat_none rfl) (by kernel_rfl) (E_field (.pt 24 1) Tryd.underlying53 rfl sz3 rfl (by kernel_rfl) (by intro hh; cases hh)) 22 rfl ?_
    refine DE_0 18 (I vm2.2.1) (by kernel_rfl) rfl rfl rfl (gsat_none rfl) (by kernel_rfl) (Y0_load1 (c := Ti vm2.2.1) (cs := [Ti vm2.2.2.1, Ti vm2.2.2.2]) sc3 rfl (by kernel_rfl)) 23 rfl ?_
    refine DE_0 19 (.pt 24 3) (by kernel_rfl) rfl rfl rfl (gsat_none rfl) (by kernel_rfl) (E_field (.pt 24 3) Tryd.underlying53 rfl sz3 rfl (by kernel_rfl) (by intro hh; cases hh)) 24 rfl ?_
    refine DE_0 20 (I vm2.2.2.2) (by kernel_rfl) rfl rfl rfl (gsat_none rfl) (by kernel_rfl) (Y0_load1 (c := Ti vm2.2.2.2) (cs := []) sc3 rfl (by kernel_rfl)) 25 rfl ?_
    refine DE_1 21 (by kernel_rfl) rfl rfl rfl (gsat_none rfl) (Y1_call (s_spec_foValue hy5) cf_spec_foValue rfl (by kernel_rfl)) rfl rfl rfl 26 rfl ?_
    refine DE_0 22 (.ag [Ti y3, Ti y4, Ti y5]) (by kernel_rfl) rfl rfl rfl (gsat_none rfl) (by kernel_rfl) (Y0_build (cs := [Ti y3, Ti y4, Ti y5]) pl33 bt33 rfl rfl (by kernel_rfl)) 27 rfl ?_
    refine DL_nil (by kernel_rfl) ?_
    refine XL_cons rfl (E_store (id := 32) (off := 0) (cs := [Ti 0, Ti 0, Ti 0]) (vc := [Ti y3, Ti y4, Ti y5]) [Ti y3, Ti y4, Ti y5] rfl rfl (by kernel_rfl) (by kernel_rfl) (by kernel_rfl) sz33 (Nat.le_of_ble_eq_true rfl) (by kernel_rfl)) ?_
    refine XL_nil ?_
    kernel_rfl
  refine V_ret ?_
  obtain rfl := some_inj h
  show Post _ _ _ _ _
  exact ⟨.inr rfl, rfl, rfl, rfl⟩
theorem cf_spec_foMul : ∀ args w, (callFunc 85 args).run Tryd.prog w = .ok (.enter 85 args) w := run_callFunc Tryd.func85 (by kernel_rfl) (by kernel_rfl)
set_option maxRecDepth 100000 in
set_option maxHeartbeats 400000 in
theorem s_spec_foMul {vm1 : (Int × Int × Int × Int)} {vn2 : (Int × Int × Int × Int)} {r : (Int × Int × Int × Int)} (h : r_spec_foMul vm1 vn2 = some r) : CallS Tryd.prog 85 [.ag [Ti vm1.1, Ti vm1.2.1, Ti vm1.2.2.1, Ti vm1.2.2.2], .ag [Ti vn2.1, Ti vn2.2.1, Ti vn2.2.2.1, Ti vn2.2.2.2]] (.ag [Ti r.1, Ti r.2.1, Ti r.2.2.1, Ti r.2.2.2]) [] := by
  refine CallS_of_text (rs := [.w 4 4]) (vs := [.cell 4 53]) Tryd.func85 rfl rfl (.cons ⟨rfl, wd53⟩ FitsL.nil) (by decide) 50 rfl ?_
  unfold r_spec_foMul at h
  show V _ _ ⟨[.ag [Ti vm1.1, Ti vm1.2.1, Ti vm1.2.2.1, Ti vm1.2.2.2], .ag [Ti vn2.1, Ti vn2.2.1, Ti vn2.2.2.1, Ti vn2.2.2.2], .bot, .bot, .bot, .bot, .bot, .bot, .bot, .bot, .bot, .bot, .bot, .bot, .bot, .bot, .bot, .bot, .bot, .bot, .bot, .bot, .bot, .bot, .bot, .bot, .bot, .bot, .bot, .bot, .bot, .bot, .bot, .bot, .bot, .bot, .bot, .bot, .bot, .bot, .bot, .bot, .bot, .bot, .bot, .bot, .bot, .bot, .bot, .bot], []⟩ _
  refine V_sreg [false, false, true, true, true, false, false, false, false, false, false, false, false, false, false, false, false, false, false, false, false, false, false, false, false, false, false, false, false, false, false, false, false, false, false, false, false, false, false, false, false, false, false, false, false, false, false, false, false, false] [32, 24, 16] (s1 := ⟨[.bot, .bot, .pt 16 0, .pt 24 0, .pt 32 0, .bot, .bot, .bot, .bot, .bot, .bot, .bot, .bot, .bot, .bot, .bot, .bot, .bot, .bot, .bot, .bot, .bot, .bot, .bot, .bot, .bot, .bot, .bot, .bot, .bot, .bot, .bot, .bot, .bot, .bot, .bot, .bot, .bot, .bot, .bot, .bot, .bot, .bot, .bot, .bot, .bot, .bot, .bot, .bot, .bot], [(32, .box [Ti 0, Ti 0, Ti 0, Ti 0]), (24, .box [Ti vn2.1, Ti vn2.2.1, Ti vn2.2.2.1, Ti vn2.2.2.2]), (16, .box [Ti vm1.1, Ti vm1.2.1, Ti vm1.2.2.1, Ti vm1.2.2.2])]⟩) ?_ ?_
  · refine XL_cons rfl (X_of_Y1 rfl (Y1_box (cs := [Ti vm1.1, Ti vm1.2.1, Ti vm1.2.2.1, Ti vm1.2.2.2]) rfl (by kernel_rfl))) ?_
    refine XL_cons rfl (X_of_Y1 rfl (Y1_box (cs := [Ti vn2.1, Ti vn2.2.1, Ti vn2.2.2.1, Ti vn2.2.2.2]) rfl (by kernel_rfl))) ?_
    refine XL_cons rfl (X_of_Y1 rfl (Y1_alloc (z := zv53) rfl zf53 rfl)) ?_
    refine XL_nil ?_
    kernel_rfl
  obtain ⟨f3, hf3, h⟩ := of_sI h
  obtain ⟨f4, hf4, h⟩ := of_sI h
  obtain ⟨f5, hf5, h⟩ := of_sI h
  obtain ⟨f6, hf6, h⟩ := of_sI h
  refine V_sreg [false, false, false, false, true, false, false, false, false, false, false, false, false, false, false, false, false, false, false, false, false, false, false, false, false, false, false, false, false, false, false, false, false, false, false, false, false, false, false, false, false, false, false, false, false, false, false, false, false, false] [32] (s1 := ⟨[.bot, .bot, .bot, .bot, .pt 32 0, .bot, .bot, .bot, .bot, .bot, .bot, .bot, .bot, .bot, .bot, .bot, .bot, .bot, .bot, .bot, .bot, .bot, .bot, .bot, .bot, .bot, .bot, .bot, .bot, .bot, .bot, .bot, .bot, .bot, .bot, .bot, .bot, .bot, .bot, .bot, .bot, .bot, .bot, .bot, .bot, .bot, .bot, .bot, .bot, .bot], [(32, .box [Ti f3, Ti f4, Ti f5, Ti f6])]⟩) ?_ ?_
  · refine XL_cons rfl (X_of_Y0 rfl (E_field (.pt 16 0) Tryd.underlying53 rfl sz3 rfl (by kernel_rfl) (by intro hh; cases hh))) ?_
    refine XL_cons rfl (X_of_Y0 rfl (Y0_load1 (c := Ti vm1.1) (cs := [Ti vm1.2.1, Ti vm1.2.2.1, Ti vm1.2.2.2]) sc3 rfl (by kernel_rfl))) ?_
    refine XL_cons rfl (X_of_Y0 rfl (E_field (.pt 24 0) Tryd.underlying53 rfl sz3 rfl (by kernel_rfl) (by intro hh; cases hh))) ?_
    refine XL_cons rfl (X_of_Y0 rfl (Y0_load1 (c := Ti vn2.1) (cs := [Ti vn2.2.1, Ti vn2.2.2.1, Ti vn2.2.2.2]) sc3 rfl (by kernel_rfl))) ?_
    refine XL_cons rfl (X_of_Y0 rfl (Y0_mul64 (a := vm1.1) (b := vn2.1) rfl (by kernel_rfl) (by kernel_rfl))) ?_
    refine XL_cons rfl (X_of_Y0 rfl (E_field (.pt 16 1) Tryd.underlying53 rfl sz3 rfl (by kernel_rfl) (by intro hh; cases hh))) ?_
    refine XL_cons rfl (X_of_Y0 rfl (Y0_load1 (c := Ti vm1.2.1) (cs := [Ti vm1.2.2.1, Ti vm1.2.2.2]) sc3 rfl (by kernel_rfl))) ?_
    refine XL_cons rfl (X_of_Y0 rfl (E_field (.pt 24 2) Tryd.underlying53 rfl sz3 rfl (by kernel_rfl) (by intro hh; cases hh))) ?_
    refine XL_cons rfl (X_of_Y0 rfl (Y0_load1 (c := Ti vn2.2.2.1) (cs := [Ti vn2.2.2.2]) sc3 rfl (by kernel_rfl))) ?_
    refine XL_cons rfl (X_of_Y0 rfl (Y0_mul64 (a := vm1.2.1) (b := vn2.2.2.1) rfl (by kernel_rfl) (by kernel_rfl))) ?_
    refine XL_cons rfl (X_of_Y0 rfl (Y0_add64 (a := w64 (vm1.1 * vn2.1)) (b := w64 (vm1.2.1 * vn2.2.2.1)) rfl (by kernel_rfl) (by kernel_rfl))) ?_
    refine XL_cons rfl (X_of_Y0 rfl (E_field (.pt 16 0) Tryd.underlying53 rfl sz3 rfl (by kernel_rfl) (by intro hh; cases hh))) ?_
    refine XL_cons rfl (X_of_Y0 rfl (Y0_load1 (c := Ti vm1.1) (cs := [Ti vm1.2.1, Ti vm1.2.2.1, Ti vm1.2.2.2]) sc3 rfl (by kernel_rfl))) ?_
    refine XL_cons rfl (X_of_Y0 rfl (E_field (.pt 24 1) Tryd.underlying53 rfl sz3 rfl (by kernel_rfl) (by intro hh; cases hh))) ?_
    refine XL_cons rfl (X_of_Y0 rfl (Y0_load1 (c := Ti vn2.2.1) (cs := [Ti vn2.2.2.1, Ti vn2.2.2.2]) sc3 rfl (by kernel_rfl))) ?_
    refine XL_cons rfl (X_of_Y0 rfl (Y0_mul64 (a := vm1.1) (b := vn2.2.1) rfl (by kernel_rfl) (by kernel_rfl))) ?_
    refine XL_cons rfl (X_of_Y0 rfl (E_field (.pt 16 1) Tryd.underlying53 rfl sz3 rfl (by kernel_rfl) (by intro hh; cases hh))) ?_
    refine XL_cons rfl (X_of_Y0 rfl (Y0_load1 (c := Ti vm1.2.1) (cs := [Ti vm1.2.2.1, Ti vm1.2.2.2]) sc3 rfl (by kernel_rfl))) ?_
    refine XL_cons rfl (X_of_Y0 rfl (E_field (.pt 24 3) Tryd.underlying53 rfl sz3 rfl (by kernel_rfl) (by intro hh; cases hh))) ?_
    refine XL_cons rfl (X_of_Y0 rfl (Y0_load1 (c := Ti vn2.2.2.2) (cs := []) sc3 rfl (by kernel_rfl))) ?_
    refine XL_cons rfl (X_of_Y0 rfl (Y0_mul64 (a := vm1.2.1) (b := vn2.2.2.2) rfl (by kernel_rfl) (by kernel_rfl))) ?_
    refine XL_cons rfl (X_of_Y0 rfl (Y0_add64 (a := w64 (vm1.1 * vn2.2.1)) (b := w64 (vm1.2.1 * vn2.2.2.2)) rfl (by kernel_rfl) (by kernel_rfl))) ?_
    refine XL_cons rfl (X_of_Y0 rfl (E_field (.pt 16 2) Tryd.underlying53 rfl sz3 rfl (by kernel_rfl) (by intro hh; cases hh))) ?_
    refine XL_cons rfl (X_of_Y0 rfl (Y0_load1 (c := Ti vm1.2.2.1) (cs := [Ti vm1.2.2.2]) sc3 rfl (by kernel_rfl))) ?_
    refine XL_cons rfl (X_of_Y0 rfl (E_field (.pt 24 0) Tryd.underlying53 rfl sz3 rfl (by kernel_rfl) (by intro hh; cases hh))) ?_
    refine XL_cons rfl (X_of_Y0 rfl (Y0_load1 (c := Ti vn2.1) (cs := [Ti vn2.2.1, Ti vn2.2.2.1, Ti vn2.2.2.2]) sc3 rfl (by kernel_rfl))) ?_
    refine XL_cons rfl (X_of_Y0 rfl (Y0_mul64 (a := vm1.2.2.1) (b := vn2.1) rfl (by kernel_rfl) (by kernel_rfl))) ?_
    refine XL_cons rfl (X_of_Y0 rfl (E_field (.pt 16 3) Tryd.underlying53 rfl sz3 rfl (by kernel_rfl) (by intro hh; cases hh))) ?_
    refine XL_cons rfl (X_of_Y0 rfl (Y0_load1 (c := Ti vm1.2.2.2) (cs := []) sc3 rfl (by kernel_rfl))) ?_
    refine XL_cons rfl (X_of_Y0 rfl (E_field (.pt 24 2) Tryd.underlying53 rfl sz3 rfl (by kernel_rfl) (by intro hh; cases hh))) ?_
    refine XL_cons rfl (X_of_Y0 rfl (Y0_load1 (c := Ti vn2.2.2.1) (cs := [Ti vn2.2.2.2]) sc3 rfl (by kernel_rfl))) ?_
    refine XL_cons rfl (X_of_Y0 rfl (Y0_mul64 (a := vm1.2.2.2) (b := vn2.2.2.1) rfl (by kernel_rfl) (by kernel_rfl))) ?_
    refine XL_cons rfl (X_of_Y0 rfl (Y0_add64 (a := w64 (vm1.2.2.1 * vn2.1)) (b := w64 (vm1.2.2.2 * vn2.2.2.1)) rfl (by kernel_rfl) (by kernel_rfl))) ?_
    refine XL_cons rfl (X_of_Y0 rfl (E_field (.pt 16 2) Tryd.underlying53 rfl sz3 rfl (by kernel_rfl) (by intro hh; cases hh))) ?_
    refine XL_cons rfl (X_of_Y0 rfl (Y0_load1 (c := Ti vm1.2.2.1) (cs := [Ti vm1.2.2.2]) sc3 rfl (by kernel_rfl))) ?_
    refine XL_cons rfl (X_of_Y0 rfl (E_field (.pt 24 1) Tryd.underlying53 rfl sz3 rfl (by kernel_rfl) (by intro hh; cases hh))) ?_
    refine XL_cons rfl (X_of_Y0 rfl (Y0_load1 (c := Ti vn2.2.1) (cs := [Ti vn2.2.2.1, Ti vn2.2.2.2]) sc3 rfl (by kernel_rfl))) ?_
    refine XL_cons rfl (X_of_Y0 rfl (Y0_mul64 (a := vm1.2.2.1) (b := vn2.2.1) rfl (by kernel_rfl) (by kernel_rfl))) ?_
    refine XL_cons rfl (X_of_Y0 rfl (E_field (.pt 16 3) Tryd.underlying53 rfl sz3 rfl (by kernel_rfl) (by intro hh; cases hh))) ?_
    refine XL_cons rfl (X_of_Y0 rfl (Y0_load1 (c := Ti vm1.2.2.2) (cs := []) sc3 rfl (by kernel_rfl))) ?_
    refine XL_cons rfl (X_of_Y0 rfl (E_field (.pt 24 3) Tryd.underlying53 rfl sz3 rfl (by kernel_rfl) (by intro hh; cases hh))) ?_
    refine XL_cons rfl (X_of_Y0 rfl (Y0_load1 (c := Ti vn2.2.2.2) (cs := []) sc3 rfl (by kernel_rfl))) ?_
    refine XL_cons rfl (X_of_Y0 rfl (Y0_mul64 (a := vm1.2.2.2) (b := vn2.2.2.2) rfl (by kernel_rfl) (by kernel_rfl))) ?_
    refine XL_cons rfl (X_of_Y0 rfl (Y0_add64 (a := w64 (vm1.2.2.1 * vn2.2.1)) (b := w64 (vm1.2.2.2 * vn2.2.2.2)) rfl (by kernel_rfl) (by kernel_rfl))) ?_
    refine XL_cons rfl (X_of_Y0 rfl (Y0_build (cs := [Ti (w64 ((w64 (vm1.1 * vn2.1)) + (w64 (vm1.2.1 * vn2.2.2.1)))), Ti (w64 ((w64 (vm1.1 * vn2.2.1)) + (w64 (vm1.2.1 * vn2.2.2.2)))), Ti (w64 ((w64 (vm1.2.2.1 * vn2.1)) + (w64 (vm1.2.2.2 * vn2.2.2.1)))), Ti (w64 ((w64 (vm1.2.2.1 * vn2.2.1)) + (w64 (vm1.2.2.2 * vn2.2.2.2))))]) pl53 bt53 rfl rfl (by kernel_rfl))) ?_
    refine XL_cons rfl (E_store (id := 32) (off := 0) (cs := [Ti 0, Ti 0, Ti 0, Ti 0]) (vc := [Ti (w64 ((w64 (vm1.1 * vn2.1)) + (w64 (vm1.2.1 * vn2.2.2.1)))), Ti (w64 ((w64 (vm1.1 * vn2.2.1)) + (w64 (vm1.2.1 * vn2.2.2.2)))), Ti (w64 ((w64 (vm1.2.2.1 * vn2.1)) + (w64 (vm1.2.2.2 * vn2.2.2.1)))), Ti (w64 ((w64 (vm1.2.2.1 * vn2.2.1)) + (w64 (vm1.2.2.2 * vn2.2.2.2))))]) [Ti (w64 ((w64 (vm1.1 * vn2.1)) + (w64 (vm1.2.1 * vn2.2.2.1)))), Ti (w64 ((w64 (vm1.1 * vn2.2.1)) + (w64 (vm1.2.1 * vn2.2.2.2)))), Ti (w64 ((w64 (vm1.2.2.1 * vn2.1)) + (w64 (vm1.2.2.2 * vn2.2.2.1)))), Ti (w64 ((w64 (vm1.2.2.1 * vn2.2.1)) + (w64 (vm1.2.2.2 * vn2.2.2.2))))] rfl rfl (by kernel_rfl) (by kernel_rfl) (by kernel_rfl) sz53 (Nat.le_of_ble_eq_true rfl) (by kernel_rfl)) ?_
    refine XL_nil ?_
    subst hf3 hf4 hf5 hf6
    kernel_rfl
  refine V_ret ?_
  obtain rfl := some_inj h
  show Post _ _ _ _ _
  exact ⟨.inr rfl, rfl, rfl, rfl⟩
theorem cf_spec_reReduce : ∀ args w, (callFunc 44 args).run Tryd.prog w = .ok (.enter 44 args) w := run_callFunc Tryd.func44 (by kernel_rfl) (by kernel_rfl)
set_option maxRecDepth 100000 in
set_option maxHeartbeats 400000 in
theorem s_spec_reReduce {f1 : (Int × Int × Int)} {r : (((Int × Int × Int)) × ((Int × Int × Int × Int)))} (h : r_spec_reReduce f1 = some r) : CallS Tryd.prog 44 [.ag [Ti f1.1, Ti f1.2.1, Ti f1.2.2]] (.tc (.ag [Ti r.1.1, Ti r.1.2.1, Ti r.1.2.2]) (.tc (.ag [Ti r.2.1, Ti r.2.2.1, Ti r.2.2.2.1, Ti r.2.2.2.2]) .tn)) [] := by
  refine CallS_of_text (rs := [.w 2 3, .w 3 4]) (vs := [.cell 2 33, .cell 3 53]) Tryd.func44 rfl rfl (.cons ⟨rfl, wd33⟩ (.cons ⟨rfl, wd53⟩ FitsL.nil)) (by decide) 20 rfl ?_
  unfold r_spec_reReduce at h
  show V _ _ ⟨[.ag [Ti f1.1, Ti f1.2.1, Ti f1.2.2], .bot, .bot, .bot, .bot, .bot, .bot, .bot, .bot, .bot, .bot, .bot, .bot, .bot, .bot, .bot, .bot, .bot, .bot, .bot], []⟩ _
  refine V_sreg [false, true, true, true, false, false, false, false, false, false, false, false, false, false, false, false, false, false, false, false] [24, 16, 8] (s1 := ⟨[.bot, .pt 8 0, .pt 16 0, .pt 24 0, .bot, .bot, .bot, .bot, .bot, .bot, .bot, .bot, .bot, .bot, .bot, .bot, .bot, .bot, .bot, .bot], [(24, .box [Ti 0, Ti 0, Ti 0, Ti 0]), (16, .box [Ti 0, Ti 0, Ti 0]), (8, .box [Ti f1.1, Ti f1.2.1, Ti f1.2.2])]⟩) ?_ ?_
  · refine XL_cons rfl (X_of_Y1 rfl (Y1_box (cs := [Ti f1.1, Ti f1.2.1, Ti f1.2.2]) rfl (by kernel_rfl))) ?_
    refine XL_cons rfl (X_of_Y1 rfl (Y1_alloc (z := zv33) rfl zf33 rfl)) ?_
    refine XL_cons rfl (X_of_Y1 rfl (Y1_alloc (z := zv53) rfl zf53 rfl)) ?_
    refine XL_nil ?_
    kernel_rfl
  refine V_sreg [false, true, true, true, true, false, false, false, false, false, false, false, false, false, false, false, false, false, false, false] [32, 24, 16, 8] (s1 := ⟨[.bot, .pt 8 0, .pt 16 0, .pt 24 0, .pt 32 0, .bot, .bot, .bot, .bot, .bot, .bot, .bot, .bot, .bot, .bot, .bot, .bot, .bot, .bot, .bot], [(32, .box [Ti 1, Ti 0, Ti 0, Ti 1]), (24, .box [Ti 0, Ti 0, Ti 0, Ti 0]), (16, .box [Ti 0, Ti 0, Ti 0]), (8, .box [Ti f1.1, Ti f1.2.1, Ti f1.2.2])]⟩) ?_ ?_
  · refine XL_cons rfl (X_of_Y0 rfl (Y0_build (cs := [Ti 1, Ti 0, Ti 0, Ti 1]) pl53 bt53 rfl rfl (by kernel_rfl))) ?_
    refine XL_cons rfl (X_of_Y1 rfl (Y1_alloc (z := zv53) rfl zf53 rfl)) ?_
    refine XL_cons rfl (E_store (id := 32) (off := 0) (cs := [Ti 0, Ti 0, Ti 0, Ti 0]) (vc := [Ti 1, Ti 0, Ti 0, Ti 1]) [Ti 1, Ti 0, Ti 0, Ti 1] rfl rfl (by kernel_rfl) (by kernel_rfl) (by kernel_rfl) sz53 (Nat.le_of_ble_eq_true rfl) (by kernel_rfl)) ?_
    refine XL_nil ?_
    kernel_rfl
  refine V_seq ?_
  obtain ⟨o10, hLo10, h⟩ := of_bind h
  refine V_toK [false, true, true, true, true, false, false, false, false, false, false, false, false, false, false, false, false, false, false, false] [32, 24, 16, 8] (s1 := ⟨[.bot, .pt 8 0, .pt 16 0, .pt 24 0, .pt 32 0, .bot, .bot, .bot, .bot, .bot, .bot, .bot, .bot, .bot, .bot, .bot, .bot, .bot, .bot, .bot], [(32, .box [Ti o10.1, Ti o10.2.1, Ti o10.2.2.1, Ti o10.2.2.2.1]), (24, .box [Ti 0, Ti 0, Ti 0, Ti 0]), (16, .box [Ti 0, Ti 0, Ti 0]), (8, .box [Ti o10.2.2.2.2.1, Ti o10.2.2.2.2.2.1, Ti o10.2.2.2.2.2.2])]⟩) ?_ ?_
  · clear h
    refine V_block (V_loop (fun n s => ∃ (f2 : Int) (f3 : Int) (f4 : Int) (f5 : Int) (f6 : Int) (f7 : Int) (f8 : Int), s.keep [false, true, true, true, true, false, false, false, false, false, false, false, false, false, false, false, false, false, false, false] [32, 24, 16, 8] = (⟨[.bot, .pt 8 0, .pt 16 0, .pt 24 0, .pt 32 0, .bot, .bot, .bot, .bot, .bot, .bot, .bot, .bot, .bot, .bot, .bot, .bot, .bot, .bot, .bot], [(32, .box [Ti f2, Ti f3, Ti f4, Ti f5]), (24, .box [Ti 0, Ti 0, Ti 0, Ti 0]), (16, .box [Ti 0, Ti 0, Ti 0]), (8, .box [Ti f6, Ti f7, Ti f8])]⟩ : St) ∧ r_spec_reReduce_L9 n f2 f3 f4 f5 f6 f7 f8 = some o10) FU ⟨_, _, _, _, _, _, _,  by rfl, hLo10⟩ ?_)
    clear hLo10
    rintro n s ⟨f2, f3, f4, f5, f6, f7, f8, hs, h⟩
    refine V_keep _ _ hs ?_
    clear hs
    cases n with
    | zero => cases h
    | succ n =>
      rw [r_spec_reReduce_L9] at h
      refine V_seq ?_
      obtain ⟨y11, hy11, h⟩ := of_bind h
      refine V_sreg [false, true, true, true, true, false, false, false, false, true, false, false, false, false, false, false, false, false, false, false] [32, 24, 16, 8] (s1 := ⟨[.bot, .pt 8 0, .pt 16 0, .pt 24 0, .pt 32 0, .bot, .bot, .bot, .bot, Bo (!y11), .bot, .bot, .bot, .bot, .bot, .bot, .bot, .bot, .bot, .bot], [(32, .box [Ti f2, Ti f3, Ti f4, Ti f5]), (24, .box [Ti 0, Ti 0, Ti 0, Ti 0]), (16, .box [Ti 0, Ti 0, Ti 0]), (8, .box [Ti f6, Ti f7, Ti f8])]⟩) ?_ ?_
      · refine XL_cons rfl (X_of_Y0 rfl (E_loadn (cs := [Ti f6, Ti f7, Ti f8]) [Ti f6, Ti f7, Ti f8] wd33 rfl (by kernel_rfl) (Nat.le_of_ble_eq_true rfl) (by kernel_rfl))) ?_
        refine XL_cons rfl (X_of_Y1 rfl (Y1_call (s_spec_reIs hy11) cf_spec_reIs rfl (by kernel_rfl))) ?_
        refine XL_cons rfl (X_of_Y0 rfl (Y0_not (b := y11) rfl (by kernel_rfl))) ?_
        refine XL_nil ?_
        kernel_rfl
      refine V_cond rfl (fun hc12 => ?_) (fun hc12 => ?_)
      · have h := of_true h hc12
        refine V_skip ?_
        show V _ _ _ _
        refine V_block ?_
        obtain ⟨y13, hy13, h⟩ := of_bind h
        refine V_sreg [false, true, true, true, true, true, false, false, false, false, false, false, false, false, false, false, false, false, false, false] [40, 32, 24, 16, 8] (s1 := ⟨[.bot, .pt 8 0, .pt 16 0, .pt 24 0, .pt 32 0, .pt 40 0, .bot, .bot, .bot, .bot, .bot, .bot, .bot, .bot, .bot, .bot, .bot, .bot, .bot, .bot], [(40, .box [Ti y13.1, Ti y13.2.1, Ti y13.2.2.1, Ti y13.2.2.2]), (32, .box [Ti f2, Ti f3, Ti f4, Ti f5]), (24, .box [Ti 0, Ti 0, Ti 0, Ti 0]), (16, .box [Ti 0, Ti 0, Ti 0]), (8, .box [Ti f6, Ti f7, Ti f8])]⟩) ?_ ?_
        · refine XL_cons rfl (X_of_Y0 rfl (E_loadn (cs := [Ti f6, Ti f7, Ti f8]) [Ti f6, Ti f7, Ti f8] wd33 rfl (by kernel_rfl) (Nat.le_of_ble_eq_true rfl) (by kernel_rfl))) ?_
          refine XL_cons rfl (X_of_Y1 rfl (Y1_call (s_spec_reMove hy13) cf_spec_reMove rfl (by kernel_rfl))) ?_
          refine XL_cons rfl (X_of_Y1 rfl (Y1_alloc (z := zv53) rfl zf53 rfl)) ?_
          refine XL_cons rfl (E_store (id := 40) (off := 0) (cs := [Ti 0, Ti 0, Ti 0, Ti 0]) (vc := [Ti y13.1, Ti y13.2.1, Ti y13.2.2.1, Ti y13.2.2.2]) [Ti y13.1, Ti y13.2.1, Ti y13.2.2.1, Ti y13.2.2.2] rfl rfl (by kernel_rfl) (by kernel_rfl) (by kernel_rfl) sz53 (Nat.le_of_ble_eq_true rfl) (by kernel_rfl)) ?_
          refine XL_nil ?_
          kernel_rfl
        obtain ⟨y14, hy14, h⟩ := of_bind h
        obtain ⟨y15, hy15, h⟩ := of_bind h
        refine V_dreg [0, 0, 3, 0, 0, 31, 63, 127] 6 [[.z, .b, .z, .b, .b, .z], [.b, .z, .z, .b, .b, .z], [.a, .a, .z, .b, .b, .z], [.b, .b, .b, .z, .b, .z], [.b, .b, .b, .b, .z, .z], [.a, .a, .a, .a, .a, .z]] [false, true, true, true, true, false, false, false, false, false, false, false, false, false, false, false, false, false, false, false] [32, 24, 16, 8] (s1 := ⟨[.bot, .pt 8 0, .pt 16 0, .pt 24 0, .pt 32 0, .bot, .bot, .bot, .bot, .bot, .bot, .bot, .bot, .bot, .bot, .bot, .bot, .bot, .bot, .bot], [(32, .box [Ti y15.1, Ti y15.2.1, Ti y15.2.2.1, Ti y15.2.2.2]), (24, .box [Ti 0, Ti 0, Ti 0, Ti 0]), (16, .box [Ti 0, Ti 0, Ti 0]), (8, .box [Ti y14.1, Ti y14.2.1, Ti y14.2.2])]⟩) (by kernel_rfl) (by kernel_rfl) ?_ ?_
        · refine DE_0 0 (.ag [Ti f6, Ti f7, Ti f8]) (by kernel_rfl) rfl rfl rfl (gsat_none rfl) (by kernel_rfl) (E_loadn (cs := [Ti f6, Ti f7, Ti f8]) [Ti f6, Ti f7, Ti f8] wd33 rfl (by kernel_rfl) (Nat.le_of_ble_eq_true rfl) (by kernel_rfl)) 12 rfl ?_
          refine DE_0 1 (.ag [Ti y13.1, Ti y13.2.1, Ti y13.2.2.1, Ti y13.2.2.2]) (by kernel_rfl) rfl rfl rfl (gsat_none rfl) (by kernel_rfl) (E_loadn (cs := [Ti y13.1, Ti y13.2.1, Ti y13.2.2.1, Ti y13.2.2.2]) [Ti y13.1, Ti y13.2.1, Ti y13.2.2.1, Ti y13.2.2.2] wd53 rfl (by kernel_rfl) (Nat.le_of_ble_eq_true rfl) (by kernel_rfl)) 13 rfl ?_
          refine DE_1 2 (by kernel_rfl) rfl rfl rfl (gsat_none rfl) (Y1_call (s_spec_foAct hy14) cf_spec_foAct rfl (by kernel_rfl)) rfl rfl rfl 14 rfl ?_
          refine DE_0 3 (.ag [Ti f2, Ti f3, Ti f4, Ti f5]) (by kernel_rfl) rfl rfl rfl (gsat_none rfl) (by kernel_rfl) (E_loadn (cs := [Ti f2, Ti f3, Ti f4, Ti f5]) [Ti f2, Ti f3, Ti f4, Ti f5] wd53 rfl (by kernel_rfl) (Nat.le_of_ble_eq_true rfl) (by kernel_rfl)) 15 rfl ?_
          refine DE_0 4 (.ag [Ti y13.1, Ti y13.2.1, Ti y13.2.2.1, Ti y13.2.2.2]) (by kernel_rfl) rfl rfl rfl (gsat_none rfl) (by kernel_rfl) (E_loadn (cs := [Ti y13.1, Ti y13.2.1, Ti y13.2.2.1, Ti y13.2.2.2]) [Ti y13.1, Ti y13.2.1, Ti y13.2.2.1, Ti y13.2.2.2] wd53 rfl (by kernel_rfl) (Nat.le_of_ble_eq_true rfl) (by kernel_rfl)) 16 rfl ?_
          refine DE_1 5 (by kernel_rfl) rfl rfl rfl (gsat_none rfl) (Y1_call (s_spec_foMul hy15) cf_spec_foMul rfl (by kernel_rfl)) rfl rfl rfl 17 rfl ?_
          refine DL_nil (by kernel_rfl) ?_
          refine XL_cons rfl (E_store (id := 8) (off := 0) (cs := [Ti f6, Ti f7, Ti f8]) (vc := [Ti y14.1, Ti y14.2.1, Ti y14.2.2]) [Ti y14.1, Ti y14.2.1, Ti y14.2.2] rfl rfl (by kernel_rfl) (by kernel_rfl) (by kernel_rfl) sz33 (Nat.le_of_ble_eq_true rfl) (by kernel_rfl)) ?_
          refine XL_cons rfl (E_store (id := 32) (off := 0) (cs := [Ti f2, Ti f3, Ti f4, Ti f5]) (vc := [Ti y15.1, Ti y15.2.1, Ti y15.2.2.1, Ti y15.2.2.2]) [Ti y15.1, Ti y15.2.1, Ti y15.2.2.1, Ti y15.2.2.2] rfl rfl (by kernel_rfl) (by kernel_rfl) (by kernel_rfl) sz53 (Nat.le_of_ble_eq_true rfl) (by kernel_rfl)) ?_
          refine XL_nil ?_
          kernel_rfl
        exact ⟨n, Nat.lt_succ_self n, _, _, _, _, _, _, _,  by rfl, h⟩
      · have h := of_false h hc12
        refine V_exit ?_
        obtain rfl := some_inj h
        show St.keep _ _ _ = _
        rfl
  show V _ _ _ _
  refine V_sdreg [0, 0, 1, 7] 3 [[.z, .b, .z], [.b, .z, .r 16], [.a, .b, .z]] [false, false, true, true, false, false, false, false, false, false, false, false, false, false, false, false, false, false, false, false] [24, 16] (s1 := ⟨[.bot, .bot, .pt 16 0, .pt 24 0, .bot, .bot, .bot, .bot, .bot, .bot, .bot, .bot, .bot, .bot, .bot, .bot, .bot, .bot, .bot, .bot], [(24, .box [Ti o10.1, Ti o10.2.1, Ti o10.2.2.1, Ti o10.2.2.2.1]), (16, .box [Ti o10.2.2.2.2.1, Ti o10.2.2.2.2.2.1, Ti o10.2.2.2.2.2.2])]⟩) (by kernel_rfl) (by kernel_rfl) ?_ ?_
  · refine DE_0 0 (.ag [Ti o10.2.2.2.2.1, Ti o10.2.2.2.2.2.1, Ti o10.2.2.2.2.2.2]) (by kernel_rfl) rfl rfl rfl (gsat_none rfl) (by kernel_rfl) (E_loadn (cs := [Ti o10.2.2.2.2.1, Ti o10.2.2.2.2.2.1, Ti o10.2.2.2.2.2.2]) [Ti o10.2.2.2.2.1, Ti o10.2.2.2.2.2.1, Ti o10.2.2.2.2.2.2] wd33 rfl (by kernel_rfl) (Nat.le_of_ble_eq_true rfl) (by kernel_rfl)) 18 rfl ?_
    refine DE_0 1 (.ag [Ti o10.1, Ti o10.2.1, Ti o10.2.2.1, Ti o10.2.2.2.1]) (by kernel_rfl) rfl rfl rfl (gsat_none rfl) (by kernel_rfl) (E_loadn (cs := [Ti o10.1, Ti o10.2.1, Ti o10.2.2.1, Ti o10.2.2.2.1]) [Ti o10.1, Ti o10.2.1, Ti o10.2.2.1, Ti o10.2.2.2.1] wd53 rfl (by kernel_rfl) (Nat.le_of_ble_eq_true rfl) (by kernel_rfl)) 19 rfl ?_
    refine DE_2 (off := 0) (cs := [Ti 0, Ti 0, Ti 0]) (vc := [Ti o10.2.2.2.2.1, Ti o10.2.2.2.2.2.1, Ti o10.2.2.2.2.2.2]) 2 16 [Ti o10.2.2.2.2.1, Ti o10.2.2.2.2.2.1, Ti o10.2.2.2.2.2.2] (by kernel_rfl) rfl rfl rfl (gsat_none rfl) rfl rfl (by kernel_rfl) (by kernel_rfl) (by kernel_rfl) sz33 (Nat.le_of_ble_eq_true rfl) (by kernel_rfl) (by kernel_rfl) (by kernel_rfl) (by kernel_rfl) ?_
    refine DL_nil (by kernel_rfl) ?_
    refine XL_cons rfl (E_store (id := 24) (off := 0) (cs := [Ti 0, Ti 0, Ti 0, Ti 0]) (vc := [Ti o10.1, Ti o10.2.1, Ti o10.2.2.1, Ti o10.2.2.2.1]) [Ti o10.1, Ti o10.2.1, Ti o10.2.2.1, Ti o10.2.2.2.1] rfl rfl (by kernel_rfl) (by kernel_rfl) (by kernel_rfl) sz53 (Nat.le_of_ble_eq_true rfl) (by kernel_rfl)) ?_
    refine XL_nil ?_
    kernel_rfl
  refine V_ret ?_
  obtain rfl := some_inj h
  show Post _ _ _ _ _
  exact ⟨.inr rfl, rfl, rfl, rfl⟩
theorem cf_spec_l1Num : ∀ args w, (callFunc 61 args).run Tryd.prog w = .ok (.enter 61 args) w := run_callFunc Tryd.func61 (by kernel_rfl) (by kernel_rfl)
set_option maxRecDepth 100000 in
set_option maxHeartbeats 400000 in
theorem s_spec_l1Num_rec : ∀ (n : Nat) {vn1 : Int} {r : ByteArray}, r_spec_l1Num n vn1 = some r → CallS Tryd.prog 61 [I vn1] (.c (.v (.string r))) [] := by
  intro n
  induction n with
  | zero => intro vn1 r h; cases h
  | succ n ih =>
    intro vn1 r h
    refine CallS_of_text (rs := [.t 2]) (vs := [.tmp 2]) Tryd.func61 rfl rfl (.cons rfl FitsL.nil) (by decide) 20 rfl ?_
    rw [r_spec_l1Num] at h
    show V _ _ ⟨[I vn1, .bot, .bot, .bot, .bot, .bot, .bot, .bot, .bot, .bot, .bot, .bot, .bot, .bot, .bot, .bot, .bot, .bot, .bot, .bot], []⟩ _
    refine V_sreg [true, false, false, false, false, false, false, false, false, false, false, false, false, false, false, false, false, false, false, false] [] (s1 := ⟨[I vn1, .bot, .bot, .bot, .bot, .bot, .bot, .bot, .bot, .bot, .bot, .bot, .bot, .bot, .bot, .bot, .bot, .bot, .bot, .bot], []⟩) ?_ ?_
    · refine XL_cons rfl (X_of_Y0 rfl (E_assign (.c (.v (.string ((⟨#[]⟩ : ByteArray))))) rfl (by kernel_rfl))) ?_
      refine XL_nil ?_
      kernel_rfl
    refine V_seq ?_
    refine V_sreg [true, false, false, false, true, false, false, false, false, false, false, false, false, false, false, false, false, false, false, false] [] (s1 := ⟨[I vn1, .bot, .bot, .bot, Bo (ltI vn1 10), .bot, .bot, .bot, .bot, .bot, .bot, .bot, .bot, .bot, .bot, .bot, .bot, .bot, .bot, .bot], []⟩) ?_ ?_
    · refine XL_cons rfl (X_of_Y0 rfl (E_move (I vn1) rfl (by kernel_rfl))) ?_
      refine XL_cons rfl (X_of_Y0 rfl (Y0_ltw (k := .i64) (a := vn1) (b := 10) rfl (by kernel_rfl) (by kernel_rfl))) ?_
      refine XL_nil ?_
      kernel_rfl
    refine V_cond rfl (fun hc2 => ?_) (fun hc2 => ?_)
    · have h := of_true h hc2
      refine V_sreg [false, false, true, false, false, false, false, false, false, false, false, false, false, false, false, false, false, false, false, false] [] (s1 := ⟨[.bot, .bot, .c (.v (.string (bytesI ([IntKind.u8.wrap (w64 (48 + vn1))])))), .bot, .bot, .bot, .bot, .bot, .bot, .bot, .bot, .bot, .bot, .bot, .bot, .bot, .bot, .bot, .bot, .bot], []⟩) ?_ ?_
      · refine XL_cons rfl (X_of_Y0 rfl (E_move (I vn1) rfl (by kernel_rfl))) ?_
        refine XL_cons rfl (X_of_Y0 rfl (Y0_add64 (a := 48) (b := vn1) rfl (by kernel_rfl) (by kernel_rfl))) ?_
        refine XL_cons rfl (X_of_Y0 rfl (Y0_conv (k2 := .i64) (a := w64 (48 + vn1)) Tryd.underlying3 Tryd.underlying5 rfl (by kernel_rfl))) ?_
        refine XL_cons rfl (X_of_Y1 rfl (Y1_bslice (z := zv5) (els := [IntKind.u8.wrap (w64 (48 + vn1))].map c5) Tryd.underlying83 iz5 rfl (by decide) rfl (by kernel_rfl) rfl (by simp [c5]) (by decide) (by decide))) ?_
        refine XL_cons rfl (X_of_Y0 rfl (Y0_b2s (c := c5) (fun _ => rfl) ([IntKind.u8.wrap (w64 (48 + vn1))]) Tryd.underlying83 Tryd.underlying5 Tryd.underlying9 rfl (by kernel_rfl))) ?_
        refine XL_cons rfl (X_of_Y0 rfl (E_assign (.c (.v (.string (bytesI ([IntKind.u8.wrap (w64 (48 + vn1))]))))) rfl (by kernel_rfl))) ?_
        refine XL_nil ?_
        kernel_rfl
      refine V_ret ?_
      obtain rfl := some_inj h
      show Post _ _ _ _ _
      exact ⟨.inr rfl, rfl, rfl, rfl⟩
    · have h := of_false h hc2
      refine V_skip ?_
      show V _ _ _ _
      obtain ⟨y3, hy3, h⟩ := of_bind h
      obtain ⟨u4, hu4, h⟩ := of_bind h
      refine V_sdreg [0, 1, 3, 0, 8, 24, 56, 120, 248, 511, 1023] 11 [[.z, .z, .z, .b, .b, .b, .b, .b, .b, .z, .z], [.a, .z, .z, .b, .b, .b, .b, .b, .b, .z, .z], [.a, .a, .z, .b, .b, .b, .b, .b, .b, .z, .z], [.b, .b, .b, .z, .z, .z, .z, .z, .z, .z, .z], [.b, .b, .b, .a, .z, .z, .z, .z, .z, .z, .z], [.b, .b, .b, .a, .a, .z, .z, .z, .z, .z, .z], [.b, .b, .b, .a, .a, .a, .z, .z, .z, .z, .z], [.b, .b, .b, .a, .a, .a, .a, .z, .z, .z, .z], [.b, .b, .b, .a, .a, .a, .a, .a, .z, .z, .z], [.a, .a, .a, .a, .a, .a, .a, .a, .a, .z, .z], [.a, .a, .a, .a, .a, .a, .a, .a, .a, .a, .z]] [false, false, true, false, false, false, false, false, false, false, false, false, false, false, false, false, false, false, false, false] [] (s1 := ⟨[.bot, .bot, .c (.v (.string (y3 ++ (bytesI ([IntKind.u8.wrap (w64 (48 + (Int.tmod vn1 10)))]))))), .bot, .bot, .bot, .bot, .bot, .bot, .bot, .bot, .bot, .bot, .bot, .bot, .bot, .bot, .bot, .bot, .bot], []⟩) (by kernel_rfl) (by kernel_rfl) ?_ ?_
      · refine DE_0 0 (I vn1) (by kernel_rfl) rfl rfl rfl (gsat_none rfl) (by kernel_rfl) (E_move (I vn1) rfl (by kernel_rfl)) 10 rfl ?_
        refine DE_0 1 (I (w64 (Int.tdiv vn1 10))) (by kernel_rfl) rfl rfl rfl (gsat_none rfl) (by kernel_rfl) (Y0_quo64 (a := vn1) (b := 10) rfl (by kernel_rfl) (by kernel_rfl) (by decide)) 11 rfl ?_
        refine DE_1 2 (by kernel_rfl) rfl rfl rfl (gsat_none rfl) (Y1_call (ih hy3) cf_spec_l1Num rfl (by kernel_rfl)) rfl rfl rfl 12 rfl ?_
        refine DE_0 3 (I vn1) (by kernel_rfl) rfl rfl rfl (gsat_none rfl) (by kernel_rfl) (E_move (I vn1) rfl (by kernel_rfl)) 13 rfl ?_
        refine DE_0 4 (I (Int.tmod vn1 10)) (by kernel_rfl) rfl rfl rfl (gsat_none rfl) (by kernel_rfl) (Y0_rem (k := .i64) (a := vn1) (b := 10) rfl (by kernel_rfl) (by kernel_rfl) (by decide)) 14 rfl ?_
        refine DE_0 5 (I (w64 (48 + (Int.tmod vn1 10)))) (by kernel_rfl) rfl rfl rfl (gsat_none rfl) (by kernel_rfl) (Y0_add64 (a := 48) (b := Int.tmod vn1 10) rfl (by kernel_rfl) (by kernel_rfl)) 15 rfl ?_
        refine DE_0 6 (.c (.v (.int .u8 (IntKind.u8.wrap (w64 (48 + (Int.tmod vn1 10))))))) (by kernel_rfl) rfl rfl rfl (gsat_none rfl) (by kernel_rfl) (Y0_conv (k2 := .i64) (a := w64 (48 + (Int.tmod vn1 10))) Tryd.underlying3 Tryd.underlying5 rfl (by kernel_rfl)) 16 rfl ?_
        refine DE_1 7 (by kernel_rfl) rfl rfl rfl (gsat_none rfl) (Y1_bslice (z := zv5) (els := [IntKind.u8.wrap (w64 (48 + (Int.tmod vn1 10)))].map c5) Tryd.underlying83 iz5 rfl (by decide) rfl (by kernel_rfl) rfl (by simp [c5]) (by decide) (by decide)) rfl rfl rfl 17 rfl ?_
        refine DE_0 8 (.c (.v (.string (bytesI ([IntKind.u8.wrap (w64 (48 + (Int.tmod vn1 10)))]))))) (by kernel_rfl) rfl rfl rfl (gsat_none rfl) (by kernel_rfl) (Y0_b2s (c := c5) (fun _ => rfl) ([IntKind.u8.wrap (w64 (48 + (Int.tmod vn1 10)))]) Tryd.underlying83 Tryd.underlying5 Tryd.underlying9 rfl (by kernel_rfl)) 18 rfl ?_
        refine DE_0 9 (.c (.v (.string (y3 ++ (bytesI ([IntKind.u8.wrap (w64 (48 + (Int.tmod vn1 10)))])))))) (by kernel_rfl) rfl rfl rfl (gsat_none rfl) (by kernel_rfl) (Y0_cat (a := y3) (b := bytesI ([IntKind.u8.wrap (w64 (48 + (Int.tmod vn1 10)))])) rfl (by kernel_rfl) (by kernel_rfl) (catR_some hu4)) 19 rfl ?_
        refine DE_0 10 (.c (.v (.string (y3 ++ (bytesI ([IntKind.u8.wrap (w64 (48 + (Int.tmod vn1 10)))])))))) (by kernel_rfl) rfl rfl rfl (gsat_none rfl) (by kernel_rfl) (E_assign (.c (.v (.string (y3 ++ (bytesI ([IntKind.u8.wrap (w64 (48 + (Int.tmod vn1 10)))])))))) rfl (by kernel_rfl)) 2 rfl ?_
        refine DL_nil (by kernel_rfl) ?_
        refine XL_nil ?_
        kernel_rfl
      refine V_ret ?_
      obtain rfl := some_inj h
      show Post _ _ _ _ _
      exact ⟨.inr rfl, rfl, rfl, rfl⟩
theorem s_spec_l1Num {vn1 : Int} {r : ByteArray} (h : r_spec_l1Num FU vn1 = some r) : CallS Tryd.prog 61 [I vn1] (.c (.v (.string r))) [] := s_spec_l1Num_rec FU h
theorem cf_spec_l1Int : ∀ args w, (callFunc 36 args).run Tryd.prog w = .ok (.enter 36 args) w := run_callFunc Tryd.func36 (by kernel_rfl) (by kernel_rfl)
set_option maxRecDepth 100000 in
set_option maxHeartbeats 400000 in
theorem s_spec_l1Int {vn1 : Int} {r : ByteArray} (h : r_spec_l1Int vn1 = some r) : CallS Tryd.prog 36 [I vn1] (.c (.v (.string r))) [] := by
  refine CallS_of_text (rs := [.t 2]) (vs := [.tmp 2]) Tryd.func36 rfl rfl (.cons rfl FitsL.nil) (by decide) 11 rfl ?_
  unfold r_spec_l1Int at h
  show V _ _ ⟨[I vn1, .bot, .bot, .bot, .bot, .bot, .bot, .bot, .bot, .bot, .bot], []⟩ _
  refine V_sreg [true, false, false, false, false, false, false, false, false, false, false] [] (s1 := ⟨[I vn1, .bot, .bot, .bot, .bot, .bot, .bot, .bot, .bot, .bot, .bot], []⟩) ?_ ?_
  · refine XL_cons rfl (X_of_Y0 rfl (E_assign (.c (.v (.string ((⟨#[]⟩ : ByteArray))))) rfl (by kernel_rfl))) ?_
    refine XL_nil ?_
    kernel_rfl
  refine V_seq ?_
  refine V_sreg [true, false, false, false, true, false, false, false, false, false, false] [] (s1 := ⟨[I vn1, .bot, .bot, .bot, Bo (ltI vn1 0), .bot, .bot, .bot, .bot, .bot, .bot], []⟩) ?_ ?_
  · refine XL_cons rfl (X_of_Y0 rfl (E_move (I vn1) rfl (by kernel_rfl))) ?_
    refine XL_cons rfl (X_of_Y0 rfl (Y0_ltw (k := .i64) (a := vn1) (b := 0) rfl (by kernel_rfl) (by kernel_rfl))) ?_
    refine XL_nil ?_
    kernel_rfl
  refine V_cond rfl (fun hc2 => ?_) (fun hc2 => ?_)
  · have h := of_true h hc2
    obtain ⟨y3, hy3, h⟩ := of_bind h
    obtain ⟨u4, hu4, h⟩ := of_bind h
    refine V_sreg [false, false, true, false, false, false, false, false, false, false, false] [] (s1 := ⟨[.bot, .bot, .c (.v (.string (((⟨#[45]⟩ : ByteArray)) ++ y3))), .bot, .bot, .bot, .bot, .bot, .bot, .bot, .bot], []⟩) ?_ ?_
    · refine XL_cons rfl (X_of_Y0 rfl (E_move (I vn1) rfl (by kernel_rfl))) ?_
      refine XL_cons rfl (X_of_Y0 rfl (Y0_neg64 (a := vn1) rfl (by kernel_rfl))) ?_
      refine XL_cons rfl (X_of_Y1 rfl (Y1_call (s_spec_l1Num hy3) cf_spec_l1Num rfl (by kernel_rfl))) ?_
      refine XL_cons rfl (X_of_Y0 rfl (Y0_cat (a := (⟨#[45]⟩ : ByteArray)) (b := y3) rfl (by kernel_rfl) (by kernel_rfl) (catR_some hu4))) ?_
      refine XL_cons rfl (X_of_Y0 rfl (E_assign (.c (.v (.string (((⟨#[45]⟩ : ByteArray)) ++ y3)))) rfl (by kernel_rfl))) ?_
      refine XL_nil ?_
      kernel_rfl
    refine V_ret ?_
    obtain rfl := some_inj h
    show Post _ _ _ _ _
    exact ⟨.inr rfl, rfl, rfl, rfl⟩
  · have h := of_false h hc2
    refine V_skip ?_
    show V _ _ _ _
    obtain ⟨y5, hy5, h⟩ := of_bind h
    refine V_sreg [false, false, true, false, false, false, false, false, false, false, false] [] (s1 := ⟨[.bot, .bot, .c (.v (.string y5)), .bot, .bot, .bot, .bot, .bot, .bot, .bot, .bot], []⟩) ?_ ?_
    · refine XL_cons rfl (X_of_Y0 rfl (E_move (I vn1) rfl (by kernel_rfl))) ?_
      refine XL_cons rfl (X_of_Y1 rfl (Y1_call (s_spec_l1Num hy5) cf_spec_l1Num rfl (by kernel_rfl))) ?_
      refine XL_cons rfl (X_of_Y0 rfl (E_assign (.c (.v (.string y5))) rfl (by kernel_rfl))) ?_
      refine XL_nil ?_
      kernel_rfl
    refine V_ret ?_
    obtain rfl := some_inj h
    show Post _ _ _ _ _
    exact ⟨.inr rfl, rfl, rfl, rfl⟩
theorem cf_spec_foText : ∀ args w, (callFunc 45 args).run Tryd.prog w = .ok (.enter 45 args) w := run_callFunc Tryd.func45 (by kernel_rfl) (by kernel_rfl)
set_option maxRecDepth 100000 in
set_option maxHeartbeats 400000 in
theorem s_spec_foText {f1 : (Int × Int × Int)} {r : ByteArray} (h : r_spec_foText f1 = some r) : CallS Tryd.prog 45 [.ag [Ti f1.1, Ti f1.2.1, Ti f1.2.2]] (.c (.v (.string r))) [] := by
  refine CallS_of_text (rs := [.t 2]) (vs := [.tmp 2]) Tryd.func45 rfl rfl (.cons rfl FitsL.nil) (by decide) 18 rfl ?_
  unfold r_spec_foText at h
  show V _ _ ⟨[.ag [Ti f1.1, Ti f1.2.1, Ti f1.2.2], .bot, .bot, .bot, .bot, .bot, .bot, .bot, .bot, .bot, .bot, .bot, .bot, .bot, .bot, .bot, .bot, .bot], []⟩ _
  refine V_sreg [false, true, false, false, false, false, false, false, false, false, false, false, false, false, false, false, false, false] [8] (s1 := ⟨[.bot, .pt 8 0, .bot, .bot, .bot, .bot, .bot, .bot, .bot, .bot, .bot, .bot, .bot, .bot, .bot, .bot, .bot, .bot], [(8, .box [Ti f1.1, Ti f1.2.1, Ti f1.2.2])]⟩) ?_ ?_
  · refine XL_cons rfl (X_of_Y1 rfl (Y1_box (cs := [Ti f1.1, Ti f1.2.1, Ti f1.2.2]) rfl (by kernel_rfl))) ?_
    refine XL_cons rfl (X_of_Y0 rfl (E_assign (.c (.v (.string ((⟨#[]⟩ : ByteArray))))) rfl (by kernel_rfl))) ?_
    refine XL_nil ?_
    kernel_rfl
  obtain ⟨y2, hy2, h⟩ := of_bind h
  obtain ⟨u3, hu3, h⟩ := of_bind h
  obtain ⟨u4, hu4, h⟩ := of_bind h
  obtain ⟨y5, hy5, h⟩ := of_bind h
  obtain ⟨u6, hu6, h⟩ := of_bind h
  obtain ⟨u7, hu7, h⟩ := of_bind h
  obtain ⟨y8, hy8, h⟩ := of_bind h
  obtain ⟨u9, hu9, h⟩ := of_bind h
  obtain ⟨u10, hu10, h⟩ := of_bind h
  refine V_sdreg [0, 1, 3, 7, 15, 0, 32, 103, 255, 511, 0, 1024, 3303, 8191, 16383, 32767] 16 [[.z, .z, .z, .z, .z, .b, .b, .z, .z, .z, .b, .b, .z, .z, .z, .z], [.a, .z, .z, .z, .z, .b, .b, .z, .z, .z, .b, .b, .z, .z, .z, .z], [.a, .a, .z, .z, .z, .b, .b, .z, .z, .z, .b, .b, .z, .z, .z, .z], [.a, .a, .a, .z, .z, .b, .b, .b, .z, .z, .b, .b, .b, .z, .z, .z], [.a, .a, .a, .a, .z, .b, .b, .b, .z, .z, .b, .b, .b, .z, .z, .z], [.b, .b, .b, .b, .b, .z, .z, .z, .z, .z, .b, .b, .z, .z, .z, .z], [.b, .b, .b, .b, .b, .a, .z, .z, .z, .z, .b, .b, .z, .z, .z, .z], [.a, .a, .a, .b, .b, .a, .a, .z, .z, .z, .b, .b, .z, .z, .z, .z], [.a, .a, .a, .a, .a, .a, .a, .a, .z, .z, .b, .b, .b, .z, .z, .z], [.a, .a, .a, .a, .a, .a, .a, .a, .a, .z, .b, .b, .b, .z, .z, .z], [.b, .b, .b, .b, .b, .b, .b, .b, .b, .b, .z, .z, .z, .z, .z, .z], [.b, .b, .b, .b, .b, .b, .b, .b, .b, .b, .a, .z, .z, .z, .z, .z], [.a, .a, .a, .b, .b, .a, .a, .a, .b, .b, .a, .a, .z, .z, .z, .z], [.a, .a, .a, .a, .a, .a, .a, .a, .a, .a, .a, .a, .a, .z, .z, .z], [.a, .a, .a, .a, .a, .a, .a, .a, .a, .a, .a, .a, .a, .a, .z, .z], [.a, .a, .a, .a, .a, .a, .a, .a, .a, .a, .a, .a, .a, .a, .a, .z]] [false, false, true, false, false, false, false, false, false, false, false, false, false, false, false, false, false, false] [] (s1 := ⟨[.bot, .bot, .c (.v (.string ((((((((⟨#[40]⟩ : ByteArray)) ++ y2) ++ ((⟨#[44]⟩ : ByteArray))) ++ y5) ++ ((⟨#[44]⟩ : ByteArray))) ++ y8) ++ ((⟨#[41]⟩ : ByteArray))))), .bot, .bot, .bot, .bot, .bot, .bot, .bot, .bot, .bot, .bot, .bot, .bot, .bot, .bot, .bot], []⟩) (by kernel_rfl) (by kernel_rfl) ?_ ?_
  · refine DE_0 0 (.pt 8 0) (by kernel_rfl) rfl rfl rfl (gsat_none rfl) (by kernel_rfl) (E_field (.pt 8 0) Tryd.underlying33 rfl sz3 rfl (by kernel_rfl) (by intro hh; cases hh)) 3 rfl ?_
    refine DE_0 1 (I f1.1) (by kernel_rfl) rfl rfl rfl (gsat_none rfl) (by kernel_rfl) (Y0_load1 (c := Ti f1.1) (cs := [Ti f1.2.1, Ti f1.2.2]) sc3 rfl (by kernel_rfl)) 4 rfl ?_
    refine DE_1 2 (by kernel_rfl) rfl rfl rfl (gsat_none rfl) (Y1_call (s_spec_l1Int hy2) cf_spec_l1Int rfl (by kernel_rfl)) rfl rfl rfl 5 rfl ?_
    refine DE_0 3 (.c (.v (.string (((⟨#[40]⟩ : ByteArray)) ++ y2)))) (by kernel_rfl) rfl rfl rfl (gsat_none rfl) (by kernel_rfl) (Y0_cat (a := (⟨#[40]⟩ : ByteArray)) (b := y2) rfl (by kernel_rfl) (by kernel_rfl) (catR_some hu3)) 6 rfl ?_
    refine DE_0 4 (.c (.v (.string ((((⟨#[40]⟩ : ByteArray)) ++ y2) ++ ((⟨#[44]⟩ : ByteArray)))))) (by kernel_rfl) rfl rfl rfl (gsat_none rfl) (by kernel_rfl) (Y0_cat (a := ((⟨#[40]⟩ : ByteArray)) ++ y2) (b := (⟨#[44]⟩ : ByteArray)) rfl (by kernel_rfl) (by kernel_rfl) (catR_some hu4)) 7 rfl ?_
    refine DE_0 5 (.pt 8 1) (by kernel_rfl) rfl rfl rfl (gsat_none rfl) (by kernel_rfl) (E_field (.pt 8 1) Tryd.underlying33 rfl sz3 rfl (by kernel_rfl) (by intro hh; cases hh)) 8 rfl ?_
    refine DE_0 6 (I f1.2.1) (by kernel_rfl) rfl rfl rfl (gsat_none rfl) (by kernel_rfl) (Y0_load1 (c := Ti f1.2.1) (cs := [Ti f1.2.2]) sc3 rfl (by kernel_rfl)) 9 rfl ?_
    refine DE_1 7 (by kernel_rfl) rfl rfl rfl (gsat_none rfl) (Y1_call (s_spec_l1Int hy5) cf_spec_l1Int rfl (by kernel_rfl)) rfl rfl rfl 10 rfl ?_
    refine DE_0 8 (.c (.v (.string (((((⟨#[40]⟩ : ByteArray)) ++ y2) ++ ((⟨#[44]⟩ : ByteArray))) ++ y5)))) (by kernel_rfl) rfl rfl rfl (gsat_none rfl) (by kernel_rfl) (Y0_cat (a := (((⟨#[40]⟩ : ByteArray)) ++ y2) ++ ((⟨#[44]⟩ : ByteArray))) (b := y5) rfl (by kernel_rfl) (by kernel_rfl) (catR_some hu6)) 11 rfl ?_
    refine DE_0 9 (.c (.v (.string ((((((⟨#[40]⟩ : ByteArray)) ++ y2) ++ ((⟨#[44]⟩ : ByteArray))) ++ y5) ++ ((⟨#[44]⟩ : ByteArray)))))) (by kernel_rfl) rfl rfl rfl (gsat_none rfl) (by kernel_rfl) (Y0_cat (a := ((((⟨#[40]⟩ : ByteArray)) ++ y2) ++ ((⟨#[44]⟩ : ByteArray))) ++ y5) (b := (⟨#[44]⟩ : ByteArray)) rfl (by kernel_rfl) (by kernel_rfl) (catR_some hu7)) 12 rfl ?_
    refine DE_0 10 (.pt 8 2) (by kernel_rfl) rfl rfl rfl (gsat_none rfl) (by kernel_rfl) (E_field (.pt 8 2) Tryd.underlying33 rfl sz3 rfl (by kernel_rfl) (by intro hh; cases hh)) 13 rfl ?_
    refine DE_0 11 (I f1.2.2) (by kernel_rfl) rfl rfl rfl (gsat_none rfl) (by kernel_rfl) (Y0_load1 (c := Ti f1.2.2) (cs := []) sc3 rfl (by kernel_rfl)) 14 rfl ?_
    refine DE_1 12 (by kernel_rfl) rfl rfl rfl (gsat_none rfl) (Y1_call (s_spec_l1Int hy8) cf_spec_l1Int rfl (by kernel_rfl)) rfl rfl rfl 15 rfl ?_
    refine DE_0 13 (.c (.v (.string (((((((⟨#[40]⟩ : ByteArray)) ++ y2) ++ ((⟨#[44]⟩ : ByteArray))) ++ y5) ++ ((⟨#[44]⟩ : ByteArray))) ++ y8)))) (by kernel_rfl) rfl rfl rfl (gsat_none rfl) (by kernel_rfl) (Y0_cat (a := (((((⟨#[40]⟩ : ByteArray)) ++ y2) ++ ((⟨#[44]⟩ : ByteArray))) ++ y5) ++ ((⟨#[44]⟩ : ByteArray))) (b := y8) rfl (by kernel_rfl) (by kernel_rfl) (catR_some hu9)) 16 rfl ?_
    refine DE_0 14 (.c (.v (.string ((((((((⟨#[40]⟩ : ByteArray)) ++ y2) ++ ((⟨#[44]⟩ : ByteArray))) ++ y5) ++ ((⟨#[44]⟩ : ByteArray))) ++ y8) ++ ((⟨#[41]⟩ : ByteArray)))))) (by kernel_rfl) rfl rfl rfl (gsat_none rfl) (by kernel_rfl) (Y0_cat (a := ((((((⟨#[40]⟩ : ByteArray)) ++ y2) ++ ((⟨#[44]⟩ : ByteArray))) ++ y5) ++ ((⟨#[44]⟩ : ByteArray))) ++ y8) (b := (⟨#[41]⟩ : ByteArray)) rfl (by kernel_rfl) (by kernel_rfl) (catR_some hu10)) 17 rfl ?_
    refine DE_0 15 (.c (.v (.string ((((((((⟨#[40]⟩ : ByteArray)) ++ y2) ++ ((⟨#[44]⟩ : ByteArray))) ++ y5) ++ ((⟨#[44]⟩ : ByteArray))) ++ y8) ++ ((⟨#[41]⟩ : ByteArray)))))) (by kernel_rfl) rfl rfl rfl (gsat_none rfl) (by kernel_rfl) (E_assign (.c (.v (.string ((((((((⟨#[40]⟩ : ByteArray)) ++ y2) ++ ((⟨#[44]⟩ : ByteArray))) ++ y5) ++ ((⟨#[44]⟩ : ByteArray))) ++ y8) ++ ((⟨#[41]⟩ : ByteArray)))))) rfl (by kernel_rfl)) 2 rfl ?_
    refine DL_nil (by kernel_rfl) ?_
    refine XL_nil ?_
    kernel_rfl
  refine V_ret ?_
  obtain rfl := some_inj h
  show Post _ _ _ _ _
  exact ⟨.inr rfl, rfl, rfl, rfl⟩
theorem cf_spec_foMatrixText : ∀ args w, (callFunc 46 args).run Tryd.prog w = .ok (.enter 46 args) w := run_callFunc Tryd.func46 (by kernel_rfl) (by kernel_rfl)
set_option maxRecDepth 100000 in
set_option maxHeartbeats 400000 in
theorem s_spec_foMatrixText {vm1 : (Int × Int × Int × Int)} {r : ByteArray} (h : r_spec_foMatrixText vm1 = some r) : CallS Tryd.prog 46 [.ag [Ti vm1.1, Ti vm1.2.1, Ti vm1.2.2.1, Ti vm1.2.2.2]] (.c (.v (.string r))) [] := by
  refine CallS_of_text (rs := [.t 2]) (vs := [.tmp 2]) Tryd.func46 rfl rfl (.cons rfl FitsL.nil) (by decide) 23 rfl ?_
  unfold r_spec_foMatrixText at h
  show V _ _ ⟨[.ag [Ti vm1.1, Ti vm1.2.1, Ti vm1.2.2.1, Ti vm1.2.2.2], .bot, .bot, .bot, .bot, .bot, .bot, .bot, .bot, .bot, .bot, .bot, .bot, .bot, .bot, .bot, .bot, .bot, .bot, .bot, .bot, .bot, .bot], []⟩ _
  refine V_sreg [false, true, false, false, false, false, false, false, false, false, false, false, false, false, false, false, false, false, false, false, false, false, false] [8] (s1 := ⟨[.bot, .pt 8 0, .bot, .bot, .bot, .bot, .bot, .bot, .bot, .bot, .bot, .bot, .bot, .bot, .bot, .bot, .bot, .bot, .bot, .bot, .bot, .bot, .bot], [(8, .box [Ti vm1.1, Ti vm1.2.1, Ti vm1.2.2.1, Ti vm1.2.2.2])]⟩) ?_ ?_
  · refine XL_cons rfl (X_of_Y1 rfl (Y1_box (cs := [Ti vm1.1, Ti vm1.2.1, Ti vm1.2.2.1, Ti vm1.2.2.2]) rfl (by kernel_rfl))) ?_
    refine XL_cons rfl (X_of_Y0 rfl (E_assign (.c (.v (.string ((⟨#[]⟩ : ByteArray))))) rfl (by kernel_rfl))) ?_
    refine XL_nil ?_
    kernel_rfl
  obtain ⟨y2, hy2, h⟩ := of_bind h
  obtain ⟨u3, hu3, h⟩ := of_bind h
  obtain ⟨u4, hu4, h⟩ := of_bind h
  obtain ⟨y5, hy5, h⟩ := of_bind h
  obtain ⟨u6, hu6, h⟩ := of_bind h
  obtain ⟨u7, hu7, h⟩ := of_bind h
  obtain ⟨y8, hy8, h⟩ := of_bind h
  obtain ⟨u9, hu9, h⟩ := of_bind h
  obtain ⟨u10, hu10, h⟩ := of_bind h
  obtain ⟨y11, hy11, h⟩ := of_bind h
  obtain ⟨u12, hu12, h⟩ := of_bind h
  obtain ⟨u13, hu13, h⟩ := of_bind h
  refine V_sdreg [0, 1, 3, 7, 15, 0, 32, 103, 255, 511, 0, 1024, 3303, 8191, 16383, 0, 32768, 105703, 262143, 524287, 1048575] 21 [[.z, .z, .z, .z, .z, .b, .b, .z, .z, .z, .b, .b, .z, .z, .z, .b, .b, .z, .z, .z, .z], [.a, .z, .z, .z, .z, .b, .b, .z, .z, .z, .b, .b, .z, .z, .z, .b, .b, .z, .z, .z, .z], [.a, .a, .z, .z, .z, .b, .b, .z, .z, .z, .b, .b, .z, .z, .z, .b, .b, .z, .z, .z, .z], [.a, .a, .a, .z, .z, .b, .b, .b, .z, .z, .b, .b, .b, .z, .z, .b, .b, .b, .z, .z, .z], [.a, .a, .a, .a, .z, .b, .b, .b, .z, .z, .b, .b, .b, .z, .z, .b, .b, .b, .z, .z, .z], [.b, .b, .b, .b, .b, .z, .z, .z, .z, .z, .b, .b, .z, .z, .z, .b, .b, .z, .z, .z, .z], [.b, .b, .b, .b, .b, .a, .z, .z, .z, .z, .b, .b, .z, .z, .z, .b, .b, .z, .z, .z, .z], [.a, .a, .a, .b, .b, .a, .a, .z, .z, .z, .b, .b, .z, .z, .z, .b, .b, .z, .z, .z, .z], [.a, .a, .a, .a, .a, .a, .a, .a, .z, .z, .b, .b, .b, .z, .z, .b, .b, .b, .z, .z, .z], [.a, .a, .a, .a, .a, .a, .a, .a, .a, .z, .b, .b, .b, .z, .z, .b, .b, .b, .z, .z, .z], [.b, .b, .b, .b, .b, .b, .b, .b, .b, .b, .z, .z, .z, .z, .z, .b, .b, .z, .z, .z, .z], [.b, .b, .b, .b, .b, .b, .b, .b, .b, .b, .a, .z, .z, .z, .z, .b, .b, .z, .z, .z, .z], [.a, .a, .a, .b, .b, .a, .a, .a, .b, .b, .a, .a, .z, .z, .z, .b, .b, .z, .z, .z, .z], [.a, .a, .a, .a, .a, .a, .a, .a, .a, .a, .a, .a, .a, .z, .z, .b, .b, .b, .z, .z, .z], [.a, .a, .a, .a, .a, .a, .a, .a, .a, .a, .a, .a, .a, .a, .z, .b, .b, .b, .z, .z, .z], [.b, .b, .b, .b, .b, .b, .b, .b, .b, .b, .b, .b, .b, .b, .b, .z, .z, .z, .z, .z, .z], [.b, .b, .b, .b, .b, .b, .b, .b, .b, .b, .b, .b, .b, .b, .b, .a, .z, .z, .z, .z, .z], [.a, .a, .a, .b, .b, .a, .a, .a, .b, .b, .a, .a, .a, .b, .b, .a, .a, .z, .z, .z, .z], [.a, .a, .a, .a, .a, .a, .a, .a, .a, .a, .a, .a, .a, .a, .a, .a, .a, .a, .z, .z, .z], [.a, .a, .a, .a, .a, .a, .a, .a, .a, .a, .a, .a, .a, .a, .a, .a, .a, .a, .a, .z, .z], [.a, .a, .a, .a, .a, .a, .a, .a, .a, .a, .a, .a, .a, .a, .a, .a, .a, .a, .a, .a, .z]] [false, false, true, false, false, false, false, false, false, false, false, false, false, false, false, false, false, false, false, false, false, false, false] [] (s1 := ⟨[.bot, .bot, .c (.v (.string ((((((((((⟨#[91]⟩ : ByteArray)) ++ y2) ++ ((⟨#[44]⟩ : ByteArray))) ++ y5) ++ ((⟨#[59]⟩ : ByteArray))) ++ y8) ++ ((⟨#[44]⟩ : ByteArray))) ++ y11) ++ ((⟨#[93]⟩ : ByteArray))))), .bot, .bot, .bot, .bot, .bot, .bot, .bot, .bot, .bot, .bot, .bot, .bot, .bot, .bot, .bot, .bot, .bot, .bot, .bot, .bot], []⟩) (by kernel_rfl) (by kernel_rfl) ?_ ?_
  · refine DE_0 0 (.pt 8 0) (by kernel_rfl) rfl rfl rfl (gsat_none rfl) (by kernel_rfl) (E_field (.pt 8 0) Tryd.underlying53 rfl sz3 rfl (by kernel_rfl) (by intro hh; cases hh)) 3 rfl ?_
    refine DE_0 1 (I vm1.1) (by kernel_rfl) rfl rfl rfl (gsat_none rfl) (by kernel_rfl) (Y0_load1 (c := Ti vm1.1) (cs := [Ti vm1.2.1, Ti vm1.2.2.1, Ti vm1.2.2.2]) sc3 rfl (by kernel_rfl)) 4 rfl ?_
    refine DE_1 2 (by kernel_rfl) rfl rfl rfl (gsat_none rfl) (Y1_call (s_spec_l1Int hy2) cf_spec_l1Int rfl (by kernel_rfl)) rfl rfl rfl 5 rfl ?_
    refine DE_0 3 (.c (.v (.string (((⟨#[91]⟩ : ByteArray)) ++ y2)))) (by kernel_rfl) rfl rfl rfl (gsat_none rfl) (by kernel_rfl) (Y0_cat (a := (⟨#[91]⟩ : ByteArray)) (b := y2) rfl (by kernel_rfl) (by kernel_rfl) (catR_some hu3)) 6 rfl ?_
    refine DE_0 4 (.c (.v (.string ((((⟨#[91]⟩ : ByteArray)) ++ y2) ++ ((⟨#[44]⟩ : ByteArray)))))) (by kernel_rfl) rfl rfl rfl (gsat_none rfl) (by kernel_rfl) (Y0_cat (a := ((⟨#[91]⟩ : ByteArray)) ++ y2) (b := (⟨#[44]⟩ : ByteArray)) rfl (by kernel_rfl) (by kernel_rfl) (catR_some hu4)) 7 rfl ?_
    refine DE_0 5 (.pt 8 1) (by kernel_rfl) rfl rfl rfl (gsat_none rfl) (by kernel_rfl) (E_field (.pt 8 1) Tryd.underlying53 rfl sz3 rfl (by kernel_rfl) (by intro hh; cases hh)) 8 rfl ?_
    refine DE_0 6 (I vm1.2.1) (by kernel_rfl) rfl rfl rfl (gsat_none rfl) (by kernel_rfl) (Y0_load1 (c := Ti vm1.2.1) (cs := [Ti vm1.2.2.1, Ti vm1.2.2.2]) sc3 rfl (by kernel_rfl)) 9 rfl ?_
    refine DE_1 7 (by kernel_rfl) rfl rfl rfl (gsat_none rfl) (Y1_call (s_spec_l1Int hy5) cf_spec_l1Int rfl (by kernel_rfl)) rfl rfl rfl 10 rfl ?_
    refine DE_0 8 (.c (.v (.string (((((⟨#[91]⟩ : ByteArray)) ++ y2) ++ ((⟨#[44]⟩ : ByteArray))) ++ y5)))) (by kernel_rfl) rfl rfl rfl (gsat_none rfl) (by kernel_rfl) (Y0_cat (a := (((⟨#[91]⟩ : ByteArray)) ++ y2) ++ ((⟨#[44]⟩ : ByteArray))) (b := y5) rfl (by kernel_rfl) (by kernel_rfl) (catR_some hu6)) 11 rfl ?_
    refine DE_0 9 (.c (.v (.string ((((((⟨#[91]⟩ : ByteArray)) ++ y2) ++ ((⟨#[44]⟩ : ByteArray))) ++ y5) ++ ((⟨#[59]⟩ : ByteArray)))))) (by kernel_rfl) rfl rfl rfl (gsat_none rfl) (by kernel_rfl) (Y0_cat (a := ((((⟨#[91]⟩ : ByteArray)) ++ y2) ++ ((⟨#[44]⟩ : ByteArray))) ++ y5) (b := (⟨#[59]⟩ : ByteArray)) rfl (by kernel_rfl) (by kernel_rfl) (catR_some hu7)) 12 rfl ?_
    refine DE_0 10 (.pt 8 2) (by kernel_rfl) rfl rfl rfl (gsat_none rfl) (by kernel_rfl) (E_field (.pt 8 2) Tryd.underlying53 rfl sz3 rfl (by kernel_rfl) (by intro hh; cases hh)) 13 rfl ?_
    refine DE_0 11 (I vm1.2.2.1) (by kernel_rfl) rfl rfl rfl (gsat_none rfl) (by kernel_rfl) (Y0_load1 (c := Ti vm1.2.2.1) (cs := [Ti vm1.2.2.2]) sc3 rfl (by kernel_rfl)) 14 rfl ?_
    refine DE_1 12 (by kernel_rfl) rfl rfl rfl (gsat_none rfl) (Y1_call (s_spec_l1Int hy8) cf_spec_l1Int rfl (by kernel_rfl)) rfl rfl rfl 15 rfl ?_
    refine DE_0 13 (.c (.v (.string (((((((⟨#[91]⟩ : ByteArray)) ++ y2) ++ ((⟨#[44]⟩ : ByteArray))) ++ y5) ++ ((⟨#[59]⟩ : ByteArray))) ++ y8)))) (by kernel_rfl) rfl rfl rfl (gsat_none rfl) (by kernel_rfl) (Y0_cat (a := (((((⟨#[91]⟩ : ByteArray)) ++ y2) ++ ((⟨#[44]⟩ : ByteArray))) ++ y5) ++ ((⟨#[59]⟩ : ByteArray))) (b := y8) rfl (by kernel_rfl) (by kernel_rfl) (catR_some hu9)) 16 rfl ?_
    refine DE_0 14 (.c (.v (.string ((((((((⟨#[91]⟩ : ByteArray)) ++ y2) ++ ((⟨#[44]⟩ : ByteArray))) ++ y5) ++ ((⟨#[59]⟩ : ByteArray))) ++ y8) ++ ((⟨#[44]⟩ : ByteArray)))))) (by kernel_rfl) rfl rfl rfl (gsat_none rfl) (by kernel_rfl) (Y0_cat (a := ((((((⟨#[91]⟩ : ByteArray)) ++ y2) ++ ((⟨#[44]⟩ : ByteArray))) ++ y5) ++ ((⟨#[59]⟩ : ByteArray))) ++ y8) (b := (⟨#[44]⟩ : ByteArray)) rfl (by kernel_rfl) (by kernel_rfl) (catR_some hu10)) 17 rfl ?_
    refine DE_0 15 (.pt 8 3) (by kernel_rfl) rfl rfl rfl (gsat_none rfl) (by kernel_rfl) (E_field (.pt 8 3) Tryd.underlying53 rfl sz3 rfl (by kernel_rfl) (by intro hh; cases hh)) 18 rfl ?_
    refine DE_0 16 (I vm1.2.2.2) (by kernel_rfl) rfl rfl rfl (gsat_none rfl) (by kernel_rfl) (Y0_load1 (c := Ti vm1.2.2.2) (cs := []) sc3 rfl (by kernel_rfl)) 19 rfl ?_
    refine DE_1 17 (by kernel_rfl) rfl rfl rfl (gsat_none rfl) (Y1_call (s_spec_l1Int hy11) cf_spec_l1Int rfl (by kernel_rfl)) rfl rfl rfl 20 rfl ?_
    refine DE_0 18 (.c (.v (.string (((((((((⟨#[91]⟩ : ByteArray)) ++ y2) ++ ((⟨#[44]⟩ : ByteArray))) ++ y5) ++ ((⟨#[59]⟩ : ByteArray))) ++ y8) ++ ((⟨#[44]⟩ : ByteArray))) ++ y11)))) (by kernel_rfl) rfl rfl rfl (gsat_none rfl) (by kernel_rfl) (Y0_cat (a := (((((((⟨#[91]⟩ : ByteArray)) ++ y2) ++ ((⟨#[44]⟩ : ByteArray))) ++ y5) ++ ((⟨#[59]⟩ : ByteArray))) ++ y8) ++ ((⟨#[44]⟩ : ByteArray))) (b := y11) rfl (by kernel_rfl) (by kernel_rfl) (catR_some hu12)) 21 rfl ?_
    refine DE_0 19 (.c (.v (.string ((((((((((⟨#[91]⟩ : ByteArray)) ++ y2) ++ ((⟨#[44]⟩ : ByteArray))) ++ y5) ++ ((⟨#[59]⟩ : ByteArray))) ++ y8) ++ ((⟨#[44]⟩ : ByteArray))) ++ y11) ++ ((⟨#[93]⟩ : ByteArray)))))) (by kernel_rfl) rfl rfl rfl (gsat_none rfl) (by kernel_rfl) (Y0_cat (a := ((((((((⟨#[91]⟩ : ByteArray)) ++ y2) ++ ((⟨#[44]⟩ : ByteArray))) ++ y5) ++ ((⟨#[59]⟩ : ByteArray))) ++ y8) ++ ((⟨#[44]⟩ : ByteArray))) ++ y11) (b := (⟨#[93]⟩ : ByteArray)) rfl (by kernel_rfl) (by kernel_rfl) (catR_some hu13)) 22 rfl ?_
    refine DE_0 20 (.c (.v (.string ((((((((((⟨#[91]⟩ : ByteArray)) ++ y2) ++ ((⟨#[44]⟩ : ByteArray))) ++ y5) ++ ((⟨#[59]⟩ : ByteArray))) ++ y8) ++ ((⟨#[44]⟩ : ByteArray))) ++ y11) ++ ((⟨#[93]⟩ : ByteArray)))))) (by kernel_rfl) rfl rfl rfl (gsat_none rfl) (by kernel_rfl) (E_assign (.c (.v (.string ((((((((((⟨#[91]⟩ : ByteArray)) ++ y2) ++ ((⟨#[44]⟩ : ByteArray))) ++ y5) ++ ((⟨#[59]⟩ : ByteArray))) ++ y8) ++ ((⟨#[44]⟩ : ByteArray))) ++ y11) ++ ((⟨#[93]⟩ : ByteArray)))))) rfl (by kernel_rfl)) 2 rfl ?_
    refine DL_nil (by kernel_rfl) ?_
    refine XL_nil ?_
    kernel_rfl
  refine V_ret ?_
  obtain rfl := some_inj h
  show Post _ _ _ _ _
  exact ⟨.inr rfl, rfl, rfl, rfl⟩
theorem cf_spec_prText : ∀ args w, (callFunc 35 args).run Tryd.prog w = .ok (.enter 35 args) w := run_callFunc Tryd.func35 (by kernel_rfl) (by kernel_rfl)
set_option maxRecDepth 100000 in
set_option maxHeartbeats 400000 in
theorem s_spec_prText {l1 : List ByteArray} {r : ByteArray} (h : r_spec_prText l1 = some r) : CallS Tryd.prog 35 [.c (.sl (l1.map c9))] (.c (.v (.string r))) [] := by
  refine CallS_of_text (rs := [.t 2]) (vs := [.tmp 2]) Tryd.func35 rfl rfl (.cons rfl FitsL.nil) (by decide) 22 rfl ?_
  unfold r_spec_prText at h
  show V _ _ ⟨[.c (.sl (l1.map c9)), .bot, .bot, .bot, .bot, .bot, .bot, .bot, .bot, .bot, .bot, .bot, .bot, .bot, .bot, .bot, .bot, .bot, .bot, .bot, .bot, .bot], []⟩ _
  refine V_sreg [true, false, false, false, false, false, false, false, false, false, false, false, false, false, false, false, false, false, false, false, false, false] [] (s1 := ⟨[.c (.sl (l1.map c9)), .bot, .bot, .bot, .bot, .bot, .bot, .bot, .bot, .bot, .bot, .bot, .bot, .bot, .bot, .bot, .bot, .bot, .bot, .bot, .bot, .bot], []⟩) ?_ ?_
  · refine XL_cons rfl (X_of_Y0 rfl (E_assign (.c (.v (.string ((⟨#[]⟩ : ByteArray))))) rfl (by kernel_rfl))) ?_
    refine XL_nil ?_
    kernel_rfl
  refine V_sreg [true, false, false, true, false, false, false, false, false, false, false, false, false, false, false, false, false, false, false, false, false, false] [] (s1 := ⟨[.c (.sl (l1.map c9)), .bot, .bot, .c (.v (.string ((⟨#[]⟩ : ByteArray)))), .bot, .bot, .bot, .bot, .bot, .bot, .bot, .bot, .bot, .bot, .bot, .bot, .bot, .bot, .bot, .bot, .bot, .bot], []⟩) ?_ ?_
  · refine XL_cons rfl (X_of_Y0 rfl (E_assign (.c (.v (.string ((⟨#[]⟩ : ByteArray))))) rfl (by kernel_rfl))) ?_
    refine XL_nil ?_
    kernel_rfl
  refine V_seq ?_
  refine V_sreg [false, false, false, true, false, false, true, true, true, false, false, false, false, false, false, false, false, false, false, false, false, false] [] (s1 := ⟨[.bot, .bot, .bot, .c (.v (.string ((⟨#[]⟩ : ByteArray)))), .bot, .bot, .c (.sl (l1.map c9)), I ((l1.length : Int)), I 0, .bot, .bot, .bot, .bot, .bot, .bot, .bot, .bot, .bot, .bot, .bot, .bot, .bot], []⟩) ?_ ?_
  · refine XL_cons rfl (X_of_Y0 rfl (E_move (.c (.sl (l1.map c9))) rfl (by kernel_rfl))) ?_
    refine XL_cons rfl (X_of_Y0 rfl (Y0_lenM (c := c9) (xs := l1) Tryd.underlying22 rfl (by kernel_rfl))) ?_
    refine XL_cons rfl (X_of_Y0 rfl (E_move (I 0) rfl (by kernel_rfl))) ?_
    refine XL_nil ?_
    kernel_rfl
  obtain ⟨o5, hLo5, h⟩ := of_bind h
  refine V_toK [false, false, false, true, false, false, false, false, false, false, false, false, false, false, false, false, false, false, false, false, false, false] [] (s1 := ⟨[.bot, .bot, .bot, .c (.v (.string o5)), .bot, .bot, .bot, .bot, .bot, .bot, .bot, .bot, .bot, .bot, .bot, .bot, .bot, .bot, .bot, .bot, .bot, .bot], []⟩) ?_ ?_
  · clear h
    refine V_block (V_loop (fun n s => ∃ (out2 : ByteArray) (t3 : Int), s.keep [false, false, false, true, false, false, true, true, true, false, false, false, false, false, false, false, false, false, false, false, false, false] [] = (⟨[.bot, .bot, .bot, .c (.v (.string out2)), .bot, .bot, .c (.sl (l1.map c9)), I ((l1.length : Int)), I t3, .bot, .bot, .bot, .bot, .bot, .bot, .bot, .bot, .bot, .bot, .bot, .bot, .bot], []⟩ : St) ∧ r_spec_prText_L4 l1 n out2 t3 = some o5) FU ⟨_, _,  by rfl, hLo5⟩ ?_)
    clear hLo5
    rintro n s ⟨out2, t3, hs, h⟩
    refine V_keep _ _ hs ?_
    clear hs
    cases n with
    | zero => cases h
    | succ n =>
      rw [r_spec_prText_L4] at h
      refine V_sreg [false, false, false, true, false, false, true, true, true, true, false, false, false, false, false, false, false, false, false, false, false, false] [] (s1 := ⟨[.bot, .bot, .bot, .c (.v (.string out2)), .bot, .bot, .c (.sl (l1.map c9)), I ((l1.length : Int)), I t3, Bo (ltI t3 ((l1.length : Int))), .bot, .bot, .bot, .bot, .bot, .bot, .bot, .bot, .bot, .bot, .bot, .bot], []⟩) ?_ ?_
      · refine XL_cons rfl (X_of_Y0 rfl (Y0_ltw (k := .i64) (a := t3) (b := (l1.length : Int)) rfl (by kernel_rfl) (by kernel_rfl))) ?_
        refine XL_nil ?_
        kernel_rfl
      refine V_seq ?_
      refine V_cond rfl (fun hc6 => ?_) (fun hc6 => ?_)
      · have h := of_true h hc6
        refine V_skip ?_
        show V _ _ _ _
        refine V_seq ?_
        refine V_block ?_
        obtain ⟨e7, he7, h⟩ := of_bind h
        refine V_sreg [false, false, false, true, true, true, true, true, true, false, false, false, false, false, false, false, false, false, false, false, false, false] [] (s1 := ⟨[.bot, .bot, .bot, .c (.v (.string out2)), I t3, .c (.v (.string e7)), .c (.sl (l1.map c9)), I ((l1.length : Int)), I t3, .bot, .bot, .bot, .bot, .bot, .bot, .bot, .bot, .bot, .bot, .bot, .bot, .bot], []⟩) ?_ ?_
        · refine XL_cons rfl (X_of_Y0 rfl (E_move (I t3) rfl (by kernel_rfl))) ?_
          refine XL_cons rfl (X_of_Y0 rfl (Y0_idxM (c := c9) (xs := l1) (v := e7) (n := t3) Tryd.underlying22 sz9 rfl (by kernel_rfl) (by kernel_rfl) he7)) ?_
          refine XL_cons rfl (X_of_Y0 rfl (Y0_load1 (c := .v (.string e7)) (cs := []) sc9 rfl (by kernel_rfl))) ?_
          refine XL_cons rfl (X_of_Y0 rfl (E_assign (I t3) rfl (by kernel_rfl))) ?_
          refine XL_cons rfl (X_of_Y0 rfl (E_assign (.c (.v (.string e7))) rfl (by kernel_rfl))) ?_
          refine XL_nil ?_
          kernel_rfl
        refine V_seq ?_
        refine V_sreg [false, false, false, true, false, true, true, true, true, false, false, false, false, false, true, false, false, false, false, false, false, false] [] (s1 := ⟨[.bot, .bot, .bot, .c (.v (.string out2)), .bot, .c (.v (.string e7)), .c (.sl (l1.map c9)), I ((l1.length : Int)), I t3, .bot, .bot, .bot, .bot, .bot, Bo (ltI 0 t3), .bot, .bot, .bot, .bot, .bot, .bot, .bot], []⟩) ?_ ?_
        · refine XL_cons rfl (X_of_Y0 rfl (E_move (I t3) rfl (by kernel_rfl))) ?_
          refine XL_cons rfl (X_of_Y0 rfl (Y0_gtw (k := .i64) (a := t3) (b := 0) rfl (by kernel_rfl) (by kernel_rfl))) ?_
          refine XL_nil ?_
          kernel_rfl
        refine V_cond rfl (fun hc8 => ?_) (fun hc8 => ?_)
        · have h := of_true h hc8
          obtain ⟨u9, hu9, h⟩ := of_bind h
          refine V_reg [false, false, false, true, false, true, true, true, true, false, false, false, false, false, false, false, false, false, false, false, false, false] [] (s1 := ⟨[.bot, .bot, .bot, .c (.v (.string (out2 ++ ((⟨#[32]⟩ : ByteArray))))), .bot, .c (.v (.string e7)), .c (.sl (l1.map c9)), I ((l1.length : Int)), I t3, .bot, .bot, .bot, .bot, .bot, .bot, .bot, .bot, .bot, .bot, .bot, .bot, .bot], []⟩) ?_ ?_
          · refine XL_cons rfl (X_of_Y0 rfl (E_move (.c (.v (.string out2))) rfl (by kernel_rfl))) ?_
            refine XL_cons rfl (X_of_Y0 rfl (Y0_cat (a := out2) (b := (⟨#[32]⟩ : ByteArray)) rfl (by kernel_rfl) (by kernel_rfl) (catR_some hu9))) ?_
            refine XL_cons rfl (X_of_Y0 rfl (E_assign (.c (.v (.string (out2 ++ ((⟨#[32]⟩ : ByteArray)))))) rfl (by kernel_rfl))) ?_
            refine XL_nil ?_
            kernel_rfl
          show V _ _ _ _
          obtain ⟨u10, hu10, h⟩ := of_bind h
          refine V_reg [false, false, false, true, false, false, true, true, true, false, false, false, false, false, false, false, false, false, false, false, false, false] [] (s1 := ⟨[.bot, .bot, .bot, .c (.v (.string ((out2 ++ ((⟨#[32]⟩ : ByteArray))) ++ e7))), .bot, .bot, .c (.sl (l1.map c9)), I ((l1.length : Int)), I t3, .bot, .bot, .bot, .bot, .bot, .bot, .bot, .bot, .bot, .bot, .bot, .bot, .bot], []⟩) ?_ ?_
          · refine XL_cons rfl (X_of_Y0 rfl (E_move (.c (.v (.string (out2 ++ ((⟨#[32]⟩ : ByteArray)))))) rfl (by kernel_rfl))) ?_
            refine XL_cons rfl (X_of_Y0 rfl (E_move (.c (.v (.string e7))) rfl (by kernel_rfl))) ?_
            refine XL_cons rfl (X_of_Y0 rfl (Y0_cat (a := out2 ++ ((⟨#[32]⟩ : ByteArray))) (b := e7) rfl (by kernel_rfl) (by kernel_rfl) (catR_some hu10))) ?_
            refine XL_cons rfl (X_of_Y0 rfl (E_assign (.c (.v (.string ((out2 ++ ((⟨#[32]⟩ : ByteArray))) ++ e7)))) rfl (by kernel_rfl))) ?_
            refine XL_nil ?_
            kernel_rfl
          show V _ _ _ _
          obtain ⟨t11, ht11, h⟩ := of_sI h
          refine V_reg [false, false, false, true, false, false, true, true, true, false, false, false, false, false, false, false, false, false, false, false, false, false] [] (s1 := ⟨[.bot, .bot, .bot, .c (.v (.string ((out2 ++ ((⟨#[32]⟩ : ByteArray))) ++ e7))), .bot, .bot, .c (.sl (l1.map c9)), I ((l1.length : Int)), I t11, .bot, .bot, .bot, .bot, .bot, .bot, .bot, .bot, .bot, .bot, .bot, .bot, .bot], []⟩) ?_ ?_
          · refine XL_cons rfl (X_of_Y0 rfl (Y0_add64 (a := t3) (b := 1) rfl (by kernel_rfl) (by kernel_rfl))) ?_
            refine XL_cons rfl (X_of_Y0 rfl (E_move (I (w64 (t3 + 1))) rfl (by kernel_rfl))) ?_
            refine XL_nil ?_
            subst ht11
            kernel_rfl
          exact ⟨n, Nat.lt_succ_self n, _, _,  by rfl, h⟩
        · have h := of_false h hc8
          refine V_skip ?_
          show V _ _ _ _
          obtain ⟨u12, hu12, h⟩ := of_bind h
          refine V_reg [false, false, false, true, false, false, true, true, true, false, false, false, false, false, false, false, false, false, false, false, false, false] [] (s1 := ⟨[.bot, .bot, .bot, .c (.v (.string (out2 ++ e7))), .bot, .bot, .c (.sl (l1.map c9)), I ((l1.length : Int)), I t3, .bot, .bot, .bot, .bot, .bot, .bot, .bot, .bot, .bot, .bot, .bot, .bot, .bot], []⟩) ?_ ?_
          · refine XL_cons rfl (X_of_Y0 rfl (E_move (.c (.v (.string out2))) rfl (by kernel_rfl))) ?_
            refine XL_cons rfl (X_of_Y0 rfl (E_move (.c (.v (.string e7))) rfl (by kernel_rfl))) ?_
            refine XL_cons rfl (X_of_Y0 rfl (Y0_cat (a := out2) (b := e7) rfl (by kernel_rfl) (by kernel_rfl) (catR_some hu12))) ?_
            refine XL_cons rfl (X_of_Y0 rfl (E_assign (.c (.v (.string (out2 ++ e7)))) rfl (by kernel_rfl))) ?_
            refine XL_nil ?_
            kernel_rfl
          show V _ _ _ _
          obtain ⟨t13, ht13, h⟩ := of_sI h
          refine V_reg [false, false, false, true, false, false, true, true, true, false, false, false, false, false, false, false, false, false, false, false, false, false] [] (s1 := ⟨[.bot, .bot, .bot, .c (.v (.string (out2 ++ e7))), .bot, .bot, .c (.sl (l1.map c9)), I ((l1.length : Int)), I t13, .bot, .bot, .bot, .bot, .bot, .bot, .bot, .bot, .bot, .bot, .bot, .bot, .bot], []⟩) ?_ ?_
          · refine XL_cons rfl (X_of_Y0 rfl (Y0_add64 (a := t3) (b := 1) rfl (by kernel_rfl) (by kernel_rfl))) ?_
            refine XL_cons rfl (X_of_Y0 rfl (E_move (I (w64 (t3 + 1))) rfl (by kernel_rfl))) ?_
            refine XL_nil ?_
            subst ht13
            kernel_rfl
          exact ⟨n, Nat.lt_succ_self n, _, _,  by rfl, h⟩
      · have h := of_false h hc6
        refine V_exit ?_
        obtain rfl := some_inj h
        show St.keep _ _ _ = _
        rfl
  show V _ _ _ _
  refine V_sreg [false, false, true, false, false, false, false, false, false, false, false, false, false, false, false, false, false, false, false, false, false, false] [] (s1 := ⟨[.bot, .bot, .c (.v (.string o5)), .bot, .bot, .bot, .bot, .bot, .bot, .bot, .bot, .bot, .bot, .bot, .bot, .bot, .bot, .bot, .bot, .bot, .bot, .bot], []⟩) ?_ ?_
  · refine XL_cons rfl (X_of_Y0 rfl (E_move (.c (.v (.string o5))) rfl (by kernel_rfl))) ?_
    refine XL_cons rfl (X_of_Y0 rfl (E_assign (.c (.v (.string o5))) rfl (by kernel_rfl))) ?_
    refine XL_nil ?_
    kernel_rfl
  refine V_ret ?_
  obtain rfl := some_inj h
  show Post _ _ _ _ _
  exact ⟨.inr rfl, rfl, rfl, rfl⟩
theorem cf_spec_DifferenceCertificate : ∀ args w, (callFunc 19 args).run Tryd.prog w = .ok (.enter 19 args) w := run_callFunc Tryd.func19 (by kernel_rfl) (by kernel_rfl)
set_option maxRecDepth 100000 in
set_option maxHeartbeats 400000 in
theorem s_spec_DifferenceCertificate {f1 : (Int × Int × Int)} {g2 : (Int × Int × Int)} {r : (ByteArray × Bool)} (h : r_spec_DifferenceCertificate f1 g2 = some r) : CallS Tryd.prog 19 [.ag [Ti f1.1, Ti f1.2.1, Ti f1.2.2], .ag [Ti g2.1, Ti g2.2.1, Ti g2.2.2]] (.tc (.c (.v (.string r.1))) (.tc (Bo r.2) .tn)) [] := by
  refine CallS_of_text (rs := [.t 4, .t 5]) (vs := [.tmp 4, .tmp 5]) Tryd.func19 rfl rfl (.cons rfl (.cons rfl FitsL.nil)) (by decide) 45 rfl ?_
  unfold r_spec_DifferenceCertificate at h
  show V _ _ ⟨[.ag [Ti f1.1, Ti f1.2.1, Ti f1.2.2], .ag [Ti g2.1, Ti g2.2.1, Ti g2.2.2], .bot, .bot, .bot, .bot, .bot, .bot, .bot, .bot, .bot, .bot, .bot, .bot, .bot, .bot, .bot, .bot, .bot, .bot, .bot, .bot, .bot, .bot, .bot, .bot, .bot, .bot, .bot, .bot, .bot, .bot, .bot, .bot, .bot, .bot, .bot, .bot, .bot, .bot, .bot, .bot, .bot, .bot, .bot], []⟩ _
  refine V_sreg [false, false, true, true, false, false, false, false, false, false, false, false, false, false, false, false, false, false, false, false, false, false, false, false, false, false, false, false, false, false, false, false, false, false, false, false, false, false, false, false, false, false, false, false, false] [24, 16] (s1 := ⟨[.bot, .bot, .pt 16 0, .pt 24 0, .bot, .bot, .bot, .bot, .bot, .bot, .bot, .bot, .bot, .bot, .bot, .bot, .bot, .bot, .bot, .bot, .bot, .bot, .bot, .bot, .bot, .bot, .bot, .bot, .bot, .bot, .bot, .bot, .bot, .bot, .bot, .bot, .bot, .bot, .bot, .bot, .bot, .bot, .bot, .bot, .bot], [(24, .box [Ti g2.1, Ti g2.2.1, Ti g2.2.2]), (16, .box [Ti f1.1, Ti f1.2.1, Ti f1.2.2])]⟩) ?_ ?_
  · refine XL_cons rfl (X_of_Y1 rfl (Y1_box (cs := [Ti f1.1, Ti f1.2.1, Ti f1.2.2]) rfl (by kernel_rfl))) ?_
    refine XL_cons rfl (X_of_Y1 rfl (Y1_box (cs := [Ti g2.1, Ti g2.2.1, Ti g2.2.2]) rfl (by kernel_rfl))) ?_
    refine XL_cons rfl (X_of_Y0 rfl (E_assign (.c (.v (.string ((⟨#[]⟩ : ByteArray))))) rfl (by kernel_rfl))) ?_
    refine XL_cons rfl (X_of_Y0 rfl (E_assign (Bo false) rfl (by kernel_rfl))) ?_
    refine XL_nil ?_
    kernel_rfl
  refine V_seq ?_
  obtain ⟨y3, hy3, h⟩ := of_bind h
  obtain ⟨b6, hb6, h⟩ := of_bind h
  refine V_sreg [false, false, true, true, false, false, false, false, false, false, false, false, false, false, false, false, false, true, false, false, false, false, false, false, false, false, false, false, false, false, false, false, false, false, false, false, false, false, false, false, false, false, false, false, false] [24, 16] (s1 := ⟨[.bot, .bot, .pt 16 0, .pt 24 0, .bot, .bot, .bot, .bot, .bot, .bot, .bot, .bot, .bot, .bot, .bot, .bot, .bot, Bo b6, .bot, .bot, .bot, .bot, .bot, .bot, .bot, .bot, .bot, .bot, .bot, .bot, .bot, .bot, .bot, .bot, .bot, .bot, .bot, .bot, .bot, .bot, .bot, .bot, .bot, .bot, .bot], [(24, .box [Ti g2.1, Ti g2.2.1, Ti g2.2.2]), (16, .box [Ti f1.1, Ti f1.2.1, Ti f1.2.2])]⟩) ?_ ?_
  · refine XL_cons rfl (X_of_Y0 rfl (E_loadn (cs := [Ti f1.1, Ti f1.2.1, Ti f1.2.2]) [Ti f1.1, Ti f1.2.1, Ti f1.2.2] wd33 rfl (by kernel_rfl) (Nat.le_of_ble_eq_true rfl) (by kernel_rfl))) ?_
    refine XL_cons rfl (X_of_Y1 rfl (Y1_call (s_spec_foDefinite hy3) cf_spec_foDefinite rfl (by kernel_rfl))) ?_
    refine XL_cons rfl (X_of_Y0 rfl (Y0_not (b := y3) rfl (by kernel_rfl))) ?_
    refine XL_cons rfl (X_of_Y0 rfl (E_move (Bo (!y3)) rfl (by kernel_rfl))) ?_
    refine XL_split (!y3) (fun hc4 => ?_) (fun hc4 => ?_)
    · have hb6 := some_inj (of_true hb6 hc4)
      refine XL_skipF (!y3) rfl rfl (by kernel_rfl) hc4 rfl ?_
      refine XL_skipF (!y3) rfl rfl (by kernel_rfl) hc4 rfl ?_
      refine XL_skipF (!y3) rfl rfl (by kernel_rfl) hc4 rfl ?_
      refine XL_cons rfl (X_of_Y0 rfl (Y0_pickTe (b := !y3) (p := true) rfl (by kernel_rfl) hc4 (by kernel_rfl) hb6)) ?_
      refine XL_nil ?_
      kernel_rfl
    · have hb6 := of_false hb6 hc4
      obtain ⟨y5, hy5, hb6⟩ := of_bind hb6
      have hb6 := some_inj hb6
      refine XL_takeC (!y3) rfl rfl (by kernel_rfl) hc4 (X_of_Y0 rfl (E_loadn (cs := [Ti g2.1, Ti g2.2.1, Ti g2.2.2]) [Ti g2.1, Ti g2.2.1, Ti g2.2.2] wd33 rfl (by kernel_rfl) (Nat.le_of_ble_eq_true rfl) (by kernel_rfl))) ?_
      refine XL_takeC (!y3) rfl rfl (by kernel_rfl) hc4 (X_of_Y1 rfl (Y1_call (s_spec_foDefinite hy5) cf_spec_foDefinite rfl (by kernel_rfl))) ?_
      refine XL_takeC (!y3) rfl rfl (by kernel_rfl) hc4 (X_of_Y0 rfl (Y0_not (b := y5) rfl (by kernel_rfl))) ?_
      refine XL_cons rfl (X_of_Y0 rfl (Y0_pickFe (b := !y3) (p := !y5) rfl (by kernel_rfl) hc4 (by kernel_rfl) hb6)) ?_
      refine XL_nil ?_
      kernel_rfl
  refine V_cond rfl (fun hc7 => ?_) (fun hc7 => ?_)
  · have h := of_true h hc7
    refine V_sreg [false, false, false, false, true, true, false, false, false, false, false, false, false, false, false, false, false, false, false, false, false, false, false, false, false, false, false, false, false, false, false, false, false, false, false, false, false, false, false, false, false, false, false, false, false] [] (s1 := ⟨[.bot, .bot, .bot, .bot, .c (.v (.string ((⟨#[]⟩ : ByteArray)))), Bo false, .bot, .bot, .bot, .bot, .bot, .bot, .bot, .bot, .bot, .bot, .bot, .bot, .bot, .bot, .bot, .bot, .bot, .bot, .bot, .bot, .bot, .bot, .bot, .bot, .bot, .bot, .bot, .bot, .bot, .bot, .bot, .bot, .bot, .bot, .bot, .bot, .bot, .bot, .bot], []⟩) ?_ ?_
    · refine XL_cons rfl (X_of_Y0 rfl (E_assign (.c (.v (.string ((⟨#[]⟩ : ByteArray))))) rfl (by kernel_rfl))) ?_
      refine XL_cons rfl (X_of_Y0 rfl (E_assign (Bo false) rfl (by kernel_rfl))) ?_
      refine XL_nil ?_
      kernel_rfl
    refine V_ret ?_
    obtain rfl := some_inj h
    show Post _ _ _ _ _
    exact ⟨.inr rfl, rfl, rfl, rfl⟩
  · have h := of_false h hc7
    refine V_skip ?_
    show V _ _ _ _
    obtain ⟨y8, hy8, h⟩ := of_bind h
    refine V_sreg [false, false, true, true, false, false, true, true, false, false, false, false, false, false, false, false, false, false, false, false, false, false, false, false, false, false, false, false, false, false, false, false, false, false, false, false, false, false, false, false, false, false, false, false, false] [56, 48, 24, 16] (s1 := ⟨[.bot, .bot, .pt 16 0, .pt 24 0, .bot, .bot, .pt 48 0, .pt 56 0, .bot, .bot, .bot, .bot, .bot, .bot, .bot, .bot, .bot, .bot, .bot, .bot, .bot, .bot, .bot, .bot, .bot, .bot, .bot, .bot, .bot, .bot, .bot, .bot, .bot, .bot, .bot, .bot, .bot, .bot, .bot, .bot, .bot, .bot, .bot, .bot, .bot], [(56, .box [Ti y8.2.1, Ti y8.2.2.1, Ti y8.2.2.2.1, Ti y8.2.2.2.2]), (48, .box [Ti y8.1.1, Ti y8.1.2.1, Ti y8.1.2.2]), (24, .box [Ti g2.1, Ti g2.2.1, Ti g2.2.2]), (16, .box [Ti f1.1, Ti f1.2.1, Ti f1.2.2])]⟩) ?_ ?_
    · refine XL_cons rfl (X_of_Y0 rfl (E_loadn (cs := [Ti f1.1, Ti f1.2.1, Ti f1.2.2]) [Ti f1.1, Ti f1.2.1, Ti f1.2.2] wd33 rfl (by kernel_rfl) (Nat.le_of_ble_eq_true rfl) (by kernel_rfl))) ?_
      refine XL_cons rfl (X_of_Y1 rfl (Y1_call (s_spec_reReduce hy8) cf_spec_reReduce rfl (by kernel_rfl))) ?_
      refine XL_cons rfl (X_of_Y0 rfl (E_move (.tc (.ag [Ti y8.1.1, Ti y8.1.2.1, Ti y8.1.2.2]) (.tc (.ag [Ti y8.2.1, Ti y8.2.2.1, Ti y8.2.2.2.1, Ti y8.2.2.2.2]) .tn)) rfl (by kernel_rfl))) ?_
      refine XL_cons rfl (X_of_Y0 rfl (E_ext (n := 0) (.ag [Ti y8.1.1, Ti y8.1.2.1, Ti y8.1.2.2]) (.tc (.ag [Ti y8.2.1, Ti y8.2.2.1, Ti y8.2.2.2.1, Ti y8.2.2.2.2]) .tn) (.ag [Ti y8.1.1, Ti y8.1.2.1, Ti y8.1.2.2]) rfl (by kernel_rfl) (by kernel_rfl) (by intro hh; cases hh))) ?_
      refine XL_cons rfl (X_of_Y0 rfl (E_ext (n := 1) (.ag [Ti y8.1.1, Ti y8.1.2.1, Ti y8.1.2.2]) (.tc (.ag [Ti y8.2.1, Ti y8.2.2.1, Ti y8.2.2.2.1, Ti y8.2.2.2.2]) .tn) (.ag [Ti y8.2.1, Ti y8.2.2.1, Ti y8.2.2.2.1, Ti y8.2.2.2.2]) rfl (by kernel_rfl) (by kernel_rfl) (by intro hh; cases hh))) ?_
      refine XL_cons rfl (X_of_Y1 rfl (Y1_alloc (z := zv33) rfl zf33 rfl)) ?_
      refine XL_cons rfl (X_of_Y1 rfl (Y1_alloc (z := zv53) rfl zf53 rfl)) ?_
      refine XL_cons rfl (E_store (id := 48) (off := 0) (cs := [Ti 0, Ti 0, Ti 0]) (vc := [Ti y8.1.1, Ti y8.1.2.1, Ti y8.1.2.2]) [Ti y8.1.1, Ti y8.1.2.1, Ti y8.1.2.2] rfl rfl (by kernel_rfl) (by kernel_rfl) (by kernel_rfl) sz33 (Nat.le_of_ble_eq_true rfl) (by kernel_rfl)) ?_
      refine XL_cons rfl (E_store (id := 56) (off := 0) (cs := [Ti 0, Ti 0, Ti 0, Ti 0]) (vc := [Ti y8.2.1, Ti y8.2.2.1, Ti y8.2.2.2.1, Ti y8.2.2.2.2]) [Ti y8.2.1, Ti y8.2.2.1, Ti y8.2.2.2.1, Ti y8.2.2.2.2] rfl rfl (by kernel_rfl) (by kernel_rfl) (by kernel_rfl) sz53 (Nat.le_of_ble_eq_true rfl) (by kernel_rfl)) ?_
      refine XL_nil ?_
      kernel_rfl
    obtain ⟨y9, hy9, h⟩ := of_bind h
    refine V_sreg [false, false, true, true, false, false, true, true, true, true, false, false, false, false, false, false, false, false, false, false, false, false, false, false, false, false, false, false, false, false, false, false, false, false, false, false, false, false, false, false, false, false, false, false, false] [72, 64, 56, 48, 24, 16] (s1 := ⟨[.bot, .bot, .pt 16 0, .pt 24 0, .bot, .bot, .pt 48 0, .pt 56 0, .pt 64 0, .pt 72 0, .bot, .bot, .bot, .bot, .bot, .bot, .bot, .bot, .bot, .bot, .bot, .bot, .bot, .bot, .bot, .bot, .bot, .bot, .bot, .bot, .bot, .bot, .bot, .bot, .bot, .bot, .bot, .bot, .bot, .bot, .bot, .bot, .bot, .bot, .bot], [(72, .box [Ti y9.2.1, Ti y9.2.2.1, Ti y9.2.2.2.1, Ti y9.2.2.2.2]), (64, .box [Ti y9.1.1, Ti y9.1.2.1, Ti y9.1.2.2]), (56, .box [Ti y8.2.1, Ti y8.2.2.1, Ti y8.2.2.2.1, Ti y8.2.2.2.2]), (48, .box [Ti y8.1.1, Ti y8.1.2.1, Ti y8.1.2.2]), (24, .box [Ti g2.1, Ti g2.2.1, Ti g2.2.2]), (16, .box [Ti f1.1, Ti f1.2.1, Ti f1.2.2])]⟩) ?_ ?_
    · refine XL_cons rfl (X_of_Y0 rfl (E_loadn (cs := [Ti g2.1, Ti g2.2.1, Ti g2.2.2]) [Ti g2.1, Ti g2.2.1, Ti g2.2.2] wd33 rfl (by kernel_rfl) (Nat.le_of_ble_eq_true rfl) (by kernel_rfl))) ?_
      refine XL_cons rfl (X_of_Y1 rfl (Y1_call (s_spec_reReduce hy9) cf_spec_reReduce rfl (by kernel_rfl))) ?_
      refine XL_cons rfl (X_of_Y0 rfl (E_move (.tc (.ag [Ti y9.1.1, Ti y9.1.2.1, Ti y9.1.2.2]) (.tc (.ag [Ti y9.2.1, Ti y9.2.2.1, Ti y9.2.2.2.1, Ti y9.2.2.2.2]) .tn)) rfl (by kernel_rfl))) ?_
      refine XL_cons rfl (X_of_Y0 rfl (E_ext (n := 0) (.ag [Ti y9.1.1, Ti y9.1.2.1, Ti y9.1.2.2]) (.tc (.ag [Ti y9.2.1, Ti y9.2.2.1, Ti y9.2.2.2.1, Ti y9.2.2.2.2]) .tn) (.ag [Ti y9.1.1, Ti y9.1.2.1, Ti y9.1.2.2]) rfl (by kernel_rfl) (by kernel_rfl) (by intro hh; cases hh))) ?_
      refine XL_cons rfl (X_of_Y0 rfl (E_ext (n := 1) (.ag [Ti y9.1.1, Ti y9.1.2.1, Ti y9.1.2.2]) (.tc (.ag [Ti y9.2.1, Ti y9.2.2.1, Ti y9.2.2.2.1, Ti y9.2.2.2.2]) .tn) (.ag [Ti y9.2.1, Ti y9.2.2.1, Ti y9.2.2.2.1, Ti y9.2.2.2.2]) rfl (by kernel_rfl) (by kernel_rfl) (by intro hh; cases hh))) ?_
      refine XL_cons rfl (X_of_Y1 rfl (Y1_alloc (z := zv33) rfl zf33 rfl)) ?_
      refine XL_cons rfl (X_of_Y1 rfl (Y1_alloc (z := zv53) rfl zf53 rfl)) ?_
      refine XL_cons rfl (E_store (id := 64) (off := 0) (cs := [Ti 0, Ti 0, Ti 0]) (vc := [Ti y9.1.1, Ti y9.1.2.1, Ti y9.1.2.2]) [Ti y9.1.1, Ti y9.1.2.1, Ti y9.1.2.2] rfl rfl (by kernel_rfl) (by kernel_rfl) (by kernel_rfl) sz33 (Nat.le_of_ble_eq_true rfl) (by kernel_rfl)) ?_
      refine XL_cons rfl (E_store (id := 72) (off := 0) (cs := [Ti 0, Ti 0, Ti 0, Ti 0]) (vc := [Ti y9.2.1, Ti y9.2.2.1, Ti y9.2.2.2.1, Ti y9.2.2.2.2]) [Ti y9.2.1, Ti y9.2.2.1, Ti y9.2.2.2.1, Ti y9.2.2.2.2] rfl rfl (by kernel_rfl) (by kernel_rfl) (by kernel_rfl) sz53 (Nat.le_of_ble_eq_true rfl) (by kernel_rfl)) ?_
      refine XL_nil ?_
      kernel_rfl
    refine V_seq ?_
    obtain ⟨t10, ht10, h⟩ := of_bind h
    have ht10 := some_inj ht10
    refine V_sreg [false, false, true, true, false, false, true, true, true, true, false, false, false, false, false, false, false, false, false, false, false, false, false, false, false, false, false, false, false, false, true, false, false, false, false, false, false, false, false, false, false, false, false, false, false] [72, 64, 56, 48, 24, 16] (s1 := ⟨[.bot, .bot, .pt 16 0, .pt 24 0, .bot, .bot, .pt 48 0, .pt 56 0, .pt 64 0, .pt 72 0, .bot, .bot, .bot, .bot, .bot, .bot, .bot, .bot, .bot, .bot, .bot, .bot, .bot, .bot, .bot, .bot, .bot, .bot, .bot, .bot, Bo t10, .bot, .bot, .bot, .bot, .bot, .bot, .bot, .bot, .bot, .bot, .bot, .bot, .bot, .bot], [(72, .box [Ti y9.2.1, Ti y9.2.2.1, Ti y9.2.2.2.1, Ti y9.2.2.2.2]), (64, .box [Ti y9.1.1, Ti y9.1.2.1, Ti y9.1.2.2]), (56, .box [Ti y8.2.1, Ti y8.2.2.1, Ti y8.2.2.2.1, Ti y8.2.2.2.2]), (48, .box [Ti y8.1.1, Ti y8.1.2.1, Ti y8.1.2.2]), (24, .box [Ti g2.1, Ti g2.2.1, Ti g2.2.2]), (16, .box [Ti f1.1, Ti f1.2.1, Ti f1.2.2])]⟩) ?_ ?_
    · refine XL_cons rfl (X_of_Y0 rfl (E_loadn (cs := [Ti y8.1.1, Ti y8.1.2.1, Ti y8.1.2.2]) [Ti y8.1.1, Ti y8.1.2.1, Ti y8.1.2.2] wd33 rfl (by kernel_rfl) (Nat.le_of_ble_eq_true rfl) (by kernel_rfl))) ?_
      refine XL_cons rfl (X_of_Y0 rfl (E_loadn (cs := [Ti y9.1.1, Ti y9.1.2.1, Ti y9.1.2.2]) [Ti y9.1.1, Ti y9.1.2.1, Ti y9.1.2.2] wd33 rfl (by kernel_rfl) (Nat.le_of_ble_eq_true rfl) (by kernel_rfl))) ?_
      refine XL_cons rfl (X_of_Y0 rfl (Y0_eqg3 (a0 := y8.1.1) (b0 := y9.1.1) (a1 := y8.1.2.1) (b1 := y9.1.2.1) (a2 := y8.1.2.2) (b2 := y9.1.2.2) eqg33 rfl (by kernel_rfl) (by kernel_rfl))) ?_
      refine XL_nil ?_
      subst ht10
      kernel_rfl
    refine V_cond rfl (fun hc11 => ?_) (fun hc11 => ?_)
    · have h := of_true h hc11
      refine V_sreg [false, false, false, false, true, true, false, false, false, false, false, false, false, false, false, false, false, false, false, false, false, false, false, false, false, false, false, false, false, false, false, false, false, false, false, false, false, false, false, false, false, false, false, false, false] [] (s1 := ⟨[.bot, .bot, .bot, .bot, .c (.v (.string ((⟨#[]⟩ : ByteArray)))), Bo false, .bot, .bot, .bot, .bot, .bot, .bot, .bot, .bot, .bot, .bot, .bot, .bot, .bot, .bot, .bot, .bot, .bot, .bot, .bot, .bot, .bot, .bot, .bot, .bot, .bot, .bot, .bot, .bot, .bot, .bot, .bot, .bot, .bot, .bot, .bot, .bot, .bot, .bot, .bot], []⟩) ?_ ?_
      · refine XL_cons rfl (X_of_Y0 rfl (E_assign (.c (.v (.string ((⟨#[]⟩ : ByteArray))))) rfl (by kernel_rfl))) ?_
        refine XL_cons rfl (X_of_Y0 rfl (E_assign (Bo false) rfl (by kernel_rfl))) ?_
        refine XL_nil ?_
        kernel_rfl
      refine V_ret ?_
      obtain rfl := some_inj h
      show Post _ _ _ _ _
      exact ⟨.inr rfl, rfl, rfl, rfl⟩
    · have h := of_false h hc11
      refine V_skip ?_
      show V _ _ _ _
      obtain ⟨y12, hy12, h⟩ := of_bind h
      obtain ⟨y13, hy13, h⟩ := of_bind h
      obtain ⟨y14, hy14, h⟩ := of_bind h
      obtain ⟨y15, hy15, h⟩ := of_bind h
      obtain ⟨y16, hy16, h⟩ := of_bind h
      obtain ⟨y17, hy17, h⟩ := of_bind h
      obtain ⟨y18, hy18, h⟩ := of_bind h
      refine V_sdreg [0, 1, 0, 7, 0, 31, 0, 127, 0, 511, 0, 2047, 4095, 8191, 16383, 32767] 16 [[.z, .z, .b, .z, .b, .z, .b, .z, .b, .z, .b, .z, .z, .z, .z, .z], [.a, .z, .b, .z, .b, .z, .b, .z, .b, .z, .b, .z, .z, .z, .z, .z], [.b, .b, .z, .z, .b, .z, .b, .z, .b, .z, .b, .z, .z, .z, .z, .z], [.a, .a, .a, .z, .b, .z, .b, .z, .b, .z, .b, .z, .z, .z, .z, .z], [.b, .b, .b, .b, .z, .z, .b, .z, .b, .z, .b, .z, .z, .z, .z, .z], [.a, .a, .a, .a, .a, .z, .b, .z, .b, .z, .b, .z, .z, .z, .z, .z], [.b, .b, .b, .b, .b, .b, .z, .z, .b, .z, .b, .z, .z, .z, .z, .z], [.a, .a, .a, .a, .a, .a, .a, .z, .b, .z, .b, .z, .z, .z, .z, .z], [.b, .b, .b, .b, .b, .b, .b, .b, .z, .z, .b, .z, .z, .z, .z, .z], [.a, .a, .a, .a, .a, .a, .a, .a, .a, .z, .b, .z, .z, .z, .z, .z], [.b, .b, .b, .b, .b, .b, .b, .b, .b, .b, .z, .z, .z, .z, .z, .z], [.a, .a, .a, .a, .a, .a, .a, .a, .a, .a, .a, .z, .z, .z, .z, .z], [.a, .a, .a, .a, .a, .a, .a, .a, .a, .a, .a, .a, .z, .z, .z, .z], [.a, .a, .a, .a, .a, .a, .a, .a, .a, .a, .a, .a, .a, .z, .z, .z], [.a, .a, .a, .a, .a, .a, .a, .a, .a, .a, .a, .a, .a, .a, .z, .z], [.a, .a, .a, .a, .a, .a, .a, .a, .a, .a, .a, .a, .a, .a, .a, .z]] [false, false, false, false, true, true, false, false, false, false, false, false, false, false, false, false, false, false, false, false, false, false, false, false, false, false, false, false, false, false, false, false, false, false, false, false, false, false, false, false, false, false, false, false, false] [] (s1 := ⟨[.bot, .bot, .bot, .bot, .c (.v (.string y18)), Bo true, .bot, .bot, .bot, .bot, .bot, .bot, .bot, .bot, .bot, .bot, .bot, .bot, .bot, .bot, .bot, .bot, .bot, .bot, .bot, .bot, .bot, .bot, .bot, .bot, .bot, .bot, .bot, .bot, .bot, .bot, .bot, .bot, .bot, .bot, .bot, .bot, .bot, .bot, .bot], []⟩) (by kernel_rfl) (by kernel_rfl) ?_ ?_
      · refine DE_0 0 (.ag [Ti f1.1, Ti f1.2.1, Ti f1.2.2]) (by kernel_rfl) rfl rfl rfl (gsat_none rfl) (by kernel_rfl) (E_loadn (cs := [Ti f1.1, Ti f1.2.1, Ti f1.2.2]) [Ti f1.1, Ti f1.2.1, Ti f1.2.2] wd33 rfl (by kernel_rfl) (Nat.le_of_ble_eq_true rfl) (by kernel_rfl)) 31 rfl ?_
        refine DE_1 1 (by kernel_rfl) rfl rfl rfl (gsat_none rfl) (Y1_call (s_spec_foText hy12) cf_spec_foText rfl (by kernel_rfl)) rfl rfl rfl 32 rfl ?_
        refine DE_0 2 (.ag [Ti y8.2.1, Ti y8.2.2.1, Ti y8.2.2.2.1, Ti y8.2.2.2.2]) (by kernel_rfl) rfl rfl rfl (gsat_none rfl) (by kernel_rfl) (E_loadn (cs := [Ti y8.2.1, Ti y8.2.2.1, Ti y8.2.2.2.1, Ti y8.2.2.2.2]) [Ti y8.2.1, Ti y8.2.2.1, Ti y8.2.2.2.1, Ti y8.2.2.2.2] wd53 rfl (by kernel_rfl) (Nat.le_of_ble_eq_true rfl) (by kernel_rfl)) 33 rfl ?_
        refine DE_1 3 (by kernel_rfl) rfl rfl rfl (gsat_none rfl) (Y1_call (s_spec_foMatrixText hy13) cf_spec_foMatrixText rfl (by kernel_rfl)) rfl rfl rfl 34 rfl ?_
        refine DE_0 4 (.ag [Ti y8.1.1, Ti y8.1.2.1, Ti y8.1.2.2]) (by kernel_rfl) rfl rfl rfl (gsat_none rfl) (by kernel_rfl) (E_loadn (cs := [Ti y8.1.1, Ti y8.1.2.1, Ti y8.1.2.2]) [Ti y8.1.1, Ti y8.1.2.1, Ti y8.1.2.2] wd33 rfl (by kernel_rfl) (Nat.le_of_ble_eq_true rfl) (by kernel_rfl)) 35 rfl ?_
        refine DE_1 5 (by kernel_rfl) rfl rfl rfl (gsat_none rfl) (Y1_call (s_spec_foText hy14) cf_spec_foText rfl (by kernel_rfl)) rfl rfl rfl 36 rfl ?_
        refine DE_0 6 (.ag [Ti g2.1, Ti g2.2.1, Ti g2.2.2]) (by kernel_rfl) rfl rfl rfl (gsat_none rfl) (by kernel_rfl) (E_loadn (cs := [Ti g2.1, Ti g2.2.1, Ti g2.2.2]) [Ti g2.1, Ti g2.2.1, Ti g2.2.2] wd33 rfl (by kernel_rfl) (Nat.le_of_ble_eq_true rfl) (by kernel_rfl)) 37 rfl ?_
        refine DE_1 7 (by kernel_rfl) rfl rfl rfl (gsat_none rfl) (Y1_call (s_spec_foText hy15) cf_spec_foText rfl (by kernel_rfl)) rfl rfl rfl 38 rfl ?_
        refine DE_0 8 (.ag [Ti y9.2.1, Ti y9.2.2.1, Ti y9.2.2.2.1, Ti y9.2.2.2.2]) (by kernel_rfl) rfl rfl rfl (gsat_none rfl) (by kernel_rfl) (E_loadn (cs := [Ti y9.2.1, Ti y9.2.2.1, Ti y9.2.2.2.1, Ti y9.2.2.2.2]) [Ti y9.2.1, Ti y9.2.2.1, Ti y9.2.2.2.1, Ti y9.2.2.2.2] wd53 rfl (by kernel_rfl) (Nat.le_of_ble_eq_true rfl) (by kernel_rfl)) 39 rfl ?_
        refine DE_1 9 (by kernel_rfl) rfl rfl rfl (gsat_none rfl) (Y1_call (s_spec_foMatrixText hy16) cf_spec_foMatrixText rfl (by kernel_rfl)) rfl rfl rfl 40 rfl ?_
        refine DE_0 10 (.ag [Ti y9.1.1, Ti y9.1.2.1, Ti y9.1.2.2]) (by kernel_rfl) rfl rfl rfl (gsat_none rfl) (by kernel_rfl) (E_loadn (cs := [Ti y9.1.1, Ti y9.1.2.1, Ti y9.1.2.2]) [Ti y9.1.1, Ti y9.1.2.1, Ti y9.1.2.2] wd33 rfl (by kernel_rfl) (Nat.le_of_ble_eq_true rfl) (by kernel_rfl)) 41 rfl ?_
        refine DE_1 11 (by kernel_rfl) rfl rfl rfl (gsat_none rfl) (Y1_call (s_spec_foText hy17) cf_spec_foText rfl (by kernel_rfl)) rfl rfl rfl 42 rfl ?_
        refine DE_1 12 (by kernel_rfl) rfl rfl rfl (gsat_none rfl) (Y1_bslice (z := zv9) (els := [(⟨#[100, 105, 102, 102, 101, 114, 101, 110, 116]⟩ : ByteArray), y12, y13, y14, y15, y16, y17].map c9) Tryd.underlying22 iz9 rfl (by decide) rfl (by kernel_rfl) rfl (by simp [c9]) (by decide) (by decide)) rfl rfl rfl 43 rfl ?_
        refine DE_1 13 (by kernel_rfl) rfl rfl rfl (gsat_none rfl) (Y1_callS (s_spec_prText hy18) cf_spec_prText rfl (by kernel_rfl) rfl rfl) rfl rfl rfl 44 rfl ?_
        refine DE_0 14 (.c (.v (.string y18))) (by kernel_rfl) rfl rfl rfl (gsat_none rfl) (by kernel_rfl) (E_assign (.c (.v (.string y18))) rfl (by kernel_rfl)) 4 rfl ?_
        refine DE_0 15 (Bo true) (by kernel_rfl) rfl rfl rfl (gsat_none rfl) (by kernel_rfl) (E_assign (Bo true) rfl (by kernel_rfl)) 5 rfl ?_
        refine DL_nil (by kernel_rfl) ?_
        refine XL_nil ?_
        kernel_rfl
      refine V_ret ?_
      obtain rfl := some_inj h
      show Post _ _ _ _ _
      exact ⟨.inr rfl, rfl, rfl, rfl⟩
theorem cf_impl_areNumbers : ∀ args w, (callFunc 59 args).run Tryd.prog w = .ok (.enter 59 args) w := run_callFunc Tryd.func59 (by kernel_rfl) (by kernel_rfl)
set_option maxRecDepth 100000 in
set_option maxHeartbeats 400000 in
theorem s_impl_areNumbers {list1 : List Int} {r : Bool} (h : r_impl_areNumbers list1 = some r) : CallS Tryd.prog 59 [.c (.sl (list1.map c3))] (Bo r) [] := by
  refine CallS_of_text (rs := [.t 2]) (vs := [.tmp 2]) Tryd.func59 rfl rfl (.cons rfl FitsL.nil) (by decide) 18 rfl ?_
  unfold r_impl_areNumbers at h
  show V _ _ ⟨[.c (.sl (list1.map c3)), .bot, .bot, .bot, .bot, .bot, .bot, .bot, .bot, .bot, .bot, .bot, .bot, .bot, .bot, .bot, .bot, .bot], []⟩ _
  refine V_sreg [true, false, false, false, false, false, false, false, false, false, false, false, false, false, false, false, false, false] [] (s1 := ⟨[.c (.sl (list1.map c3)), .bot, .bot, .bot, .bot, .bot, .bot, .bot, .bot, .bot, .bot, .bot, .bot, .bot, .bot, .bot, .bot, .bot], []⟩) ?_ ?_
  · refine XL_cons rfl (X_of_Y0 rfl (E_assign (Bo false) rfl (by kernel_rfl))) ?_
    refine XL_nil ?_
    kernel_rfl
  refine V_seq ?_
  refine V_sreg [false, false, false, false, false, true, true, true, false, false, false, false, false, false, false, false, false, false] [] (s1 := ⟨[.bot, .bot, .bot, .bot, .bot, .c (.sl (list1.map c3)), I ((list1.length : Int)), I 0, .bot, .bot, .bot, .bot, .bot, .bot, .bot, .bot, .bot, .bot], []⟩) ?_ ?_
  · refine XL_cons rfl (X_of_Y0 rfl (E_move (.c (.sl (list1.map c3))) rfl (by kernel_rfl))) ?_
    refine XL_cons rfl (X_of_Y0 rfl (Y0_lenM (c := c3) (xs := list1) Tryd.underlying43 rfl (by kernel_rfl))) ?_
    refine XL_cons rfl (X_of_Y0 rfl (E_move (I 0) rfl (by kernel_rfl))) ?_
    refine XL_nil ?_
    kernel_rfl
  obtain ⟨qo4, hLo4, hko4⟩ := of_bind h
  refine V_toS (q := qo4) (S := fun o4 => ⟨[.bot, .bot, .bot, .bot, .bot, .bot, .bot, .bot, .bot, .bot, .bot, .bot, .bot, .bot, .bot, .bot, .bot, .bot], []⟩) [false, false, false, false, false, false, false, false, false, false, false, false, false, false, false, false, false, false] [] ?_ ?_
  · refine V_block (V_loop (fun n s => ∃ (t2 : Int), s.keep [false, false, false, false, false, true, true, true, false, false, false, false, false, false, false, false, false, false] [] = (⟨[.bot, .bot, .bot, .bot, .bot, .c (.sl (list1.map c3)), I ((list1.length : Int)), I t2, .bot, .bot, .bot, .bot, .bot, .bot, .bot, .bot, .bot, .bot], []⟩ : St) ∧ r_impl_areNumbers_L3 list1 n t2 = some qo4) FU ⟨_,  by rfl, hLo4⟩ ?_)
    clear hLo4
    rintro n s ⟨t2, hs, h⟩
    refine V_keep _ _ hs ?_
    clear hs
    cases n with
    | zero => cases h
    | succ n =>
      rw [r_impl_areNumbers_L3] at h
      refine V_sreg [false, false, false, false, false, true, true, true, true, false, false, false, false, false, false, false, false, false] [] (s1 := ⟨[.bot, .bot, .bot, .bot, .bot, .c (.sl (list1.map c3)), I ((list1.length : Int)), I t2, Bo (ltI t2 ((list1.length : Int))), .bot, .bot, .bot, .bot, .bot, .bot, .bot, .bot, .bot], []⟩) ?_ ?_
      · refine XL_cons rfl (X_of_Y0 rfl (Y0_ltw (k := .i64) (a := t2) (b := (list1.length : Int)) rfl (by kernel_rfl) (by kernel_rfl))) ?_
        refine XL_nil ?_
        kernel_rfl
      refine V_seq ?_
      refine V_cond rfl (fun hc5 => ?_) (fun hc5 => ?_)
      · have h := of_true h hc5
        refine V_skip ?_
        show V _ _ _ _
        refine V_seq ?_
        refine V_block ?_
        obtain ⟨e6, he6, h⟩ := of_bind h
        refine V_sreg [false, false, false, false, true, true, true, true, false, false, false, false, false, false, false, false, false, false] [] (s1 := ⟨[.bot, .bot, .bot, .bot, I e6, .c (.sl (list1.map c3)), I ((list1.length : Int)), I t2, .bot, .bot, .bot, .bot, .bot, .bot, .bot, .bot, .bot, .bot], []⟩) ?_ ?_
        · refine XL_cons rfl (X_of_Y0 rfl (Y0_idxM (c := c3) (xs := list1) (v := e6) (n := t2) Tryd.underlying43 sz3 rfl (by kernel_rfl) (by kernel_rfl) he6)) ?_
          refine XL_cons rfl (X_of_Y0 rfl (Y0_load1 (c := Ti e6) (cs := []) sc3 rfl (by kernel_rfl))) ?_
          refine XL_cons rfl (X_of_Y0 rfl (E_assign (I e6) rfl (by kernel_rfl))) ?_
          refine XL_nil ?_
          kernel_rfl
        refine V_sreg [false, false, false, false, false, true, true, true, false, false, false, false, false, false, false, false, true, false] [] (s1 := ⟨[.bot, .bot, .bot, .bot, .bot, .c (.sl (list1.map c3)), I ((list1.length : Int)), I t2, .bot, .bot, .bot, .bot, .bot, .bot, .bot, .bot, Bo (bif (ltI e6 (-1000000)) then true else (ltI 1000000 e6)), .bot], []⟩) ?_ ?_
        · refine XL_cons rfl (X_of_Y0 rfl (E_move (I e6) rfl (by kernel_rfl))) ?_
          refine XL_cons rfl (X_of_Y0 rfl (Y0_ltw (k := .i64) (a := e6) (b := -1000000) rfl (by kernel_rfl) (by kernel_rfl))) ?_
          refine XL_cons rfl (X_of_Y0 rfl (E_move (Bo (ltI e6 (-1000000))) rfl (by kernel_rfl))) ?_
          refine XL_split (ltI e6 (-1000000)) (fun hc7 => ?_) (fun hc7 => ?_)
          · refine XL_skipF (ltI e6 (-1000000)) rfl rfl (by kernel_rfl) hc7 rfl ?_
            refine XL_skipF (ltI e6 (-1000000)) rfl rfl (by kernel_rfl) hc7 rfl ?_
            refine XL_cons rfl (X_of_Y0 rfl (Y0_pick1 (b := ltI e6 (-1000000)) (p := true) (q := ltI 1000000 e6) rfl (by kernel_rfl) hc7 (by kernel_rfl))) ?_
            refine XL_nil ?_
            kernel_rfl
          · refine XL_takeC (ltI e6 (-1000000)) rfl rfl (by kernel_rfl) hc7 (X_of_Y0 rfl (E_move (I e6) rfl (by kernel_rfl))) ?_
            refine XL_takeC (ltI e6 (-1000000)) rfl rfl (by kernel_rfl) hc7 (X_of_Y0 rfl (Y0_gtw (k := .i64) (a := e6) (b := 1000000) rfl (by kernel_rfl) (by kernel_rfl))) ?_
            refine XL_cons rfl (X_of_Y0 rfl (Y0_pick0 (b := ltI e6 (-1000000)) (p := true) (q := ltI 1000000 e6) rfl (by kernel_rfl) hc7 (by kernel_rfl))) ?_
            refine XL_nil ?_
            kernel_rfl
        refine V_cond rfl (fun hc8 => ?_) (fun hc8 => ?_)
        · have h := of_true h hc8
          refine V_sreg [false, false, true, false, false, false, false, false, false, false, false, false, false, false, false, false, false, false] [] (s1 := ⟨[.bot, .bot, Bo false, .bot, .bot, .bot, .bot, .bot, .bot, .bot, .bot, .bot, .bot, .bot, .bot, .bot, .bot, .bot], []⟩) ?_ ?_
          · refine XL_cons rfl (X_of_Y0 rfl (E_assign (Bo false) rfl (by kernel_rfl))) ?_
            refine XL_nil ?_
            kernel_rfl
          refine V_ret ?_
          obtain rfl := some_inj h
          have h := hko4
          obtain rfl := some_inj h
          show Post _ _ _ _ _
          exact ⟨.inr rfl, rfl, rfl, rfl⟩
        · have h := of_false h hc8
          refine V_skip ?_
          show V _ _ _ _
          obtain ⟨t9, ht9, h⟩ := of_sI h
          refine V_reg [false, false, false, false, false, true, true, true, false, false, false, false, false, false, false, false, false, false] [] (s1 := ⟨[.bot, .bot, .bot, .bot, .bot, .c (.sl (list1.map c3)), I ((list1.length : Int)), I t9, .bot, .bot, .bot, .bot, .bot, .bot, .bot, .bot, .bot, .bot], []⟩) ?_ ?_
          · refine XL_cons rfl (X_of_Y0 rfl (Y0_add64 (a := t2) (b := 1) rfl (by kernel_rfl) (by kernel_rfl))) ?_
            refine XL_cons rfl (X_of_Y0 rfl (E_move (I (w64 (t2 + 1))) rfl (by kernel_rfl))) ?_
            refine XL_nil ?_
            subst ht9
            kernel_rfl
          exact ⟨n, Nat.lt_succ_self n, _,  by rfl, h⟩
      · have h := of_false h hc5
        refine V_exit ?_
        obtain rfl := some_inj h
        exact ⟨_, rfl, by rfl⟩
  rintro o4 rfl
  have h := hko4
  clear hko4
  show V _ _ _ _
  refine V_sreg [false, false, true, false, false, false, false, false, false, false, false, false, false, false, false, false, false, false] [] (s1 := ⟨[.bot, .bot, Bo true, .bot, .bot, .bot, .bot, .bot, .bot, .bot, .bot, .bot, .bot, .bot, .bot, .bot, .bot, .bot], []⟩) ?_ ?_
  · refine XL_cons rfl (X_of_Y0 rfl (E_assign (Bo true) rfl (by kernel_rfl))) ?_
    refine XL_nil ?_
    kernel_rfl
  refine V_ret ?_
  obtain rfl := some_inj h
  show Post _ _ _ _ _
  exact ⟨.inr rfl, rfl, rfl, rfl⟩
theorem cf_impl_IsForm : ∀ args w, (callFunc 132 args).run Tryd.prog w = .ok (.enter 132 args) w := run_callFunc Tryd.func132 (by kernel_rfl) (by kernel_rfl)
set_option maxRecDepth 100000 in
set_option maxHeartbeats 400000 in
theorem s_impl_IsForm {f1 : (Int × Int × Int)} {r : Bool} (h : r_impl_IsForm f1 = some r) : CallS Tryd.prog 132 [.ag [Ti f1.1, Ti f1.2.1, Ti f1.2.2]] (Bo r) [] := by
  refine CallS_of_text (rs := [.t 2]) (vs := [.tmp 2]) Tryd.func132 rfl rfl (.cons rfl FitsL.nil) (by decide) 11 rfl ?_
  unfold r_impl_IsForm at h
  show V _ _ ⟨[.ag [Ti f1.1, Ti f1.2.1, Ti f1.2.2], .bot, .bot, .bot, .bot, .bot, .bot, .bot, .bot, .bot, .bot], []⟩ _
  refine V_sreg [false, true, false, false, false, false, false, false, false, false, false] [8] (s1 := ⟨[.bot, .pt 8 0, .bot, .bot, .bot, .bot, .bot, .bot, .bot, .bot, .bot], [(8, .box [Ti f1.1, Ti f1.2.1, Ti f1.2.2])]⟩) ?_ ?_
  · refine XL_cons rfl (X_of_Y1 rfl (Y1_box (cs := [Ti f1.1, Ti f1.2.1, Ti f1.2.2]) rfl (by kernel_rfl))) ?_
    refine XL_cons rfl (X_of_Y0 rfl (E_assign (Bo false) rfl (by kernel_rfl))) ?_
    refine XL_nil ?_
    kernel_rfl
  obtain ⟨y2, hy2, h⟩ := of_bind h
  refine V_sreg [false, false, true, false, false, false, false, false, false, false, false] [] (s1 := ⟨[.bot, .bot, Bo y2, .bot, .bot, .bot, .bot, .bot, .bot, .bot, .bot], []⟩) ?_ ?_
  · refine XL_cons rfl (X_of_Y0 rfl (E_field (.pt 8 0) Tryd.underlying33 rfl sz3 rfl (by kernel_rfl) (by intro hh; cases hh))) ?_
    refine XL_cons rfl (X_of_Y0 rfl (Y0_load1 (c := Ti f1.1) (cs := [Ti f1.2.1, Ti f1.2.2]) sc3 rfl (by kernel_rfl))) ?_
    refine XL_cons rfl (X_of_Y0 rfl (E_field (.pt 8 1) Tryd.underlying33 rfl sz3 rfl (by kernel_rfl) (by intro hh; cases hh))) ?_
    refine XL_cons rfl (X_of_Y0 rfl (Y0_load1 (c := Ti f1.2.1) (cs := [Ti f1.2.2]) sc3 rfl (by kernel_rfl))) ?_
    refine XL_cons rfl (X_of_Y0 rfl (E_field (.pt 8 2) Tryd.underlying33 rfl sz3 rfl (by kernel_rfl) (by intro hh; cases hh))) ?_
    refine XL_cons rfl (X_of_Y0 rfl (Y0_load1 (c := Ti f1.2.2) (cs := []) sc3 rfl (by kernel_rfl))) ?_
    refine XL_cons rfl (X_of_Y1 rfl (Y1_bslice (z := zv3) (els := [f1.1, f1.2.1, f1.2.2].map c3) Tryd.underlying43 iz3 rfl (by decide) rfl (by kernel_rfl) rfl (by simp [c3]) (by decide) (by decide))) ?_
    refine XL_cons rfl (X_of_Y1 rfl (Y1_callS (s_impl_areNumbers hy2) cf_impl_areNumbers rfl (by kernel_rfl) rfl rfl)) ?_
    refine XL_cons rfl (X_of_Y0 rfl (E_assign (Bo y2) rfl (by kernel_rfl))) ?_
    refine XL_nil ?_
    kernel_rfl
  refine V_ret ?_
  obtain rfl := some_inj h
  show Post _ _ _ _ _
  exact ⟨.inr rfl, rfl, rfl, rfl⟩
theorem cf_impl_Form_disc : ∀ args w, (callFunc 133 args).run Tryd.prog w = .ok (.enter 133 args) w := run_callFunc Tryd.func133 (by kernel_rfl) (by kernel_rfl)
set_option maxRecDepth 100000 in
set_option maxHeartbeats 400000 in
theorem s_impl_Form_disc {f1 : (Int × Int × Int)} {r : Int} (h : r_impl_Form_disc f1 = some r) : CallS Tryd.prog 133 [.ag [Ti f1.1, Ti f1.2.1, Ti f1.2.2]] (I r) [] := by
  refine CallS_of_text (rs := [.t 2]) (vs := [.tmp 2]) Tryd.func133 rfl rfl (.cons rfl FitsL.nil) (by decide) 15 rfl ?_
  unfold r_impl_Form_disc at h
  show V _ _ ⟨[.ag [Ti f1.1, Ti f1.2.1, Ti f1.2.2], .bot, .bot, .bot, .bot, .bot, .bot, .bot, .bot, .bot, .bot, .bot, .bot, .bot, .bot], []⟩ _
  refine V_sreg [false, true, false, false, false, false, false, false, false, false, false, false, false, false, false] [8] (s1 := ⟨[.bot, .pt 8 0, .bot, .bot, .bot, .bot, .bot, .bot, .bot, .bot, .bot, .bot, .bot, .bot, .bot], [(8, .box [Ti f1.1, Ti f1.2.1, Ti f1.2.2])]⟩) ?_ ?_
  · refine XL_cons rfl (X_of_Y1 rfl (Y1_box (cs := [Ti f1.1, Ti f1.2.1, Ti f1.2.2]) rfl (by kernel_rfl))) ?_
    refine XL_cons rfl (X_of_Y0 rfl (E_assign (I 0) rfl (by kernel_rfl))) ?_
    refine XL_nil ?_
    kernel_rfl
  obtain ⟨t2, ht2, h⟩ := of_sI h
  refine V_sreg [false, false, true, false, false, false, false, false, false, false, false, false, false, false, false] [] (s1 := ⟨[.bot, .bot, I t2, .bot, .bot, .bot, .bot, .bot, .bot, .bot, .bot, .bot, .bot, .bot, .bot], []⟩) ?_ ?_
  · refine XL_cons rfl (X_of_Y0 rfl (E_field (.pt 8 1) Tryd.underlying33 rfl sz3 rfl (by kernel_rfl) (by intro hh; cases hh))) ?_
    refine XL_cons rfl (X_of_Y0 rfl (Y0_load1 (c := Ti f1.2.1) (cs := [Ti f1.2.2]) sc3 rfl (by kernel_rfl))) ?_
    refine XL_cons rfl (X_of_Y0 rfl (E_field (.pt 8 1) Tryd.underlying33 rfl sz3 rfl (by kernel_rfl) (by intro hh; cases hh))) ?_
    refine XL_cons rfl (X_of_Y0 rfl (Y0_load1 (c := Ti f1.2.1) (cs := [Ti f1.2.2]) sc3 rfl (by kernel_rfl))) ?_
    refine XL_cons rfl (X_of_Y0 rfl (Y0_mul64 (a := f1.2.1) (b := f1.2.1) rfl (by kernel_rfl) (by kernel_rfl))) ?_
    refine XL_cons rfl (X_of_Y0 rfl (E_field (.pt 8 0) Tryd.underlying33 rfl sz3 rfl (by kernel_rfl) (by intro hh; cases hh))) ?_
    refine XL_cons rfl (X_of_Y0 rfl (Y0_load1 (c := Ti f1.1) (cs := [Ti f1.2.1, Ti f1.2.2]) sc3 rfl (by kernel_rfl))) ?_
    refine XL_cons rfl (X_of_Y0 rfl (Y0_mul64 (a := 4) (b := f1.1) rfl (by kernel_rfl) (by kernel_rfl))) ?_
    refine XL_cons rfl (X_of_Y0 rfl (E_field (.pt 8 2) Tryd.underlying33 rfl sz3 rfl (by kernel_rfl) (by intro hh; cases hh))) ?_
    refine XL_cons rfl (X_of_Y0 rfl (Y0_load1 (c := Ti f1.2.2) (cs := []) sc3 rfl (by kernel_rfl))) ?_
    refine XL_cons rfl (X_of_Y0 rfl (Y0_mul64 (a := w64 (4 * f1.1)) (b := f1.2.2) rfl (by kernel_rfl) (by kernel_rfl))) ?_
    refine XL_cons rfl (X_of_Y0 rfl (Y0_sub64 (a := w64 (f1.2.1 * f1.2.1)) (b := w64 ((w64 (4 * f1.1)) * f1.2.2)) rfl (by kernel_rfl) (by kernel_rfl))) ?_
    refine XL_cons rfl (X_of_Y0 rfl (E_assign (I (w64 ((w64 (f1.2.1 * f1.2.1)) - (w64 ((w64 (4 * f1.1)) * f1.2.2))))) rfl (by kernel_rfl))) ?_
    refine XL_nil ?_
    subst ht2
    kernel_rfl
  refine V_ret ?_
  obtain rfl := some_inj h
  show Post _ _ _ _ _
  exact ⟨.inr rfl, rfl, rfl, rfl⟩
theorem cf_impl_isDefinite : ∀ args w, (callFunc 86 args).run Tryd.prog w = .ok (.enter 86 args) w := run_callFunc Tryd.func86 (by kernel_rfl) (by kernel_rfl)
set_option maxRecDepth 100000 in
set_option maxHeartbeats 400000 in
theorem s_impl_isDefinite {f1 : (Int × Int × Int)} {r : Bool} (h : r_impl_isDefinite f1 = some r) : CallS Tryd.prog 86 [.ag [Ti f1.1, Ti f1.2.1, Ti f1.2.2]] (Bo r) [] := by
  refine CallS_of_text (rs := [.t 2]) (vs := [.tmp 2]) Tryd.func86 rfl rfl (.cons rfl FitsL.nil) (by decide) 15 rfl ?_
  unfold r_impl_isDefinite at h
  show V _ _ ⟨[.ag [Ti f1.1, Ti f1.2.1, Ti f1.2.2], .bot, .bot, .bot, .bot, .bot, .bot, .bot, .bot, .bot, .bot, .bot, .bot, .bot, .bot], []⟩ _
  refine V_sreg [false, true, false, false, false, false, false, false, false, false, false, false, false, false, false] [8] (s1 := ⟨[.bot, .pt 8 0, .bot, .bot, .bot, .bot, .bot, .bot, .bot, .bot, .bot, .bot, .bot, .bot, .bot], [(8, .box [Ti f1.1, Ti f1.2.1, Ti f1.2.2])]⟩) ?_ ?_
  · refine XL_cons rfl (X_of_Y1 rfl (Y1_box (cs := [Ti f1.1, Ti f1.2.1, Ti f1.2.2]) rfl (by kernel_rfl))) ?_
    refine XL_cons rfl (X_of_Y0 rfl (E_assign (Bo false) rfl (by kernel_rfl))) ?_
    refine XL_nil ?_
    kernel_rfl
  obtain ⟨y2, hy2, h⟩ := of_bind h
  obtain ⟨b5, hb5, h⟩ := of_bind h
  refine V_sreg [false, false, true, false, false, false, false, false, false, false, false, false, false, false, false] [] (s1 := ⟨[.bot, .bot, Bo (bif b5 then (ltI 0 f1.1) else false), .bot, .bot, .bot, .bot, .bot, .bot, .bot, .bot, .bot, .bot, .bot, .bot], []⟩) ?_ ?_
  · refine XL_cons rfl (X_of_Y0 rfl (E_loadn (cs := [Ti f1.1, Ti f1.2.1, Ti f1.2.2]) [Ti f1.1, Ti f1.2.1, Ti f1.2.2] wd33 rfl (by kernel_rfl) (Nat.le_of_ble_eq_true rfl) (by kernel_rfl))) ?_
    refine XL_cons rfl (X_of_Y1 rfl (Y1_call (s_impl_IsForm hy2) cf_impl_IsForm rfl (by kernel_rfl))) ?_
    refine XL_cons rfl (X_of_Y0 rfl (E_move (Bo y2) rfl (by kernel_rfl))) ?_
    refine XL_split y2 (fun hc3 => ?_) (fun hc3 => ?_)
    · have hb5 := of_true hb5 hc3
      obtain ⟨y4, hy4, hb5⟩ := of_bind hb5
      have hb5 := some_inj hb5
      refine XL_takeC (y2) rfl rfl (by kernel_rfl) hc3 (X_of_Y0 rfl (E_loadn (cs := [Ti f1.1, Ti f1.2.1, Ti f1.2.2]) [Ti f1.1, Ti f1.2.1, Ti f1.2.2] wd33 rfl (by kernel_rfl) (Nat.le_of_ble_eq_true rfl) (by kernel_rfl))) ?_
      refine XL_takeC (y2) rfl rfl (by kernel_rfl) hc3 (X_of_Y1 rfl (Y1_call (s_impl_Form_disc hy4) cf_impl_Form_disc rfl (by kernel_rfl))) ?_
      refine XL_takeC (y2) rfl rfl (by kernel_rfl) hc3 (X_of_Y0 rfl (Y0_ltw (k := .i64) (a := y4) (b := 0) rfl (by kernel_rfl) (by kernel_rfl))) ?_
      refine XL_cons rfl (X_of_Y0 rfl (Y0_pickTe (b := y2) (p := ltI y4 0) rfl (by kernel_rfl) hc3 (by kernel_rfl) hb5)) ?_
      refine XL_cons rfl (X_of_Y0 rfl (E_move (Bo b5) rfl (by kernel_rfl))) ?_
      refine XL_split b5 (fun hc6 => ?_) (fun hc6 => ?_)
      · refine XL_takeC (b5) rfl rfl (by kernel_rfl) hc6 (X_of_Y0 rfl (E_field (.pt 8 0) Tryd.underlying33 rfl sz3 rfl (by kernel_rfl) (by intro hh; cases hh))) ?_
        refine XL_takeC (b5) rfl rfl (by kernel_rfl) hc6 (X_of_Y0 rfl (Y0_load1 (c := Ti f1.1) (cs := [Ti f1.2.1, Ti f1.2.2]) sc3 rfl (by kernel_rfl))) ?_
        refine XL_takeC (b5) rfl rfl (by kernel_rfl) hc6 (X_of_Y0 rfl (Y0_gtw (k := .i64) (a := f1.1) (b := 0) rfl (by kernel_rfl) (by kernel_rfl))) ?_
        refine XL_cons rfl (X_of_Y0 rfl (Y0_pick1 (b := b5) (p := ltI 0 f1.1) (q := false) rfl (by kernel_rfl) hc6 (by kernel_rfl))) ?_
        refine XL_cons rfl (X_of_Y0 rfl (E_assign (Bo (bif b5 then (ltI 0 f1.1) else false)) rfl (by kernel_rfl))) ?_
        refine XL_nil ?_
        kernel_rfl
      · refine XL_skipT (b5) rfl rfl (by kernel_rfl) hc6 rfl ?_
        refine XL_skipT (b5) rfl rfl (by kernel_rfl) hc6 rfl ?_
        refine XL_skipT (b5) rfl rfl (by kernel_rfl) hc6 rfl ?_
        refine XL_cons rfl (X_of_Y0 rfl (Y0_pick0 (b := b5) (p := ltI 0 f1.1) (q := false) rfl (by kernel_rfl) hc6 (by kernel_rfl))) ?_
        refine XL_cons rfl (X_of_Y0 rfl (E_assign (Bo (bif b5 then (ltI 0 f1.1) else false)) rfl (by kernel_rfl))) ?_
        refine XL_nil ?_
        kernel_rfl
    · have hb5 := some_inj (of_false hb5 hc3)
      refine XL_skipT (y2) rfl rfl (by kernel_rfl) hc3 rfl ?_
      refine XL_skipT (y2) rfl rfl (by kernel_rfl) hc3 rfl ?_
      refine XL_skipT (y2) rfl rfl (by kernel_rfl) hc3 rfl ?_
      refine XL_cons rfl (X_of_Y0 rfl (Y0_pickFe (b := y2) (p := false) rfl (by kernel_rfl) hc3 (by kernel_rfl) hb5)) ?_
      refine XL_cons rfl (X_of_Y0 rfl (E_move (Bo b5) rfl (by kernel_rfl))) ?_
      refine XL_split b5 (fun hc6 => ?_) (fun hc6 => ?_)
      · refine XL_takeC (b5) rfl rfl (by kernel_rfl) hc6 (X_of_Y0 rfl (E_field (.pt 8 0) Tryd.underlying33 rfl sz3 rfl (by kernel_rfl) (by intro hh; cases hh))) ?_
        refine XL_takeC (b5) rfl rfl (by kernel_rfl) hc6 (X_of_Y0 rfl (Y0_load1 (c := Ti f1.1) (cs := [Ti f1.2.1, Ti f1.2.2]) sc3 rfl (by kernel_rfl))) ?_
        refine XL_takeC (b5) rfl rfl (by kernel_rfl) hc6 (X_of_Y0 rfl (Y0_gtw (k := .i64) (a := f1.1) (b := 0) rfl (by kernel_rfl) (by kernel_rfl))) ?_
        refine XL_cons rfl (X_of_Y0 rfl (Y0_pick1 (b := b5) (p := ltI 0 f1.1) (q := false) rfl (by kernel_rfl) hc6 (by kernel_rfl))) ?_
        refine XL_cons rfl (X_of_Y0 rfl (E_assign (Bo (bif b5 then (ltI 0 f1.1) else false)) rfl (by kernel_rfl))) ?_
        refine XL_nil ?_
        kernel_rfl
      · refine XL_skipT (b5) rfl rfl (by kernel_rfl) hc6 rfl ?_
        refine XL_skipT (b5) rfl rfl (by kernel_rfl) hc6 rfl ?_
        refine XL_skipT (b5) rfl rfl (by kernel_rfl) hc6 rfl ?_
        refine XL_cons rfl (X_of_Y0 rfl (Y0_pick0 (b := b5) (p := ltI 0 f1.1) (q := false) rfl (by kernel_rfl) hc6 (by kernel_rfl))) ?_
        refine XL_cons rfl (X_of_Y0 rfl (E_assign (Bo (bif b5 then (ltI 0 f1.1) else false)) rfl (by kernel_rfl))) ?_
        refine XL_nil ?_
        kernel_rfl
  refine V_ret ?_
  obtain rfl := some_inj h
  show Post _ _ _ _ _
  exact ⟨.inr rfl, rfl, rfl, rfl⟩
theorem cf_impl_one : ∀ args w, (callFunc 134 args).run Tryd.prog w = .ok (.enter 134 args) w := run_callFunc Tryd.func134 (by kernel_rfl) (by kernel_rfl)
set_option maxRecDepth 100000 in
set_option maxHeartbeats 400000 in
theorem s_impl_one {r : (Int × Int × Int × Int)} (h : r_impl_one = some r) : CallS Tryd.prog 134 [] (.ag [Ti r.1, Ti r.2.1, Ti r.2.2.1, Ti r.2.2.2]) [] := by
  refine CallS_of_text (rs := [.w 0 4]) (vs := [.cell 0 53]) Tryd.func134 rfl rfl (.cons ⟨rfl, wd53⟩ FitsL.nil) (by decide) 2 rfl ?_
  unfold r_impl_one at h
  show V _ _ ⟨[.bot, .bot], []⟩ _
  refine V_sreg [true, false] [0] (s1 := ⟨[.pt 0 0, .bot], [(0, .box [Ti 0, Ti 0, Ti 0, Ti 0])]⟩) ?_ ?_
  · refine XL_cons rfl (X_of_Y1 rfl (Y1_alloc (z := zv53) rfl zf53 rfl)) ?_
    refine XL_nil ?_
    kernel_rfl
  refine V_sreg [true, false] [0] (s1 := ⟨[.pt 0 0, .bot], [(0, .box [Ti 1, Ti 0, Ti 0, Ti 1])]⟩) ?_ ?_
  · refine XL_cons rfl (X_of_Y0 rfl (Y0_build (cs := [Ti 1, Ti 0, Ti 0, Ti 1]) pl53 bt53 rfl rfl (by kernel_rfl))) ?_
    refine XL_cons rfl (E_store (id := 0) (off := 0) (cs := [Ti 0, Ti 0, Ti 0, Ti 0]) (vc := [Ti 1, Ti 0, Ti 0, Ti 1]) [Ti 1, Ti 0, Ti 0, Ti 1] rfl rfl (by kernel_rfl) (by kernel_rfl) (by kernel_rfl) sz53 (Nat.le_of_ble_eq_true rfl) (by kernel_rfl)) ?_
    refine XL_nil ?_
    kernel_rfl
  refine V_ret ?_
  obtain rfl := some_inj h
  show Post _ _ _ _ _
  exact ⟨.inr rfl, rfl, rfl, rfl⟩
theorem cf_impl_Form_isNormal : ∀ args w, (callFunc 169 args).run Tryd.prog w = .ok (.enter 169 args) w := run_callFunc Tryd.func169 (by kernel_rfl) (by kernel_rfl)
set_option maxRecDepth 100000 in
set_option maxHeartbeats 400000 in
theorem s_impl_Form_isNormal {f1 : (Int × Int × Int)} {r : Bool} (h : r_impl_Form_isNormal f1 = some r) : CallS Tryd.prog 169 [.ag [Ti f1.1, Ti f1.2.1, Ti f1.2.2]] (Bo r) [] := by
  refine CallS_of_text (rs := [.t 2]) (vs := [.tmp 2]) Tryd.func169 rfl rfl (.cons rfl FitsL.nil) (by decide) 16 rfl ?_
  unfold r_impl_Form_isNormal at h
  show V _ _ ⟨[.ag [Ti f1.1, Ti f1.2.1, Ti f1.2.2], .bot, .bot, .bot, .bot, .bot, .bot, .bot, .bot, .bot, .bot, .bot, .bot, .bot, .bot, .bot], []⟩ _
  refine V_sreg [false, true, false, false, false, false, false, false, false, false, false, false, false, false, false, false] [8] (s1 := ⟨[.bot, .pt 8 0, .bot, .bot, .bot, .bot, .bot, .bot, .bot, .bot, .bot, .bot, .bot, .bot, .bot, .bot], [(8, .box [Ti f1.1, Ti f1.2.1, Ti f1.2.2])]⟩) ?_ ?_
  · refine XL_cons rfl (X_of_Y1 rfl (Y1_box (cs := [Ti f1.1, Ti f1.2.1, Ti f1.2.2]) rfl (by kernel_rfl))) ?_
    refine XL_cons rfl (X_of_Y0 rfl (E_assign (Bo false) rfl (by kernel_rfl))) ?_
    refine XL_nil ?_
    kernel_rfl
  obtain ⟨t3, ht3, h⟩ := of_bind h
  have ht3 := some_inj ht3
  refine V_sreg [false, false, true, false, false, false, false, false, false, false, false, false, false, false, false, false] [] (s1 := ⟨[.bot, .bot, Bo t3, .bot, .bot, .bot, .bot, .bot, .bot, .bot, .bot, .bot, .bot, .bot, .bot, .bot], []⟩) ?_ ?_
  · refine XL_cons rfl (X_of_Y0 rfl (E_field (.pt 8 0) Tryd.underlying33 rfl sz3 rfl (by kernel_rfl) (by intro hh; cases hh))) ?_
    refine XL_cons rfl (X_of_Y0 rfl (Y0_load1 (c := Ti f1.1) (cs := [Ti f1.2.1, Ti f1.2.2]) sc3 rfl (by kernel_rfl))) ?_
    refine XL_cons rfl (X_of_Y0 rfl (Y0_neg64 (a := f1.1) rfl (by kernel_rfl))) ?_
    refine XL_cons rfl (X_of_Y0 rfl (E_field (.pt 8 1) Tryd.underlying33 rfl sz3 rfl (by kernel_rfl) (by intro hh; cases hh))) ?_
    refine XL_cons rfl (X_of_Y0 rfl (Y0_load1 (c := Ti f1.2.1) (cs := [Ti f1.2.2]) sc3 rfl (by kernel_rfl))) ?_
    refine XL_cons rfl (X_of_Y0 rfl (Y0_ltw (k := .i64) (a := w64 (0 - f1.1)) (b := f1.2.1) rfl (by kernel_rfl) (by kernel_rfl))) ?_
    refine XL_cons rfl (X_of_Y0 rfl (E_move (Bo (ltI (w64 (0 - f1.1)) f1.2.1)) rfl (by kernel_rfl))) ?_
    refine XL_split (ltI (w64 (0 - f1.1)) f1.2.1) (fun hc2 => ?_) (fun hc2 => ?_)
    · refine XL_takeC (ltI (w64 (0 - f1.1)) f1.2.1) rfl rfl (by kernel_rfl) hc2 (X_of_Y0 rfl (E_field (.pt 8 1) Tryd.underlying33 rfl sz3 rfl (by kernel_rfl) (by intro hh; cases hh))) ?_
      refine XL_takeC (ltI (w64 (0 - f1.1)) f1.2.1) rfl rfl (by kernel_rfl) hc2 (X_of_Y0 rfl (Y0_load1 (c := Ti f1.2.1) (cs := [Ti f1.2.2]) sc3 rfl (by kernel_rfl))) ?_
      refine XL_takeC (ltI (w64 (0 - f1.1)) f1.2.1) rfl rfl (by kernel_rfl) hc2 (X_of_Y0 rfl (E_field (.pt 8 0) Tryd.underlying33 rfl sz3 rfl (by kernel_rfl) (by intro hh; cases hh))) ?_
      refine XL_takeC (ltI (w64 (0 - f1.1)) f1.2.1) rfl rfl (by kernel_rfl) hc2 (X_of_Y0 rfl (Y0_load1 (c := Ti f1.1) (cs := [Ti f1.2.1, Ti f1.2.2]) sc3 rfl (by kernel_rfl))) ?_
      refine XL_takeC (ltI (w64 (0 - f1.1)) f1.2.1) rfl rfl (by kernel_rfl) hc2 (X_of_Y0 rfl (Y0_lew (k := .i64) (a := f1.2.1) (b := f1.1) rfl (by kernel_rfl) (by kernel_rfl))) ?_
      refine XL_cons rfl (X_of_Y0 rfl (Y0_pick1 (b := ltI (w64 (0 - f1.1)) f1.2.1) (p := leI f1.2.1 f1.1) (q := false) rfl (by kernel_rfl) hc2 (by kernel_rfl))) ?_
      refine XL_cons rfl (X_of_Y0 rfl (E_assign (Bo (bif (ltI (w64 (0 - f1.1)) f1.2.1) then (leI f1.2.1 f1.1) else false)) rfl (by kernel_rfl))) ?_
      refine XL_nil ?_
      subst ht3
      kernel_rfl
    · refine XL_skipT (ltI (w64 (0 - f1.1)) f1.2.1) rfl rfl (by kernel_rfl) hc2 rfl ?_
      refine XL_skipT (ltI (w64 (0 - f1.1)) f1.2.1) rfl rfl (by kernel_rfl) hc2 rfl ?_
      refine XL_skipT (ltI (w64 (0 - f1.1)) f1.2.1) rfl rfl (by kernel_rfl) hc2 rfl ?_
      refine XL_skipT (ltI (w64 (0 - f1.1)) f1.2.1) rfl rfl (by kernel_rfl) hc2 rfl ?_
      refine XL_skipT (ltI (w64 (0 - f1.1)) f1.2.1) rfl rfl (by kernel_rfl) hc2 rfl ?_
      refine XL_cons rfl (X_of_Y0 rfl (Y0_pick0 (b := ltI (w64 (0 - f1.1)) f1.2.1) (p := leI f1.2.1 f1.1) (q := false) rfl (by kernel_rfl) hc2 (by kernel_rfl))) ?_
      refine XL_cons rfl (X_of_Y0 rfl (E_assign (Bo (bif (ltI (w64 (0 - f1.1)) f1.2.1) then (leI f1.2.1 f1.1) else false)) rfl (by kernel_rfl))) ?_
      refine XL_nil ?_
      subst ht3
      kernel_rfl
  refine V_ret ?_
  obtain rfl := some_inj h
  show Post _ _ _ _ _
  exact ⟨.inr rfl, rfl, rfl, rfl⟩
theorem cf_impl_Form_isReduced : ∀ args w, (callFunc 135 args).run Tryd.prog w = .ok (.enter 135 args) w := run_callFunc Tryd.func135 (by kernel_rfl) (by kernel_rfl)
set_option maxRecDepth 100000 in
set_option maxHeartbeats 400000 in
theorem s_impl_Form_isReduced {f1 : (Int × Int × Int)} {r : Bool} (h : r_impl_Form_isReduced f1 = some r) : CallS Tryd.prog 135 [.ag [Ti f1.1, Ti f1.2.1, Ti f1.2.2]] (Bo r) [] := by
  refine CallS_of_text (rs := [.t 2]) (vs := [.tmp 2]) Tryd.func135 rfl rfl (.cons rfl FitsL.nil) (by decide) 24 rfl ?_
  unfold r_impl_Form_isReduced at h
  show V _ _ ⟨[.ag [Ti f1.1, Ti f1.2.1, Ti f1.2.2], .bot, .bot, .bot, .bot, .bot, .bot, .bot, .bot, .bot, .bot, .bot, .bot, .bot, .bot, .bot, .bot, .bot, .bot, .bot, .bot, .bot, .bot, .bot], []⟩ _
  refine V_sreg [false, true, false, false, false, false, false, false, false, false, false, false, false, false, false, false, false, false, false, false, false, false, false, false] [8] (s1 := ⟨[.bot, .pt 8 0, .bot, .bot, .bot, .bot, .bot, .bot, .bot, .bot, .bot, .bot, .bot, .bot, .bot, .bot, .bot, .bot, .bot, .bot, .bot, .bot, .bot, .bot], [(8, .box [Ti f1.1, Ti f1.2.1, Ti f1.2.2])]⟩) ?_ ?_
  · refine XL_cons rfl (X_of_Y1 rfl (Y1_box (cs := [Ti f1.1, Ti f1.2.1, Ti f1.2.2]) rfl (by kernel_rfl))) ?_
    refine XL_cons rfl (X_of_Y0 rfl (E_assign (Bo false) rfl (by kernel_rfl))) ?_
    refine XL_nil ?_
    kernel_rfl
  obtain ⟨y2, hy2, h⟩ := of_bind h
  obtain ⟨t6, ht6, h⟩ := of_bind h
  have ht6 := some_inj ht6
  refine V_sreg [false, false, true, false, false, false, false, false, false, false, false, false, false, false, false, false, false, false, false, false, false, false, false, false] [] (s1 := ⟨[.bot, .bot, Bo t6, .bot, .bot, .bot, .bot, .bot, .bot, .bot, .bot, .bot, .bot, .bot, .bot, .bot, .bot, .bot, .bot, .bot, .bot, .bot, .bot, .bot], []⟩) ?_ ?_
  · refine XL_cons rfl (X_of_Y0 rfl (E_loadn (cs := [Ti f1.1, Ti f1.2.1, Ti f1.2.2]) [Ti f1.1, Ti f1.2.1, Ti f1.2.2] wd33 rfl (by kernel_rfl) (Nat.le_of_ble_eq_true rfl) (by kernel_rfl))) ?_
    refine XL_cons rfl (X_of_Y1 rfl (Y1_call (s_impl_Form_isNormal hy2) cf_impl_Form_isNormal rfl (by kernel_rfl))) ?_
    refine XL_cons rfl (X_of_Y0 rfl (E_move (Bo y2) rfl (by kernel_rfl))) ?_
    refine XL_split y2 (fun hc3 => ?_) (fun hc3 => ?_)
    · refine XL_takeC (y2) rfl rfl (by kernel_rfl) hc3 (X_of_Y0 rfl (E_field (.pt 8 0) Tryd.underlying33 rfl sz3 rfl (by kernel_rfl) (by intro hh; cases hh))) ?_
      refine XL_takeC (y2) rfl rfl (by kernel_rfl) hc3 (X_of_Y0 rfl (Y0_load1 (c := Ti f1.1) (cs := [Ti f1.2.1, Ti f1.2.2]) sc3 rfl (by kernel_rfl))) ?_
      refine XL_takeC (y2) rfl rfl (by kernel_rfl) hc3 (X_of_Y0 rfl (E_field (.pt 8 2) Tryd.underlying33 rfl sz3 rfl (by kernel_rfl) (by intro hh; cases hh))) ?_
      refine XL_takeC (y2) rfl rfl (by kernel_rfl) hc3 (X_of_Y0 rfl (Y0_load1 (c := Ti f1.2.2) (cs := []) sc3 rfl (by kernel_rfl))) ?_
      refine XL_takeC (y2) rfl rfl (by kernel_rfl) hc3 (X_of_Y0 rfl (Y0_ltw (k := .i64) (a := f1.1) (b := f1.2.2) rfl (by kernel_rfl) (by kernel_rfl))) ?_
      refine XL_takeC (y2) rfl rfl (by kernel_rfl) hc3 (X_of_Y0 rfl (E_move (Bo (ltI f1.1 f1.2.2)) rfl (by kernel_rfl))) ?_
      refine XL_split (ltI f1.1 f1.2.2) (fun hc4 => ?_) (fun hc4 => ?_)
      · refine XL_skipF (ltI f1.1 f1.2.2) rfl rfl (by kernel_rfl) hc4 rfl ?_
        refine XL_skipF (ltI f1.1 f1.2.2) rfl rfl (by kernel_rfl) hc4 rfl ?_
        refine XL_skipF (ltI f1.1 f1.2.2) rfl rfl (by kernel_rfl) hc4 rfl ?_
        refine XL_skipF (ltI f1.1 f1.2.2) rfl rfl (by kernel_rfl) hc4 rfl ?_
        refine XL_skipF (ltI f1.1 f1.2.2) rfl rfl (by kernel_rfl) hc4 rfl ?_
        refine XL_skipF (ltI f1.1 f1.2.2) rfl rfl (by kernel_rfl) hc4 rfl ?_
        refine XL_skip2 rfl rfl (by kernel_rfl) rfl ?_
        refine XL_skip2 rfl rfl (by kernel_rfl) rfl ?_
        refine XL_skip2 rfl rfl (by kernel_rfl) rfl ?_
        refine XL_skipF (ltI f1.1 f1.2.2) rfl rfl (by kernel_rfl) hc4 rfl ?_
        refine XL_takeC (y2) rfl rfl (by kernel_rfl) hc3 (X_of_Y0 rfl (Y0_pick1 (b := ltI f1.1 f1.2.2) (p := true) (q := bif (eqI f1.1 f1.2.2) then (leI 0 f1.2.1) else false) rfl (by kernel_rfl) hc4 (by kernel_rfl))) ?_
        refine XL_cons rfl (X_of_Y0 rfl (Y0_pick1 (b := y2) (p := bif (ltI f1.1 f1.2.2) then true else (bif (eqI f1.1 f1.2.2) then (leI 0 f1.2.1) else false)) (q := false) rfl (by kernel_rfl) hc3 (by kernel_rfl))) ?_
        refine XL_cons rfl (X_of_Y0 rfl (E_assign (Bo (bif y2 then (bif (ltI f1.1 f1.2.2) then true else (bif (eqI f1.1 f1.2.2) then (leI 0 f1.2.1) else false)) else false)) rfl (by kernel_rfl))) ?_
        refine XL_nil ?_
        subst ht6
        kernel_rfl
      · refine XL_takeC (ltI f1.1 f1.2.2) rfl rfl (by kernel_rfl) hc4 (X_of_Y0 rfl (E_field (.pt 8 0) Tryd.underlying33 rfl sz3 rfl (by kernel_rfl) (by intro hh; cases hh))) ?_
        refine XL_takeC (ltI f1.1 f1.2.2) rfl rfl (by kernel_rfl) hc4 (X_of_Y0 rfl (Y0_load1 (c := Ti f1.1) (cs := [Ti f1.2.1, Ti f1.2.2]) sc3 rfl (by kernel_rfl))) ?_
        refine XL_takeC (ltI f1.1 f1.2.2) rfl rfl (by kernel_rfl) hc4 (X_of_Y0 rfl (E_field (.pt 8 2) Tryd.underlying33 rfl sz3 rfl (by kernel_rfl) (by intro hh; cases hh))) ?_
        refine XL_takeC (ltI f1.1 f1.2.2) rfl rfl (by kernel_rfl) hc4 (X_of_Y0 rfl (Y0_load1 (c := Ti f1.2.2) (cs := []) sc3 rfl (by kernel_rfl))) ?_
        refine XL_takeC (ltI f1.1 f1.2.2) rfl rfl (by kernel_rfl) hc4 (X_of_Y0 rfl (Y0_eqw (k := .i64) (a := f1.1) (b := f1.2.2) rfl (by kernel_rfl) (by kernel_rfl))) ?_
        refine XL_takeC (ltI f1.1 f1.2.2) rfl rfl (by kernel_rfl) hc4 (X_of_Y0 rfl (E_move (Bo (eqI f1.1 f1.2.2)) rfl (by kernel_rfl))) ?_
        refine XL_split (eqI f1.1 f1.2.2) (fun hc5 => ?_) (fun hc5 => ?_)
        · refine XL_takeC (eqI f1.1 f1.2.2) rfl rfl (by kernel_rfl) hc5 (X_of_Y0 rfl (E_field (.pt 8 1) Tryd.underlying33 rfl sz3 rfl (by kernel_rfl) (by intro hh; cases hh))) ?_
          refine XL_takeC (eqI f1.1 f1.2.2) rfl rfl (by kernel_rfl) hc5 (X_of_Y0 rfl (Y0_load1 (c := Ti f1.2.1) (cs := [Ti f1.2.2]) sc3 rfl (by kernel_rfl))) ?_
          refine XL_takeC (eqI f1.1 f1.2.2) rfl rfl (by kernel_rfl) hc5 (X_of_Y0 rfl (Y0_gew (k := .i64) (a := f1.2.1) (b := 0) rfl (by kernel_rfl) (by kernel_rfl))) ?_
          refine XL_takeC (ltI f1.1 f1.2.2) rfl rfl (by kernel_rfl) hc4 (X_of_Y0 rfl (Y0_pick1 (b := eqI f1.1 f1.2.2) (p := leI 0 f1.2.1) (q := false) rfl (by kernel_rfl) hc5 (by kernel_rfl))) ?_
          refine XL_takeC (y2) rfl rfl (by kernel_rfl) hc3 (X_of_Y0 rfl (Y0_pick0 (b := ltI f1.1 f1.2.2) (p := true) (q := bif (eqI f1.1 f1.2.2) then (leI 0 f1.2.1) else false) rfl (by kernel_rfl) hc4 (by kernel_rfl))) ?_
          refine XL_cons rfl (X_of_Y0 rfl (Y0_pick1 (b := y2) (p := bif (ltI f1.1 f1.2.2) then true else (bif (eqI f1.1 f1.2.2) then (leI 0 f1.2.1) else false)) (q := false) rfl (by kernel_rfl) hc3 (by kernel_rfl))) ?_
          refine XL_cons rfl (X_of_Y0 rfl (E_assign (Bo (bif y2 then (bif (ltI f1.1 f1.2.2) then true else (bif (eqI f1.1 f1.2.2) then (leI 0 f1.2.1) else false)) else false)) rfl (by kernel_rfl))) ?_
          refine XL_nil ?_
          subst ht6
          kernel_rfl
        · refine XL_skipT (eqI f1.1 f1.2.2) rfl rfl (by kernel_rfl) hc5 rfl ?_
          refine XL_skipT (eqI f1.1 f1.2.2) rfl rfl (by kernel_rfl) hc5 rfl ?_
          refine XL_skipT (eqI f1.1 f1.2.2) rfl rfl (by kernel_rfl) hc5 rfl ?_
          refine XL_takeC (ltI f1.1 f1.2.2) rfl rfl (by kernel_rfl) hc4 (X_of_Y0 rfl (Y0_pick0 (b := eqI f1.1 f1.2.2) (p := leI 0 f1.2.1) (q := false) rfl (by kernel_rfl) hc5 (by kernel_rfl))) ?_
          refine XL_takeC (y2) rfl rfl (by kernel_rfl) hc3 (X_of_Y0 rfl (Y0_pick0 (b := ltI f1.1 f1.2.2) (p := true) (q := bif (eqI f1.1 f1.2.2) then (leI 0 f1.2.1) else false) rfl (by kernel_rfl) hc4 (by kernel_rfl))) ?_
          refine XL_cons rfl (X_of_Y0 rfl (Y0_pick1 (b := y2) (p := bif (ltI f1.1 f1.2.2) then true else (bif (eqI f1.1 f1.2.2) then (leI 0 f1.2.1) else false)) (q := false) rfl (by kernel_rfl) hc3 (by kernel_rfl))) ?_
          refine XL_cons rfl (X_of_Y0 rfl (E_assign (Bo (bif y2 then (bif (ltI f1.1 f1.2.2) then true else (bif (eqI f1.1 f1.2.2) then (leI 0 f1.2.1) else false)) else false)) rfl (by kernel_rfl))) ?_
          refine XL_nil ?_
          subst ht6
          kernel_rfl
    · refine XL_skipT (y2) rfl rfl (by kernel_rfl) hc3 rfl ?_
      refine XL_skipT (y2) rfl rfl (by kernel_rfl) hc3 rfl ?_
      refine XL_skipT (y2) rfl rfl (by kernel_rfl) hc3 rfl ?_
      refine XL_skipT (y2) rfl rfl (by kernel_rfl) hc3 rfl ?_
      refine XL_skipT (y2) rfl rfl (by kernel_rfl) hc3 rfl ?_
      refine XL_skipT (y2) rfl rfl (by kernel_rfl) hc3 rfl ?_
      refine XL_skip2 rfl rfl (by kernel_rfl) rfl ?_
      refine XL_skip2 rfl rfl (by kernel_rfl) rfl ?_
      refine XL_skip2 rfl rfl (by kernel_rfl) rfl ?_
      refine XL_skip2 rfl rfl (by kernel_rfl) rfl ?_
      refine XL_skip2 rfl rfl (by kernel_rfl) rfl ?_
      refine XL_skip2 rfl rfl (by kernel_rfl) rfl ?_
      refine XL_skip2 rfl rfl (by kernel_rfl) rfl ?_
      refine XL_skip2 rfl rfl (by kernel_rfl) rfl ?_
      refine XL_skip2 rfl rfl (by kernel_rfl) rfl ?_
      refine XL_skip2 rfl rfl (by kernel_rfl) rfl ?_
      refine XL_skipT (y2) rfl rfl (by kernel_rfl) hc3 rfl ?_
      refine XL_cons rfl (X_of_Y0 rfl (Y0_pick0 (b := y2) (p := bif (ltI f1.1 f1.2.2) then true else (bif (eqI f1.1 f1.2.2) then (leI 0 f1.2.1) else false)) (q := false) rfl (by kernel_rfl) hc3 (by kernel_rfl))) ?_
      refine XL_cons rfl (X_of_Y0 rfl (E_assign (Bo (bif y2 then (bif (ltI f1.1 f1.2.2) then true else (bif (eqI f1.1 f1.2.2) then (leI 0 f1.2.1) else false)) else false)) rfl (by kernel_rfl))) ?_
      refine XL_nil ?_
      subst ht6
      kernel_rfl
  refine V_ret ?_
  obtain rfl := some_inj h
  show Post _ _ _ _ _
  exact ⟨.inr rfl, rfl, rfl, rfl⟩
theorem cf_impl_mod : ∀ args w, (callFunc 127 args).run Tryd.prog w = .ok (.enter 127 args) w := run_callFunc Tryd.func127 (by kernel_rfl) (by kernel_rfl)
set_option maxRecDepth 100000 in
set_option maxHeartbeats 400000 in
theorem s_impl_mod {a1 : Int} {vm2 : Int} {r : Int} (h : r_impl_mod a1 vm2 = some r) : CallS Tryd.prog 127 [I a1, I vm2] (I r) [] := by
  refine CallS_of_text (rs := [.t 4]) (vs := [.tmp 4]) Tryd.func127 rfl rfl (.cons rfl FitsL.nil) (by decide) 15 rfl ?_
  unfold r_impl_mod at h
  show V _ _ ⟨[I a1, I vm2, .bot, .bot, .bot, .bot, .bot, .bot, .bot, .bot, .bot, .bot, .bot, .bot, .bot], []⟩ _
  refine V_sreg [true, true, false, false, false, false, false, false, false, false, false, false, false, false, false] [] (s1 := ⟨[I a1, I vm2, .bot, .bot, .bot, .bot, .bot, .bot, .bot, .bot, .bot, .bot, .bot, .bot, .bot], []⟩) ?_ ?_
  · refine XL_cons rfl (X_of_Y0 rfl (E_assign (I 0) rfl (by kernel_rfl))) ?_
    refine XL_nil ?_
    kernel_rfl
  obtain ⟨z3, hz3, h⟩ := of_bind h
  obtain ⟨vr4, hvr4, h⟩ := of_sI h
  refine V_sreg [false, true, false, false, false, true, false, false, false, false, false, false, false, false, false] [] (s1 := ⟨[.bot, I vm2, .bot, .bot, .bot, I vr4, .bot, .bot, .bot, .bot, .bot, .bot, .bot, .bot, .bot], []⟩) ?_ ?_
  · refine XL_cons rfl (X_of_Y0 rfl (E_move (I a1) rfl (by kernel_rfl))) ?_
    refine XL_cons rfl (X_of_Y0 rfl (E_move (I vm2) rfl (by kernel_rfl))) ?_
    refine XL_cons rfl (X_of_Y0 rfl (Y0_rem (k := .i64) (a := a1) (b := vm2) rfl (by kernel_rfl) (by kernel_rfl) (nz_some hz3))) ?_
    refine XL_cons rfl (X_of_Y0 rfl (E_assign (I (Int.tmod a1 vm2)) rfl (by kernel_rfl))) ?_
    refine XL_nil ?_
    subst hvr4
    kernel_rfl
  refine V_seq ?_
  refine V_sreg [false, true, false, false, false, true, false, false, false, false, true, false, false, false, false] [] (s1 := ⟨[.bot, I vm2, .bot, .bot, .bot, I vr4, .bot, .bot, .bot, .bot, Bo (ltI vr4 0), .bot, .bot, .bot, .bot], []⟩) ?_ ?_
  · refine XL_cons rfl (X_of_Y0 rfl (E_move (I vr4) rfl (by kernel_rfl))) ?_
    refine XL_cons rfl (X_of_Y0 rfl (Y0_ltw (k := .i64) (a := vr4) (b := 0) rfl (by kernel_rfl) (by kernel_rfl))) ?_
    refine XL_nil ?_
    kernel_rfl
  refine V_cond rfl (fun hc5 => ?_) (fun hc5 => ?_)
  · have h := of_true h hc5
    obtain ⟨vr6, hvr6, h⟩ := of_sI h
    refine V_reg [false, false, false, false, false, true, false, false, false, false, false, false, false, false, false] [] (s1 := ⟨[.bot, .bot, .bot, .bot, .bot, I vr6, .bot, .bot, .bot, .bot, .bot, .bot, .bot, .bot, .bot], []⟩) ?_ ?_
    · refine XL_cons rfl (X_of_Y0 rfl (E_move (I vr4) rfl (by kernel_rfl))) ?_
      refine XL_cons rfl (X_of_Y0 rfl (E_move (I vm2) rfl (by kernel_rfl))) ?_
      refine XL_cons rfl (X_of_Y0 rfl (Y0_add64 (a := vr4) (b := vm2) rfl (by kernel_rfl) (by kernel_rfl))) ?_
      refine XL_cons rfl (X_of_Y0 rfl (E_assign (I (w64 (vr4 + vm2))) rfl (by kernel_rfl))) ?_
      refine XL_nil ?_
      subst hvr6
      kernel_rfl
    show V _ _ _ _
    refine V_sreg [false, false, false, false, true, false, false, false, false, false, false, false, false, false, false] [] (s1 := ⟨[.bot, .bot, .bot, .bot, I vr6, .bot, .bot, .bot, .bot, .bot, .bot, .bot, .bot, .bot, .bot], []⟩) ?_ ?_
    · refine XL_cons rfl (X_of_Y0 rfl (E_move (I vr6) rfl (by kernel_rfl))) ?_
      refine XL_cons rfl (X_of_Y0 rfl (E_assign (I vr6) rfl (by kernel_rfl))) ?_
      refine XL_nil ?_
      kernel_rfl
    refine V_ret ?_
    obtain rfl := some_inj h
    show Post _ _ _ _ _
    exact ⟨.inr rfl, rfl, rfl, rfl⟩
  · have h := of_false h hc5
    refine V_skip ?_
    show V _ _ _ _
    refine V_sreg [false, false, false, false, true, false, false, false, false, false, false, false, false, false, false] [] (s1 := ⟨[.bot, .bot, .bot, .bot, I vr4, .bot, .bot, .bot, .bot, .bot, .bot, .bot, .bot, .bot, .bot], []⟩) ?_ ?_
    · refine XL_cons rfl (X_of_Y0 rfl (E_move (I vr4) rfl (by kernel_rfl))) ?_
      refine XL_cons rfl (X_of_Y0 rfl (E_assign (I vr4) rfl (by kernel_rfl))) ?_
      refine XL_nil ?_
      kernel_rfl
    refine V_ret ?_
    obtain rfl := some_inj h
    show Post _ _ _ _ _
    exact ⟨.inr rfl, rfl, rfl, rfl⟩
theorem cf_impl_floorDiv : ∀ args w, (callFunc 170 args).run Tryd.prog w = .ok (.enter 170 args) w := run_callFunc Tryd.func170 (by kernel_rfl) (by kernel_rfl)
set_option maxRecDepth 100000 in
set_option maxHeartbeats 400000 in
theorem s_impl_floorDiv {a1 : Int} {vm2 : Int} {r : Int} (h : r_impl_floorDiv a1 vm2 = some r) : CallS Tryd.prog 170 [I a1, I vm2] (I r) [] := by
  refine CallS_of_text (rs := [.t 4]) (vs := [.tmp 4]) Tryd.func170 rfl rfl (.cons rfl FitsL.nil) (by decide) 12 rfl ?_
  unfold r_impl_floorDiv at h
  show V _ _ ⟨[I a1, I vm2, .bot, .bot, .bot, .bot, .bot, .bot, .bot, .bot, .bot, .bot], []⟩ _
  refine V_sreg [true, true, false, false, false, false, false, false, false, false, false, false] [] (s1 := ⟨[I a1, I vm2, .bot, .bot, .bot, .bot, .bot, .bot, .bot, .bot, .bot, .bot], []⟩) ?_ ?_
  · refine XL_cons rfl (X_of_Y0 rfl (E_assign (I 0) rfl (by kernel_rfl))) ?_
    refine XL_nil ?_
    kernel_rfl
  obtain ⟨y3, hy3, h⟩ := of_bind h
  obtain ⟨z4, hz4, h⟩ := of_bind h
  obtain ⟨t5, ht5, h⟩ := of_sI h
  refine V_sreg [false, false, false, false, true, false, false, false, false, false, false, false] [] (s1 := ⟨[.bot, .bot, .bot, .bot, I t5, .bot, .bot, .bot, .bot, .bot, .bot, .bot], []⟩) ?_ ?_
  · refine XL_cons rfl (X_of_Y0 rfl (E_move (I a1) rfl (by kernel_rfl))) ?_
    refine XL_cons rfl (X_of_Y0 rfl (E_move (I a1) rfl (by kernel_rfl))) ?_
    refine XL_cons rfl (X_of_Y0 rfl (E_move (I vm2) rfl (by kernel_rfl))) ?_
    refine XL_cons rfl (X_of_Y1 rfl (Y1_call (s_impl_mod hy3) cf_impl_mod rfl (by kernel_rfl))) ?_
    refine XL_cons rfl (X_of_Y0 rfl (Y0_sub64 (a := a1) (b := y3) rfl (by kernel_rfl) (by kernel_rfl))) ?_
    refine XL_cons rfl (X_of_Y0 rfl (E_move (I vm2) rfl (by kernel_rfl))) ?_
    refine XL_cons rfl (X_of_Y0 rfl (Y0_quo64 (a := w64 (a1 - y3)) (b := vm2) rfl (by kernel_rfl) (by kernel_rfl) (nz_some hz4))) ?_
    refine XL_cons rfl (X_of_Y0 rfl (E_assign (I (w64 (Int.tdiv (w64 (a1 - y3)) vm2))) rfl (by kernel_rfl))) ?_
    refine XL_nil ?_
    subst ht5
    kernel_rfl
  refine V_ret ?_
  obtain rfl := some_inj h
  show Post _ _ _ _ _
  exact ⟨.inr rfl, rfl, rfl, rfl⟩
theorem cf_impl_Form_step : ∀ args w, (callFunc 136 args).run Tryd.prog w = .ok (.enter 136 args) w := run_callFunc Tryd.func136 (by kernel_rfl) (by kernel_rfl)
set_option maxRecDepth 100000 in
set_option maxHeartbeats 400000 in
theorem s_impl_Form_step {f1 : (Int × Int × Int)} {r : (Int × Int × Int × Int)} (h : r_impl_Form_step f1 = some r) : CallS Tryd.prog 136 [.ag [Ti f1.1, Ti f1.2.1, Ti f1.2.2]] (.ag [Ti r.1, Ti r.2.1, Ti r.2.2.1, Ti r.2.2.2]) [] := by
  refine CallS_of_text (rs := [.w 2 4]) (vs := [.cell 2 53]) Tryd.func136 rfl rfl (.cons ⟨rfl, wd53⟩ FitsL.nil) (by decide) 22 rfl ?_
  unfold r_impl_Form_step at h
  show V _ _ ⟨[.ag [Ti f1.1, Ti f1.2.1, Ti f1.2.2], .bot, .bot, .bot, .bot, .bot, .bot, .bot, .bot, .bot, .bot, .bot, .bot, .bot, .bot, .bot, .bot, .bot, .bot, .bot, .bot, .bot], []⟩ _
  refine V_sreg [false, true, true, false, false, false, false, false, false, false, false, false, false, false, false, false, false, false, false, false, false, false] [16, 8] (s1 := ⟨[.bot, .pt 8 0, .pt 16 0, .bot, .bot, .bot, .bot, .bot, .bot, .bot, .bot, .bot, .bot, .bot, .bot, .bot, .bot, .bot, .bot, .bot, .bot, .bot], [(16, .box [Ti 0, Ti 0, Ti 0, Ti 0]), (8, .box [Ti f1.1, Ti f1.2.1, Ti f1.2.2])]⟩) ?_ ?_
  · refine XL_cons rfl (X_of_Y1 rfl (Y1_box (cs := [Ti f1.1, Ti f1.2.1, Ti f1.2.2]) rfl (by kernel_rfl))) ?_
    refine XL_cons rfl (X_of_Y1 rfl (Y1_alloc (z := zv53) rfl zf53 rfl)) ?_
    refine XL_nil ?_
    kernel_rfl
  refine V_seq ?_
  refine V_block ?_
  obtain ⟨y2, hy2, h⟩ := of_bind h
  refine V_sreg [false, true, true, true, false, false, false, false, false, false, false, false, false, false, false, false, false, false, false, false, false, false] [16, 8] (s1 := ⟨[.bot, .pt 8 0, .pt 16 0, Bo y2, .bot, .bot, .bot, .bot, .bot, .bot, .bot, .bot, .bot, .bot, .bot, .bot, .bot, .bot, .bot, .bot, .bot, .bot], [(16, .box [Ti 0, Ti 0, Ti 0, Ti 0]), (8, .box [Ti f1.1, Ti f1.2.1, Ti f1.2.2])]⟩) ?_ ?_
  · refine XL_cons rfl (X_of_Y0 rfl (E_loadn (cs := [Ti f1.1, Ti f1.2.1, Ti f1.2.2]) [Ti f1.1, Ti f1.2.1, Ti f1.2.2] wd33 rfl (by kernel_rfl) (Nat.le_of_ble_eq_true rfl) (by kernel_rfl))) ?_
    refine XL_cons rfl (X_of_Y1 rfl (Y1_call (s_impl_Form_isReduced hy2) cf_impl_Form_isReduced rfl (by kernel_rfl))) ?_
    refine XL_cons rfl (X_of_Y0 rfl (E_assign (Bo y2) rfl (by kernel_rfl))) ?_
    refine XL_nil ?_
    kernel_rfl
  refine V_cond rfl (fun hc3 => ?_) (fun hc3 => ?_)
  · have h := of_true h hc3
    obtain ⟨y4, hy4, h⟩ := of_bind h
    refine V_sreg [false, false, true, false, false, false, false, false, false, false, false, false, false, false, false, false, false, false, false, false, false, false] [16] (s1 := ⟨[.bot, .bot, .pt 16 0, .bot, .bot, .bot, .bot, .bot, .bot, .bot, .bot, .bot, .bot, .bot, .bot, .bot, .bot, .bot, .bot, .bot, .bot, .bot], [(16, .box [Ti y4.1, Ti y4.2.1, Ti y4.2.2.1, Ti y4.2.2.2])]⟩) ?_ ?_
    · refine XL_cons rfl (X_of_Y1 rfl (Y1_call (s_impl_one hy4) cf_impl_one rfl (by kernel_rfl))) ?_
      refine XL_cons rfl (E_store (id := 16) (off := 0) (cs := [Ti 0, Ti 0, Ti 0, Ti 0]) (vc := [Ti y4.1, Ti y4.2.1, Ti y4.2.2.1, Ti y4.2.2.2]) [Ti y4.1, Ti y4.2.1, Ti y4.2.2.1, Ti y4.2.2.2] rfl rfl (by kernel_rfl) (by kernel_rfl) (by kernel_rfl) sz53 (Nat.le_of_ble_eq_true rfl) (by kernel_rfl)) ?_
      refine XL_nil ?_
      kernel_rfl
    refine V_ret ?_
    obtain rfl := some_inj h
    show Post _ _ _ _ _
    exact ⟨.inr rfl, rfl, rfl, rfl⟩
  · have h := of_false h hc3
    obtain ⟨y5, hy5, h⟩ := of_bind h
    refine V_sreg [false, true, true, false, false, false, false, true, false, false, false, false, false, false, false, false, false, false, false, false, false, false] [16, 8] (s1 := ⟨[.bot, .pt 8 0, .pt 16 0, .bot, .bot, .bot, .bot, Bo (!y5), .bot, .bot, .bot, .bot, .bot, .bot, .bot, .bot, .bot, .bot, .bot, .bot, .bot, .bot], [(16, .box [Ti 0, Ti 0, Ti 0, Ti 0]), (8, .box [Ti f1.1, Ti f1.2.1, Ti f1.2.2])]⟩) ?_ ?_
    · refine XL_cons rfl (X_of_Y0 rfl (E_loadn (cs := [Ti f1.1, Ti f1.2.1, Ti f1.2.2]) [Ti f1.1, Ti f1.2.1, Ti f1.2.2] wd33 rfl (by kernel_rfl) (Nat.le_of_ble_eq_true rfl) (by kernel_rfl))) ?_
      refine XL_cons rfl (X_of_Y1 rfl (Y1_call (s_impl_Form_isNormal hy5) cf_impl_Form_isNormal rfl (by kernel_rfl))) ?_
      refine XL_cons rfl (X_of_Y0 rfl (Y0_not (b := y5) rfl (by kernel_rfl))) ?_
      refine XL_cons rfl (X_of_Y0 rfl (E_assign (Bo (!y5)) rfl (by kernel_rfl))) ?_
      refine XL_nil ?_
      kernel_rfl
    refine V_cond rfl (fun hc6 => ?_) (fun hc6 => ?_)
    · have h := of_true h hc6
      obtain ⟨y7, hy7, h⟩ := of_bind h
      refine V_sreg [false, false, true, false, false, false, false, false, false, false, false, false, false, false, false, false, false, false, false, false, false, false] [16] (s1 := ⟨[.bot, .bot, .pt 16 0, .bot, .bot, .bot, .bot, .bot, .bot, .bot, .bot, .bot, .bot, .bot, .bot, .bot, .bot, .bot, .bot, .bot, .bot, .bot], [(16, .box [Ti 1, Ti y7, Ti 0, Ti 1])]⟩) ?_ ?_
      · refine XL_cons rfl (X_of_Y0 rfl (E_field (.pt 8 0) Tryd.underlying33 rfl sz3 rfl (by kernel_rfl) (by intro hh; cases hh))) ?_
        refine XL_cons rfl (X_of_Y0 rfl (Y0_load1 (c := Ti f1.1) (cs := [Ti f1.2.1, Ti f1.2.2]) sc3 rfl (by kernel_rfl))) ?_
        refine XL_cons rfl (X_of_Y0 rfl (E_field (.pt 8 1) Tryd.underlying33 rfl sz3 rfl (by kernel_rfl) (by intro hh; cases hh))) ?_
        refine XL_cons rfl (X_of_Y0 rfl (Y0_load1 (c := Ti f1.2.1) (cs := [Ti f1.2.2]) sc3 rfl (by kernel_rfl))) ?_
        refine XL_cons rfl (X_of_Y0 rfl (Y0_sub64 (a := f1.1) (b := f1.2.1) rfl (by kernel_rfl) (by kernel_rfl))) ?_
        refine XL_cons rfl (X_of_Y0 rfl (E_field (.pt 8 0) Tryd.underlying33 rfl sz3 rfl (by kernel_rfl) (by intro hh; cases hh))) ?_
        refine XL_cons rfl (X_of_Y0 rfl (Y0_load1 (c := Ti f1.1) (cs := [Ti f1.2.1, Ti f1.2.2]) sc3 rfl (by kernel_rfl))) ?_
        refine XL_cons rfl (X_of_Y0 rfl (Y0_mul64 (a := 2) (b := f1.1) rfl (by kernel_rfl) (by kernel_rfl))) ?_
        refine XL_cons rfl (X_of_Y1 rfl (Y1_call (s_impl_floorDiv hy7) cf_impl_floorDiv rfl (by kernel_rfl))) ?_
        refine XL_cons rfl (X_of_Y0 rfl (Y0_build (cs := [Ti 1, Ti y7, Ti 0, Ti 1]) pl53 bt53 rfl rfl (by kernel_rfl))) ?_
        refine XL_cons rfl (E_store (id := 16) (off := 0) (cs := [Ti 0, Ti 0, Ti 0, Ti 0]) (vc := [Ti 1, Ti y7, Ti 0, Ti 1]) [Ti 1, Ti y7, Ti 0, Ti 1] rfl rfl (by kernel_rfl) (by kernel_rfl) (by kernel_rfl) sz53 (Nat.le_of_ble_eq_true rfl) (by kernel_rfl)) ?_
        refine XL_nil ?_
        kernel_rfl
      refine V_ret ?_
      obtain rfl := some_inj h
      show Post _ _ _ _ _
      exact ⟨.inr rfl, rfl, rfl, rfl⟩
    · have h := of_false h hc6
      refine V_skip ?_
      show V _ _ _ _
      refine V_sreg [false, false, true, false, false, false, false, false, false, false, false, false, false, false, false, false, false, false, false, false, false, false] [16] (s1 := ⟨[.bot, .bot, .pt 16 0, .bot, .bot, .bot, .bot, .bot, .bot, .bot, .bot, .bot, .bot, .bot, .bot, .bot, .bot, .bot, .bot, .bot, .bot, .bot], [(16, .box [Ti 0, Ti (-1), Ti 1, Ti 0])]⟩) ?_ ?_
      · refine XL_cons rfl (X_of_Y0 rfl (Y0_build (cs := [Ti 0, Ti (-1), Ti 1, Ti 0]) pl53 bt53 rfl rfl (by kernel_rfl))) ?_
        refine XL_cons rfl (E_store (id := 16) (off := 0) (cs := [Ti 0, Ti 0, Ti 0, Ti 0]) (vc := [Ti 0, Ti (-1), Ti 1, Ti 0]) [Ti 0, Ti (-1), Ti 1, Ti 0] rfl rfl (by kernel_rfl) (by kernel_rfl) (by kernel_rfl) sz53 (Nat.le_of_ble_eq_true rfl) (by kernel_rfl)) ?_
        refine XL_nil ?_
        kernel_rfl
      refine V_ret ?_
      obtain rfl := some_inj h
      show Post _ _ _ _ _
      exact ⟨.inr rfl, rfl, rfl, rfl⟩
theorem cf_impl_Form_at : ∀ args w, (callFunc 171 args).run Tryd.prog w = .ok (.enter 171 args) w := run_callFunc Tryd.func171 (by kernel_rfl) (by kernel_rfl)
set_option maxRecDepth 100000 in
set_option maxHeartbeats 400000 in
theorem s_impl_Form_at {f1 : (Int × Int × Int)} {x2 : Int} {y3 : Int} {r : Int} (h : r_impl_Form_at f1 x2 y3 = some r) : CallS Tryd.prog 171 [.ag [Ti f1.1, Ti f1.2.1, Ti f1.2.2], I x2, I y3] (I r) [] := by
  refine CallS_of_text (rs := [.t 6]) (vs := [.tmp 6]) Tryd.func171 rfl rfl (.cons rfl FitsL.nil) (by decide) 27 rfl ?_
  unfold r_impl_Form_at at h
  show V _ _ ⟨[.ag [Ti f1.1, Ti f1.2.1, Ti f1.2.2], I x2, I y3, .bot, .bot, .bot, .bot, .bot, .bot, .bot, .bot, .bot, .bot, .bot, .bot, .bot, .bot, .bot, .bot, .bot, .bot, .bot, .bot, .bot, .bot, .bot, .bot], []⟩ _
  refine V_sreg [false, true, true, true, false, false, false, false, false, false, false, false, false, false, false, false, false, false, false, false, false, false, false, false, false, false, false] [24] (s1 := ⟨[.bot, I x2, I y3, .pt 24 0, .bot, .bot, .bot, .bot, .bot, .bot, .bot, .bot, .bot, .bot, .bot, .bot, .bot, .bot, .bot, .bot, .bot, .bot, .bot, .bot, .bot, .bot, .bot], [(24, .box [Ti f1.1, Ti f1.2.1, Ti f1.2.2])]⟩) ?_ ?_
  · refine XL_cons rfl (X_of_Y1 rfl (Y1_box (cs := [Ti f1.1, Ti f1.2.1, Ti f1.2.2]) rfl (by kernel_rfl))) ?_
    refine XL_cons rfl (X_of_Y0 rfl (E_assign (I 0) rfl (by kernel_rfl))) ?_
    refine XL_nil ?_
    kernel_rfl
  obtain ⟨t4, ht4, h⟩ := of_sI h
  refine V_sreg [false, false, false, false, false, false, true, false, false, false, false, false, false, false, false, false, false, false, false, false, false, false, false, false, false, false, false] [] (s1 := ⟨[.bot, .bot, .bot, .bot, .bot, .bot, I t4, .bot, .bot, .bot, .bot, .bot, .bot, .bot, .bot, .bot, .bot, .bot, .bot, .bot, .bot, .bot, .bot, .bot, .bot, .bot, .bot], []⟩) ?_ ?_
  · refine XL_cons rfl (X_of_Y0 rfl (E_field (.pt 24 0) Tryd.underlying33 rfl sz3 rfl (by kernel_rfl) (by intro hh; cases hh))) ?_
    refine XL_cons rfl (X_of_Y0 rfl (Y0_load1 (c := Ti f1.1) (cs := [Ti f1.2.1, Ti f1.2.2]) sc3 rfl (by kernel_rfl))) ?_
    refine XL_cons rfl (X_of_Y0 rfl (E_move (I x2) rfl (by kernel_rfl))) ?_
    refine XL_cons rfl (X_of_Y0 rfl (Y0_mul64 (a := f1.1) (b := x2) rfl (by kernel_rfl) (by kernel_rfl))) ?_
    refine XL_cons rfl (X_of_Y0 rfl (E_move (I x2) rfl (by kernel_rfl))) ?_
    refine XL_cons rfl (X_of_Y0 rfl (Y0_mul64 (a := w64 (f1.1 * x2)) (b := x2) rfl (by kernel_rfl) (by kernel_rfl))) ?_
    refine XL_cons rfl (X_of_Y0 rfl (E_field (.pt 24 1) Tryd.underlying33 rfl sz3 rfl (by kernel_rfl) (by intro hh; cases hh))) ?_
    refine XL_cons rfl (X_of_Y0 rfl (Y0_load1 (c := Ti f1.2.1) (cs := [Ti f1.2.2]) sc3 rfl (by kernel_rfl))) ?_
    refine XL_cons rfl (X_of_Y0 rfl (E_move (I x2) rfl (by kernel_rfl))) ?_
    refine XL_cons rfl (X_of_Y0 rfl (Y0_mul64 (a := f1.2.1) (b := x2) rfl (by kernel_rfl) (by kernel_rfl))) ?_
    refine XL_cons rfl (X_of_Y0 rfl (E_move (I y3) rfl (by kernel_rfl))) ?_
    refine XL_cons rfl (X_of_Y0 rfl (Y0_mul64 (a := w64 (f1.2.1 * x2)) (b := y3) rfl (by kernel_rfl) (by kernel_rfl))) ?_
    refine XL_cons rfl (X_of_Y0 rfl (Y0_add64 (a := w64 ((w64 (f1.1 * x2)) * x2)) (b := w64 ((w64 (f1.2.1 * x2)) * y3)) rfl (by kernel_rfl) (by kernel_rfl))) ?_
    refine XL_cons rfl (X_of_Y0 rfl (E_field (.pt 24 2) Tryd.underlying33 rfl sz3 rfl (by kernel_rfl) (by intro hh; cases hh))) ?_
    refine XL_cons rfl (X_of_Y0 rfl (Y0_load1 (c := Ti f1.2.2) (cs := []) sc3 rfl (by kernel_rfl))) ?_
    refine XL_cons rfl (X_of_Y0 rfl (E_move (I y3) rfl (by kernel_rfl))) ?_
    refine XL_cons rfl (X_of_Y0 rfl (Y0_mul64 (a := f1.2.2) (b := y3) rfl (by kernel_rfl) (by kernel_rfl))) ?_
    refine XL_cons rfl (X_of_Y0 rfl (E_move (I y3) rfl (by kernel_rfl))) ?_
    refine XL_cons rfl (X_of_Y0 rfl (Y0_mul64 (a := w64 (f1.2.2 * y3)) (b := y3) rfl (by kernel_rfl) (by kernel_rfl))) ?_
    refine XL_cons rfl (X_of_Y0 rfl (Y0_add64 (a := w64 ((w64 ((w64 (f1.1 * x2)) * x2)) + (w64 ((w64 (f1.2.1 * x2)) * y3)))) (b := w64 ((w64 (f1.2.2 * y3)) * y3)) rfl (by kernel_rfl) (by kernel_rfl))) ?_
    refine XL_cons rfl (X_of_Y0 rfl (E_assign (I (w64 ((w64 ((w64 ((w64 (f1.1 * x2)) * x2)) + (w64 ((w64 (f1.2.1 * x2)) * y3)))) + (w64 ((w64 (f1.2.2 * y3)) * y3))))) rfl (by kernel_rfl))) ?_
    refine XL_nil ?_
    subst ht4
    kernel_rfl
  refine V_ret ?_
  obtain rfl := some_inj h
  show Post _ _ _ _ _
  exact ⟨.inr rfl, rfl, rfl, rfl⟩
theorem cf_impl_Form_polar : ∀ args w, (callFunc 172 args).run Tryd.prog w = .ok (.enter 172 args) w := run_callFunc Tryd.func172 (by kernel_rfl) (by kernel_rfl)
set_option maxRecDepth 100000 in
set_option maxHeartbeats 400000 in
theorem s_impl_Form_polar {f1 : (Int × Int × Int)} {x2 : Int} {y3 : Int} {u4 : Int} {v5 : Int} {r : Int} (h : r_impl_Form_polar f1 x2 y3 u4 v5 = some r) : CallS Tryd.prog 172 [.ag [Ti f1.1, Ti f1.2.1, Ti f1.2.2], I x2, I y3, I u4, I v5] (I r) [] := by
  refine CallS_of_text (rs := [.t 10]) (vs := [.tmp 10]) Tryd.func172 rfl rfl (.cons rfl FitsL.nil) (by decide) 37 rfl ?_
  unfold r_impl_Form_polar at h
  show V _ _ ⟨[.ag [Ti f1.1, Ti f1.2.1, Ti f1.2.2], I x2, I y3, I u4, I v5, .bot, .bot, .bot, .bot, .bot, .bot, .bot, .bot, .bot, .bot, .bot, .bot, .bot, .bot, .bot, .bot, .bot, .bot, .bot, .bot, .bot, .bot, .bot, .bot, .bot, .bot, .bot, .bot, .bot, .bot, .bot, .bot], []⟩ _
  refine V_sreg [false, true, true, true, true, true, false, false, false, false, false, false, false, false, false, false, false, false, false, false, false, false, false, false, false, false, false, false, false, false, false, false, false, false, false, false, false] [40] (s1 := ⟨[.bot, I x2, I y3, I u4, I v5, .pt 40 0, .bot, .bot, .bot, .bot, .bot, .bot, .bot, .bot, .bot, .bot, .bot, .bot, .bot, .bot, .bot, .bot, .bot, .bot, .bot, .bot, .bot, .bot, .bot, .bot, .bot, .bot, .bot, .bot, .bot, .bot, .bot], [(40, .box [Ti f1.1, Ti f1.2.1, Ti f1.2.2])]⟩) ?_ ?_
  · refine XL_cons rfl (X_of_Y1 rfl (Y1_box (cs := [Ti f1.1, Ti f1.2.1, Ti f1.2.2]) rfl (by kernel_rfl))) ?_
    refine XL_cons rfl (X_of_Y0 rfl (E_assign (I 0) rfl (by kernel_rfl))) ?_
    refine XL_nil ?_
    kernel_rfl
  obtain ⟨t6, ht6, h⟩ := of_sI h
  refine V_sreg [false, false, false, false, false, false, false, false, false, false, true, false, false, false, false, false, false, false, false, false, false, false, false, false, false, false, false, false, false, false, false, false, false, false, false, false, false] [] (s1 := ⟨[.bot, .bot, .bot, .bot, .bot, .bot, .bot, .bot, .bot, .bot, I t6, .bot, .bot, .bot, .bot, .bot, .bot, .bot, .bot, .bot, .bot, .bot, .bot, .bot, .bot, .bot, .bot, .bot, .bot, .bot, .bot, .bot, .bot, .bot, .bot, .bot, .bot], []⟩) ?_ ?_
  · refine XL_cons rfl (X_of_Y0 rfl (E_field (.pt 40 0) Tryd.underlying33 rfl sz3 rfl (by kernel_rfl) (by intro hh; cases hh))) ?_
    refine XL_cons rfl (X_of_Y0 rfl (Y0_load1 (c := Ti f1.1) (cs := [Ti f1.2.1, Ti f1.2.2]) sc3 rfl (by kernel_rfl))) ?_
    refine XL_cons rfl (X_of_Y0 rfl (Y0_mul64 (a := 2) (b := f1.1) rfl (by kernel_rfl) (by kernel_rfl))) ?_
    refine XL_cons rfl (X_of_Y0 rfl (E_move (I x2) rfl (by kernel_rfl))) ?_
    refine XL_cons rfl (X_of_Y0 rfl (Y0_mul64 (a := w64 (2 * f1.1)) (b := x2) rfl (by kernel_rfl) (by kernel_rfl))) ?_
    refine XL_cons rfl (X_of_Y0 rfl (E_move (I u4) rfl (by kernel_rfl))) ?_
    refine XL_cons rfl (X_of_Y0 rfl (Y0_mul64 (a := w64 ((w64 (2 * f1.1)) * x2)) (b := u4) rfl (by kernel_rfl) (by kernel_rfl))) ?_
    refine XL_cons rfl (X_of_Y0 rfl (E_field (.pt 40 1) Tryd.underlying33 rfl sz3 rfl (by kernel_rfl) (by intro hh; cases hh))) ?_
    refine XL_cons rfl (X_of_Y0 rfl (Y0_load1 (c := Ti f1.2.1) (cs := [Ti f1.2.2]) sc3 rfl (by kernel_rfl))) ?_
    refine XL_cons rfl (X_of_Y0 rfl (E_move (I x2) rfl (by kernel_rfl))) ?_
    refine XL_cons rfl (X_of_Y0 rfl (E_move (I v5) rfl (by kernel_rfl))) ?_
    refine XL_cons rfl (X_of_Y0 rfl (Y0_mul64 (a := x2) (b := v5) rfl (by kernel_rfl) (by kernel_rfl))) ?_
    refine XL_cons rfl (X_of_Y0 rfl (E_move (I y3) rfl (by kernel_rfl))) ?_
    refine XL_cons rfl (X_of_Y0 rfl (E_move (I u4) rfl (by kernel_rfl))) ?_
    refine XL_cons rfl (X_of_Y0 rfl (Y0_mul64 (a := y3) (b := u4) rfl (by kernel_rfl) (by kernel_rfl))) ?_
    refine XL_cons rfl (X_of_Y0 rfl (Y0_add64 (a := w64 (x2 * v5)) (b := w64 (y3 * u4)) rfl (by kernel_rfl) (by kernel_rfl))) ?_
    refine XL_cons rfl (X_of_Y0 rfl (Y0_mul64 (a := f1.2.1) (b := w64 ((w64 (x2 * v5)) + (w64 (y3 * u4)))) rfl (by kernel_rfl) (by kernel_rfl))) ?_
    refine XL_cons rfl (X_of_Y0 rfl (Y0_add64 (a := w64 ((w64 ((w64 (2 * f1.1)) * x2)) * u4)) (b := w64 (f1.2.1 * (w64 ((w64 (x2 * v5)) + (w64 (y3 * u4)))))) rfl (by kernel_rfl) (by kernel_rfl))) ?_
    refine XL_cons rfl (X_of_Y0 rfl (E_field (.pt 40 2) Tryd.underlying33 rfl sz3 rfl (by kernel_rfl) (by intro hh; cases hh))) ?_
    refine XL_cons rfl (X_of_Y0 rfl (Y0_load1 (c := Ti f1.2.2) (cs := []) sc3 rfl (by kernel_rfl))) ?_
    refine XL_cons rfl (X_of_Y0 rfl (Y0_mul64 (a := 2) (b := f1.2.2) rfl (by kernel_rfl) (by kernel_rfl))) ?_
    refine XL_cons rfl (X_of_Y0 rfl (E_move (I y3) rfl (by kernel_rfl))) ?_
    refine XL_cons rfl (X_of_Y0 rfl (Y0_mul64 (a := w64 (2 * f1.2.2)) (b := y3) rfl (by kernel_rfl) (by kernel_rfl))) ?_
    refine XL_cons rfl (X_of_Y0 rfl (E_move (I v5) rfl (by kernel_rfl))) ?_
    refine XL_cons rfl (X_of_Y0 rfl (Y0_mul64 (a := w64 ((w64 (2 * f1.2.2)) * y3)) (b := v5) rfl (by kernel_rfl) (by kernel_rfl))) ?_
    refine XL_cons rfl (X_of_Y0 rfl (Y0_add64 (a := w64 ((w64 ((w64 ((w64 (2 * f1.1)) * x2)) * u4)) + (w64 (f1.2.1 * (w64 ((w64 (x2 * v5)) + (w64 (y3 * u4)))))))) (b := w64 ((w64 ((w64 (2 * f1.2.2)) * y3)) * v5)) rfl (by kernel_rfl) (by kernel_rfl))) ?_
    refine XL_cons rfl (X_of_Y0 rfl (E_assign (I (w64 ((w64 ((w64 ((w64 ((w64 (2 * f1.1)) * x2)) * u4)) + (w64 (f1.2.1 * (w64 ((w64 (x2 * v5)) + (w64 (y3 * u4)))))))) + (w64 ((w64 ((w64 (2 * f1.2.2)) * y3)) * v5))))) rfl (by kernel_rfl))) ?_
    refine XL_nil ?_
    subst ht6
    kernel_rfl
  refine V_ret ?_
  obtain rfl := some_inj h
  show Post _ _ _ _ _
  exact ⟨.inr rfl, rfl, rfl, rfl⟩
theorem cf_impl_Form_substitute : ∀ args w, (callFunc 137 args).run Tryd.prog w = .ok (.enter 137 args) w := run_callFunc Tryd.func137 (by kernel_rfl) (by kernel_rfl)
set_option maxRecDepth 100000 in
set_option maxHeartbeats 400000 in
theorem s_impl_Form_substitute {f1 : (Int × Int × Int)} {vm2 : (Int × Int × Int × Int)} {r : (Int × Int × Int)} (h : r_impl_Form_substitute f1 vm2 = some r) : CallS Tryd.prog 137 [.ag [Ti f1.1, Ti f1.2.1, Ti f1.2.2], .ag [Ti vm2.1, Ti vm2.2.1, Ti vm2.2.2.1, Ti vm2.2.2.2]] (.ag [Ti r.1, Ti r.2.1, Ti r.2.2]) [] := by
  refine CallS_of_text (rs := [.w 4 3]) (vs := [.cell 4 33]) Tryd.func137 rfl rfl (.cons ⟨rfl, wd33⟩ FitsL.nil) (by decide) 28 rfl ?_
  unfold r_impl_Form_substitute at h
  show V _ _ ⟨[.ag [Ti f1.1, Ti f1.2.1, Ti f1.2.2], .ag [Ti vm2.1, Ti vm2.2.1, Ti vm2.2.2.1, Ti vm2.2.2.2], .bot, .bot, .bot, .bot, .bot, .bot, .bot, .bot, .bot, .bot, .bot, .bot, .bot, .bot, .bot, .bot, .bot, .bot, .bot, .bot, .bot, .bot, .bot, .bot, .bot, .bot], []⟩ _
  refine V_sreg [false, false, true, true, true, false, false, false, false, false, false, false, false, false, false, false, false, false, false, false, false, false, false, false, false, false, false, false] [32, 24, 16] (s1 := ⟨[.bot, .bot, .pt 16 0, .pt 24 0, .pt 32 0, .bot, .bot, .bot, .bot, .bot, .bot, .bot, .bot, .bot, .bot, .bot, .bot, .bot, .bot, .bot, .bot, .bot, .bot, .bot, .bot, .bot, .bot, .bot], [(32, .box [Ti 0, Ti 0, Ti 0]), (24, .box [Ti vm2.1, Ti vm2.2.1, Ti vm2.2.2.1, Ti vm2.2.2.2]), (16, .box [Ti f1.1, Ti f1.2.1, Ti f1.2.2])]⟩) ?_ ?_
  · refine XL_cons rfl (X_of_Y1 rfl (Y1_box (cs := [Ti f1.1, Ti f1.2.1, Ti f1.2.2]) rfl (by kernel_rfl))) ?_
    refine XL_cons rfl (X_of_Y1 rfl (Y1_box (cs := [Ti vm2.1, Ti vm2.2.1, Ti vm2.2.2.1, Ti vm2.2.2.2]) rfl (by kernel_rfl))) ?_
    refine XL_cons rfl (X_of_Y1 rfl (Y1_alloc (z := zv33) rfl zf33 rfl)) ?_
    refine XL_nil ?_
    kernel_rfl
  obtain ⟨y3, hy3, h⟩ := of_bind h
  obtain ⟨y4, hy4, h⟩ := of_bind h
  obtain ⟨y5, hy5, h⟩ := of_bind h
  refine V_sdreg [0, 0, 2, 0, 8, 31, 0, 0, 128, 0, 512, 0, 2048, 0, 8192, 32767, 0, 0, 131072, 0, 524288, 2097151, 4194303, 8388607] 23 [[.z, .b, .b, .b, .b, .z, .b, .b, .b, .b, .b, .b, .b, .b, .b, .z, .b, .b, .b, .b, .b, .z, .z], [.b, .z, .z, .b, .b, .z, .b, .b, .b, .b, .b, .b, .b, .b, .b, .z, .b, .b, .b, .b, .b, .z, .z], [.b, .a, .z, .b, .b, .z, .b, .b, .b, .b, .b, .b, .b, .b, .b, .z, .b, .b, .b, .b, .b, .z, .z], [.b, .b, .b, .z, .z, .z, .b, .b, .b, .b, .b, .b, .b, .b, .b, .z, .b, .b, .b, .b, .b, .z, .z], [.b, .b, .b, .a, .z, .z, .b, .b, .b, .b, .b, .b, .b, .b, .b, .z, .b, .b, .b, .b, .b, .z, .z], [.a, .a, .a, .a, .a, .z, .b, .b, .b, .b, .b, .b, .b, .b, .b, .z, .b, .b, .b, .b, .b, .z, .z], [.b, .b, .b, .b, .b, .b, .z, .b, .b, .b, .b, .b, .b, .b, .b, .z, .b, .b, .b, .b, .b, .z, .z], [.b, .b, .b, .b, .b, .b, .b, .z, .z, .b, .b, .b, .b, .b, .b, .z, .b, .b, .b, .b, .b, .z, .z], [.b, .b, .b, .b, .b, .b, .b, .a, .z, .b, .b, .b, .b, .b, .b, .z, .b, .b, .b, .b, .b, .z, .z], [.b, .b, .b, .b, .b, .b, .b, .b, .b, .z, .z, .b, .b, .b, .b, .z, .b, .b, .b, .b, .b, .z, .z], [.b, .b, .b, .b, .b, .b, .b, .b, .b, .a, .z, .b, .b, .b, .b, .z, .b, .b, .b, .b, .b, .z, .z], [.b, .b, .b, .b, .b, .b, .b, .b, .b, .b, .b, .z, .z, .b, .b, .z, .b, .b, .b, .b, .b, .z, .z], [.b, .b, .b, .b, .b, .b, .b, .b, .b, .b, .b, .a, .z, .b, .b, .z, .b, .b, .b, .b, .b, .z, .z], [.b, .b, .b, .b, .b, .b, .b, .b, .b, .b, .b, .b, .b, .z, .z, .z, .b, .b, .b, .b, .b, .z, .z], [.b, .b, .b, .b, .b, .b, .b, .b, .b, .b, .b, .b, .b, .a, .z, .z, .b, .b, .b, .b, .b, .z, .z], [.a, .a, .a, .a, .a, .a, .a, .a, .a, .a, .a, .a, .a, .a, .a, .z, .b, .b, .b, .b, .b, .z, .z], [.b, .b, .b, .b, .b, .b, .b, .b, .b, .b, .b, .b, .b, .b, .b, .b, .z, .b, .b, .b, .b, .z, .z], [.b, .b, .b, .b, .b, .b, .b, .b, .b, .b, .b, .b, .b, .b, .b, .b, .b, .z, .z, .b, .b, .z, .z], [.b, .b, .b, .b, .b, .b, .b, .b, .b, .b, .b, .b, .b, .b, .b, .b, .b, .a, .z, .b, .b, .z, .z], [.b, .b, .b, .b, .b, .b, .b, .b, .b, .b, .b, .b, .b, .b, .b, .b, .b, .b, .b, .z, .z, .z, .z], [.b, .b, .b, .b, .b, .b, .b, .b, .b, .b, .b, .b, .b, .b, .b, .b, .b, .b, .b, .a, .z, .z, .z], [.a, .a, .a, .a, .a, .a, .a, .a, .a, .a, .a, .a, .a, .a, .a, .a, .a, .a, .a, .a, .a, .z, .z], [.a, .a, .a, .a, .a, .a, .a, .a, .a, .a, .a, .a, .a, .a, .a, .a, .a, .a, .a, .a, .a, .a, .z]] [false, false, false, false, true, false, false, false, false, false, false, false, false, false, false, false, false, false, false, false, false, false, false, false, false, false, false, false] [32] (s1 := ⟨[.bot, .bot, .bot, .bot, .pt 32 0, .bot, .bot, .bot, .bot, .bot, .bot, .bot, .bot, .bot, .bot, .bot, .bot, .bot, .bot, .bot, .bot, .bot, .bot, .bot, .bot, .bot, .bot, .bot], [(32, .box [Ti y3, Ti y4, Ti y5])]⟩) (by kernel_rfl) (by kernel_rfl) ?_ ?_
  · refine DE_0 0 (.ag [Ti f1.1, Ti f1.2.1, Ti f1.2.2]) (by kernel_rfl) rfl rfl rfl (gsat_none rfl) (by kernel_rfl) (E_loadn (cs := [Ti f1.1, Ti f1.2.1, Ti f1.2.2]) [Ti f1.1, Ti f1.2.1, Ti f1.2.2] wd33 rfl (by kernel_rfl) (Nat.le_of_ble_eq_true rfl) (by kernel_rfl)) 5 rfl ?_
    refine DE_0 1 (.pt 24 0) (by kernel_rfl) rfl rfl rfl (gsat_none rfl) (by kernel_rfl) (E_field (.pt 24 0) Tryd.underlying53 rfl sz3 rfl (by kernel_rfl) (by intro hh; cases hh)) 6 rfl ?_
    refine DE_0 2 (I vm2.1) (by kernel_rfl) rfl rfl rfl (gsat_none rfl) (by kernel_rfl) (Y0_load1 (c := Ti vm2.1) (cs := [Ti vm2.2.1, Ti vm2.2.2.1, Ti vm2.2.2.2]) sc3 rfl (by kernel_rfl)) 7 rfl ?_
    refine DE_0 3 (.pt 24 2) (by kernel_rfl) rfl rfl rfl (gsat_none rfl) (by kernel_rfl) (E_field (.pt 24 2) Tryd.underlying53 rfl sz3 rfl (by kernel_rfl) (by intro hh; cases hh)) 8 rfl ?_
    refine DE_0 4 (I vm2.2.2.1) (by kernel_rfl) rfl rfl rfl (gsat_none rfl) (by kernel_rfl) (Y0_load1 (c := Ti vm2.2.2.1) (cs := [Ti vm2.2.2.2]) sc3 rfl (by kernel_rfl)) 9 rfl ?_
    refine DE_1 5 (by kernel_rfl) rfl rfl rfl (gsat_none rfl) (Y1_call (s_impl_Form_at hy3) cf_impl_Form_at rfl (by kernel_rfl)) rfl rfl rfl 10 rfl ?_
    refine DE_0 6 (.ag [Ti f1.1, Ti f1.2.1, Ti f1.2.2]) (by kernel_rfl) rfl rfl rfl (gsat_none rfl) (by kernel_rfl) (E_loadn (cs := [Ti f1.1, Ti f1.2.1, Ti f1.2.2]) [Ti f1.1, Ti f1.2.1, Ti f1.2.2] wd33 rfl (by kernel_rfl) (Nat.le_of_ble_eq_true rfl) (by kernel_rfl)) 11 rfl ?_
    refine DE_0 7 (.pt 24 0) (by kernel_rfl) rfl rfl rfl (gsat_none rfl) (by kernel_rfl) (E_field (.pt 24 0) Tryd.underlying53 rfl sz3 rfl (by kernel_rfl) (by intro hh; cases hh)) 12 rfl ?_
    refine DE_0 8 (I vm2.1) (by kernel_rfl) rfl rfl rfl (gsat_none rfl) (by kernel_rfl) (Y0_load1 (c := Ti vm2.1) (cs := [Ti vm2.2.1, Ti vm2.2.2.1, Ti vm2.2.2.2]) sc3 rfl (by kernel_rfl)) 13 rfl ?_
    refine DE_0 9 (.pt 24 2) (by kernel_rfl) rfl rfl rfl (gsat_none rfl) (by kernel_rfl) (E_field (.pt 24 2) Tryd.underlying53 rfl sz3 rfl (by kernel_rfl) (by intro hh; cases hh)) 14 rfl ?_
    refine DE_0 10 (I vm2.2.2.1) (by kernel_rfl) rfl rfl rfl (gsat_none rfl) (by kernel_rfl) (Y0_load1 (c := Ti vm2.2.2.1) (cs := [Ti vm2.2.2.2]) sc3 rfl (by kernel_rfl)) 15 rfl ?_
    refine DE_0 11 (.pt 24 1) (by kernel_rfl) rfl rfl rfl (gsat_none rfl) (by kernel_rfl) (E_field (.pt 24 1) Tryd.underlying53 rfl sz3 rfl (by kernel_rfl) (by intro hh; cases hh)) 16 rfl ?_
    refine DE_0 12 (I vm2.2.1) (by kernel_rfl) rfl rfl rfl (gsat_none rfl) (by kernel_rfl) (Y0_load1 (c := Ti vm2.2.1) (cs := [Ti vm2.2.2.1, Ti vm2.2.2.2]) sc3 rfl (by kernel_rfl)) 17 rfl ?_
    refine DE_0 13 (.pt 24 3) (by kernel_rfl) rfl rfl rfl (gsat_none rfl) (by kernel_rfl) (E_field (.pt 24 3) Tryd.underlying53 rfl sz3 rfl (by kernel_rfl) (by intro hh; cases hh)) 18 rfl ?_
    refine DE_0 14 (I vm2.2.2.2) (by kernel_rfl) rfl rfl rfl (gsat_none rfl) (by kernel_rfl) (Y0_load1 (c := Ti vm2.2.2.2) (cs := []) sc3 rfl (by kernel_rfl)) 19 rfl ?_
    refine DE_1 15 (by kernel_rfl) rfl rfl rfl (gsat_none rfl) (Y1_call (s_impl_Form_polar hy4) cf_impl_Form_polar rfl (by kernel_rfl)) rfl rfl rfl 20 rfl ?_
    refine DE_0 16 (.ag [Ti f1.1, Ti f1.2.1, Ti f1.2.2]) (by kernel_rfl) rfl rfl rfl (gsat_none rfl) (by kernel_rfl) (E_loadn (cs := [Ti f1.1, Ti f1.2.1, Ti f1.2.2]) [Ti f1.1, Ti f1.2.1, Ti f1.2.2] wd33 rfl (by kernel_rfl) (Nat.le_of_ble_eq_true rfl) (by kernel_rfl)) 21 rfl ?_
    refine DE_0 17 (.pt 24 1) (by kernel_rfl) rfl rfl rfl (gsat_none rfl) (by kernel_rfl) (E_field (.pt 24 1) Tryd.underlying53 rfl sz3 rfl (by kernel_rfl) (by intro hh; cases hh)) 22 rfl ?_
    refine DE_0 18 (I vm2.2.1) (by kernel_rfl) rfl rfl rfl (gsat_none rfl) (by kernel_rfl) (Y0_load1 (c := Ti vm2.2.1) (cs := [Ti vm2.2.2.1, Ti vm2.2.2.2]) sc3 rfl (by kernel_rfl)) 23 rfl ?_
    refine DE_0 19 (.pt 24 3) (by kernel_rfl) rfl rfl rfl (gsat_none rfl) (by kernel_rfl) (E_field (.pt 24 3) Tryd.underlying53 rfl sz3 rfl (by kernel_rfl) (by intro hh; cases hh)) 24 rfl ?_
    refine DE_0 20 (I vm2.2.2.2) (by kernel_rfl) rfl rfl rfl (gsat_none rfl) (by kernel_rfl) (Y0_load1 (c := Ti vm2.2.2.2) (cs := []) sc3 rfl (by kernel_rfl)) 25 rfl ?_
    refine DE_1 21 (by kernel_rfl) rfl rfl rfl (gsat_none rfl) (Y1_call (s_impl_Form_at hy5) cf_impl_Form_at rfl (by kernel_rfl)) rfl rfl rfl 26 rfl ?_
    refine DE_0 22 (.ag [Ti y3, Ti y4, Ti y5]) (by kernel_rfl) rfl rfl rfl (gsat_none rfl) (by kernel_rfl) (Y0_build (cs := [Ti y3, Ti y4, Ti y5]) pl33 bt33 rfl rfl (by kernel_rfl)) 27 rfl ?_
    refine DL_nil (by kernel_rfl) ?_
    refine XL_cons rfl (E_store (id := 32) (off := 0) (cs := [Ti 0, Ti 0, Ti 0]) (vc := [Ti y3, Ti y4, Ti y5]) [Ti y3, Ti y4, Ti y5] rfl rfl (by kernel_rfl) (by kernel_rfl) (by kernel_rfl) sz33 (Nat.le_of_ble_eq_true rfl) (by kernel_rfl)) ?_
    refine XL_nil ?_
    kernel_rfl
  refine V_ret ?_
  obtain rfl := some_inj h
  show Post _ _ _ _ _
  exact ⟨.inr rfl, rfl, rfl, rfl⟩
theorem cf_impl_Matrix_times : ∀ args w, (callFunc 92 args).run Tryd.prog w = .ok (.enter 92 args) w := run_callFunc Tryd.func92 (by kernel_rfl) (by kernel_rfl)
set_option maxRecDepth 100000 in
set_option maxHeartbeats 400000 in
theorem s_impl_Matrix_times {vm1 : (Int × Int × Int × Int)} {vn2 : (Int × Int × Int × Int)} {r : (Int × Int × Int × Int)} (h : r_impl_Matrix_times vm1 vn2 = some r) : CallS Tryd.prog 92 [.ag [Ti vm1.1, Ti vm1.2.1, Ti vm1.2.2.1, Ti vm1.2.2.2], .ag [Ti vn2.1, Ti vn2.2.1, Ti vn2.2.2.1, Ti vn2.2.2.2]] (.ag [Ti r.1, Ti r.2.1, Ti r.2.2.1, Ti r.2.2.2]) [] := by
  refine CallS_of_text (rs := [.w 4 4]) (vs := [.cell 4 53]) Tryd.func92 rfl rfl (.cons ⟨rfl, wd53⟩ FitsL.nil) (by decide) 50 rfl ?_
  unfold r_impl_Matrix_times at h
  show V _ _ ⟨[.ag [Ti vm1.1, Ti vm1.2.1, Ti vm1.2.2.1, Ti vm1.2.2.2], .ag [Ti vn2.1, Ti vn2.2.1, Ti vn2.2.2.1, Ti vn2.2.2.2], .bot, .bot, .bot, .bot, .bot, .bot, .bot, .bot, .bot, .bot, .bot, .bot, .bot, .bot, .bot, .bot, .bot, .bot, .bot, .bot, .bot, .bot, .bot, .bot, .bot, .bot, .bot, .bot, .bot, .bot, .bot, .bot, .bot, .bot, .bot, .bot, .bot, .bot, .bot, .bot, .bot, .bot, .bot, .bot, .bot, .bot, .bot, .bot], []⟩ _
  refine V_sreg [false, false, true, true, true, false, false, false, false, false, false, false, false, false, false, false, false, false, false, false, false, false, false, false, false, false, false, false, false, false, false, false, false, false, false, false, false, false, false, false, false, false, false, false, false, false, false, false, false, false] [32, 24, 16] (s1 := ⟨[.bot, .bot, .pt 16 0, .pt 24 0, .pt 32 0, .bot, .bot, .bot, .bot, .bot, .bot, .bot, .bot, .bot, .bot, .bot, .bot, .bot, .bot, .bot, .bot, .bot, .bot, .bot, .bot, .bot, .bot, .bot, .bot, .bot, .bot, .bot, .bot, .bot, .bot, .bot, .bot, .bot, .bot, .bot, .bot, .bot, .bot, .bot, .bot, .bot, .bot, .bot, .bot, .bot], [(32, .box [Ti 0, Ti 0, Ti 0, Ti 0]), (24, .box [Ti vn2.1, Ti vn2.2.1, Ti vn2.2.2.1, Ti vn2.2.2.2]), (16, .box [Ti vm1.1, Ti vm1.2.1, Ti vm1.2.2.1, Ti vm1.2.2.2])]⟩) ?_ ?_
  · refine XL_cons rfl (X_of_Y1 rfl (Y1_box (cs := [Ti vm1.1, Ti vm1.2.1, Ti vm1.2.2.1, Ti vm1.2.2.2]) rfl (by kernel_rfl))) ?_
    refine XL_cons rfl (X_of_Y1 rfl (Y1_box (cs := [Ti vn2.1, Ti vn2.2.1, Ti vn2.2.2.1, Ti vn2.2.2.2]) rfl (by kernel_rfl))) ?_
    refine XL_cons rfl (X_of_Y1 rfl (Y1_alloc (z := zv53) rfl zf53 rfl)) ?_
    refine XL_nil ?_
    kernel_rfl
  obtain ⟨f3, hf3, h⟩ := of_sI h
  obtain ⟨f4, hf4, h⟩ := of_sI h
  obtain ⟨f5, hf5, h⟩ := of_sI h
  obtain ⟨f6, hf6, h⟩ := of_sI h
  refine V_sreg [false, false, false, false, true, false, false, false, false, false, false, false, false, false, false, false, false, false, false, false, false, false, false, false, false, false, false, false, false, false, false, false, false, false, false, false, false, false, false, false, false, false, false, false, false, false, false, false, false, false] [32] (s1 := ⟨[.bot, .bot, .bot, .bot, .pt 32 0, .bot, .bot, .bot, .bot, .bot, .bot, .bot, .bot, .bot, .bot, .bot, .bot, .bot, .bot, .bot, .bot, .bot, .bot, .bot, .bot, .bot, .bot, .bot, .bot, .bot, .bot, .bot, .bot, .bot, .bot, .bot, .bot, .bot, .bot, .bot, .bot, .bot, .bot, .bot, .bot, .bot, .bot, .bot, .bot, .bot], [(32, .box [Ti f3, Ti f4, Ti f5, Ti f6])]⟩) ?_ ?_
  · refine XL_cons rfl (X_of_Y0 rfl (E_field (.pt 16 0) Tryd.underlying53 rfl sz3 rfl (by kernel_rfl) (by intro hh; cases hh))) ?_
    refine XL_cons rfl (X_of_Y0 rfl (Y0_load1 (c := Ti vm1.1) (cs := [Ti vm1.2.1, Ti vm1.2.2.1, Ti vm1.2.2.2]) sc3 rfl (by kernel_rfl))) ?_
    refine XL_cons rfl (X_of_Y0 rfl (E_field (.pt 24 0) Tryd.underlying53 rfl sz3 rfl (by kernel_rfl) (by intro hh; cases hh))) ?_
    refine XL_cons rfl (X_of_Y0 rfl (Y0_load1 (c := Ti vn2.1) (cs := [Ti vn2.2.1, Ti vn2.2.2.1, Ti vn2.2.2.2]) sc3 rfl (by kernel_rfl))) ?_
    refine XL_cons rfl (X_of_Y0 rfl (Y0_mul64 (a := vm1.1) (b := vn2.1) rfl (by kernel_rfl) (by kernel_rfl))) ?_
    refine XL_cons rfl (X_of_Y0 rfl (E_field (.pt 16 1) Tryd.underlying53 rfl sz3 rfl (by kernel_rfl) (by intro hh; cases hh))) ?_
    refine XL_cons rfl (X_of_Y0 rfl (Y0_load1 (c := Ti vm1.2.1) (cs := [Ti vm1.2.2.1, Ti vm1.2.2.2]) sc3 rfl (by kernel_rfl))) ?_
    refine XL_cons rfl (X_of_Y0 rfl (E_field (.pt 24 2) Tryd.underlying53 rfl sz3 rfl (by kernel_rfl) (by intro hh; cases hh))) ?_
    refine XL_cons rfl (X_of_Y0 rfl (Y0_load1 (c := Ti vn2.2.2.1) (cs := [Ti vn2.2.2.2]) sc3 rfl (by kernel_rfl))) ?_
    refine XL_cons rfl (X_of_Y0 rfl (Y0_mul64 (a := vm1.2.1) (b := vn2.2.2.1) rfl (by kernel_rfl) (by kernel_rfl))) ?_
    refine XL_cons rfl (X_of_Y0 rfl (Y0_add64 (a := w64 (vm1.1 * vn2.1)) (b := w64 (vm1.2.1 * vn2.2.2.1)) rfl (by kernel_rfl) (by kernel_rfl))) ?_
    refine XL_cons rfl (X_of_Y0 rfl (E_field (.pt 16 0) Tryd.underlying53 rfl sz3 rfl (by kernel_rfl) (by intro hh; cases hh))) ?_
    refine XL_cons rfl (X_of_Y0 rfl (Y0_load1 (c := Ti vm1.1) (cs := [Ti vm1.2.1, Ti vm1.2.2.1, Ti vm1.2.2.2]) sc3 rfl (by kernel_rfl))) ?_
    refine XL_cons rfl (X_of_Y0 rfl (E_field (.pt 24 1) Tryd.underlying53 rfl sz3 rfl (by kernel_rfl) (by intro hh; cases hh))) ?_
    refine XL_cons rfl (X_of_Y0 rfl (Y0_load1 (c := Ti vn2.2.1) (cs := [Ti vn2.2.2.1, Ti vn2.2.2.2]) sc3 rfl (by kernel_rfl))) ?_
    refine XL_cons rfl (X_of_Y0 rfl (Y0_mul64 (a := vm1.1) (b := vn2.2.1) rfl (by kernel_rfl) (by kernel_rfl))) ?_
    refine XL_cons rfl (X_of_Y0 rfl (E_field (.pt 16 1) Tryd.underlying53 rfl sz3 rfl (by kernel_rfl) (by intro hh; cases hh))) ?_
    refine XL_cons rfl (X_of_Y0 rfl (Y0_load1 (c := Ti vm1.2.1) (cs := [Ti vm1.2.2.1, Ti vm1.2.2.2]) sc3 rfl (by kernel_rfl))) ?_
    refine XL_cons rfl (X_of_Y0 rfl (E_field (.pt 24 3) Tryd.underlying53 rfl sz3 rfl (by kernel_rfl) (by intro hh; cases hh))) ?_
    refine XL_cons rfl (X_of_Y0 rfl (Y0_load1 (c := Ti vn2.2.2.2) (cs := []) sc3 rfl (by kernel_rfl))) ?_
    refine XL_cons rfl (X_of_Y0 rfl (Y0_mul64 (a := vm1.2.1) (b := vn2.2.2.2) rfl (by kernel_rfl) (by kernel_rfl))) ?_
    refine XL_cons rfl (X_of_Y0 rfl (Y0_add64 (a := w64 (vm1.1 * vn2.2.1)) (b := w64 (vm1.2.1 * vn2.2.2.2)) rfl (by kernel_rfl) (by kernel_rfl))) ?_
    refine XL_cons rfl (X_of_Y0 rfl (E_field (.pt 16 2) Tryd.underlying53 rfl sz3 rfl (by kernel_rfl) (by intro hh; cases hh))) ?_
    refine XL_cons rfl (X_of_Y0 rfl (Y0_load1 (c := Ti vm1.2.2.1) (cs := [Ti vm1.2.2.2]) sc3 rfl (by kernel_rfl))) ?_
    refine XL_cons rfl (X_of_Y0 rfl (E_field (.pt 24 0) Tryd.underlying53 rfl sz3 rfl (by kernel_rfl) (by intro hh; cases hh))) ?_
    refine XL_cons rfl (X_of_Y0 rfl (Y0_load1 (c := Ti vn2.1) (cs := [Ti vn2.2.1, Ti vn2.2.2.1, Ti vn2.2.2.2]) sc3 rfl (by kernel_rfl))) ?_
    refine XL_cons rfl (X_of_Y0 rfl (Y0_mul64 (a := vm1.2.2.1) (b := vn2.1) rfl (by kernel_rfl) (by kernel_rfl))) ?_
    refine XL_cons rfl (X_of_Y0 rfl (E_field (.pt 16 3) Tryd.underlying53 rfl sz3 rfl (by kernel_rfl) (by intro hh; cases hh))) ?_
    refine XL_cons rfl (X_of_Y0 rfl (Y0_load1 (c := Ti vm1.2.2.2) (cs := []) sc3 rfl (by kernel_rfl))) ?_
    refine XL_cons rfl (X_of_Y0 rfl (E_field (.pt 24 2) Tryd.underlying53 rfl sz3 rfl (by kernel_rfl) (by intro hh; cases hh))) ?_
    refine XL_cons rfl (X_of_Y0 rfl (Y0_load1 (c := Ti vn2.2.2.1) (cs := [Ti vn2.2.2.2]) sc3 rfl (by kernel_rfl))) ?_
    refine XL_cons rfl (X_of_Y0 rfl (Y0_mul64 (a := vm1.2.2.2) (b := vn2.2.2.1) rfl (by kernel_rfl) (by kernel_rfl))) ?_
    refine XL_cons rfl (X_of_Y0 rfl (Y0_add64 (a := w64 (vm1.2.2.1 * vn2.1)) (b := w64 (vm1.2.2.2 * vn2.2.2.1)) rfl (by kernel_rfl) (by kernel_rfl))) ?_
    refine XL_cons rfl (X_of_Y0 rfl (E_field (.pt 16 2) Tryd.underlying53 rfl sz3 rfl (by kernel_rfl) (by intro hh; cases hh))) ?_
    refine XL_cons rfl (X_of_Y0 rfl (Y0_load1 (c := Ti vm1.2.2.1) (cs := [Ti vm1.2.2.2]) sc3 rfl (by kernel_rfl))) ?_
    refine XL_cons rfl (X_of_Y0 rfl (E_field (.pt 24 1) Tryd.underlying53 rfl sz3 rfl (by kernel_rfl) (by intro hh; cases hh))) ?_
    refine XL_cons rfl (X_of_Y0 rfl (Y0_load1 (c := Ti vn2.2.1) (cs := [Ti vn2.2.2.1, Ti vn2.2.2.2]) sc3 rfl (by kernel_rfl))) ?_
    refine XL_cons rfl (X_of_Y0 rfl (Y0_mul64 (a := vm1.2.2.1) (b := vn2.2.1) rfl (by kernel_rfl) (by kernel_rfl))) ?_
    refine XL_cons rfl (X_of_Y0 rfl (E_field (.pt 16 3) Tryd.underlying53 rfl sz3 rfl (by kernel_rfl) (by intro hh; cases hh))) ?_
    refine XL_cons rfl (X_of_Y0 rfl (Y0_load1 (c := Ti vm1.2.2.2) (cs := []) sc3 rfl (by kernel_rfl))) ?_
    refine XL_cons rfl (X_of_Y0 rfl (E_field (.pt 24 3) Tryd.underlying53 rfl sz3 rfl (by kernel_rfl) (by intro hh; cases hh))) ?_
    refine XL_cons rfl (X_of_Y0 rfl (Y0_load1 (c := Ti vn2.2.2.2) (cs := []) sc3 rfl (by kernel_rfl))) ?_
    refine XL_cons rfl (X_of_Y0 rfl (Y0_mul64 (a := vm1.2.2.2) (b := vn2.2.2.2) rfl (by kernel_rfl) (by kernel_rfl))) ?_
    refine XL_cons rfl (X_of_Y0 rfl (Y0_add64 (a := w64 (vm1.2.2.1 * vn2.2.1)) (b := w64 (vm1.2.2.2 * vn2.2.2.2)) rfl (by kernel_rfl) (by kernel_rfl))) ?_
    refine XL_cons rfl (X_of_Y0 rfl (Y0_build (cs := [Ti (w64 ((w64 (vm1.1 * vn2.1)) + (w64 (vm1.2.1 * vn2.2.2.1)))), Ti (w64 ((w64 (vm1.1 * vn2.2.1)) + (w64 (vm1.2.1 * vn2.2.2.2)))), Ti (w64 ((w64 (vm1.2.2.1 * vn2.1)) + (w64 (vm1.2.2.2 * vn2.2.2.1)))), Ti (w64 ((w64 (vm1.2.2.1 * vn2.2.1)) + (w64 (vm1.2.2.2 * vn2.2.2.2))))]) pl53 bt53 rfl rfl (by kernel_rfl))) ?_
    refine XL_cons rfl (E_store (id := 32) (off := 0) (cs := [Ti 0, Ti 0, Ti 0, Ti 0]) (vc := [Ti (w64 ((w64 (vm1.1 * vn2.1)) + (w64 (vm1.2.1 * vn2.2.2.1)))), Ti (w64 ((w64 (vm1.1 * vn2.2.1)) + (w64 (vm1.2.1 * vn2.2.2.2)))), Ti (w64 ((w64 (vm1.2.2.1 * vn2.1)) + (w64 (vm1.2.2.2 * vn2.2.2.1)))), Ti (w64 ((w64 (vm1.2.2.1 * vn2.2.1)) + (w64 (vm1.2.2.2 * vn2.2.2.2))))]) [Ti (w64 ((w64 (vm1.1 * vn2.1)) + (w64 (vm1.2.1 * vn2.2.2.1)))), Ti (w64 ((w64 (vm1.1 * vn2.2.1)) + (w64 (vm1.2.1 * vn2.2.2.2)))), Ti (w64 ((w64 (vm1.2.2.1 * vn2.1)) + (w64 (vm1.2.2.2 * vn2.2.2.1)))), Ti (w64 ((w64 (vm1.2.2.1 * vn2.2.1)) + (w64 (vm1.2.2.2 * vn2.2.2.2))))] rfl rfl (by kernel_rfl) (by kernel_rfl) (by kernel_rfl) sz53 (Nat.le_of_ble_eq_true rfl) (by kernel_rfl)) ?_
    refine XL_nil ?_
    subst hf3 hf4 hf5 hf6
    kernel_rfl
  refine V_ret ?_
  obtain rfl := some_inj h
  show Post _ _ _ _ _
  exact ⟨.inr rfl, rfl, rfl, rfl⟩
theorem cf_impl_reduce : ∀ args w, (callFunc 87 args).run Tryd.prog w = .ok (.enter 87 args) w := run_callFunc Tryd.func87 (by kernel_rfl) (by kernel_rfl)
set_option maxRecDepth 100000 in
set_option maxHeartbeats 400000 in
theorem s_impl_reduce {f1 : (Int × Int × Int)} {r : (((Int × Int × Int)) × ((Int × Int × Int × Int)))} (h : r_impl_reduce f1 = some r) : CallS Tryd.prog 87 [.ag [Ti f1.1, Ti f1.2.1, Ti f1.2.2]] (.tc (.ag [Ti r.1.1, Ti r.1.2.1, Ti r.1.2.2]) (.tc (.ag [Ti r.2.1, Ti r.2.2.1, Ti r.2.2.2.1, Ti r.2.2.2.2]) .tn)) [] := by
  refine CallS_of_text (rs := [.w 2 3, .w 3 4]) (vs := [.cell 2 33, .cell 3 53]) Tryd.func87 rfl rfl (.cons ⟨rfl, wd33⟩ (.cons ⟨rfl, wd53⟩ FitsL.nil)) (by decide) 20 rfl ?_
  unfold r_impl_reduce at h
  show V _ _ ⟨[.ag [Ti f1.1, Ti f1.2.1, Ti f1.2.2], .bot, .bot, .bot, .bot, .bot, .bot, .bot, .bot, .bot, .bot, .bot, .bot, .bot, .bot, .bot, .bot, .bot, .bot, .bot], []⟩ _
  refine V_sreg [false, true, true, true, false, false, false, false, false, false, false, false, false, false, false, false, false, false, false, false] [24, 16, 8] (s1 := ⟨[.bot, .pt 8 0, .pt 16 0, .pt 24 0, .bot, .bot, .bot, .bot, .bot, .bot, .bot, .bot, .bot, .bot, .bot, .bot, .bot, .bot, .bot, .bot], [(24, .box [Ti 0, Ti 0, Ti 0, Ti 0]), (16, .box [Ti 0, Ti 0, Ti 0]), (8, .box [Ti f1.1, Ti f1.2.1, Ti f1.2.2])]⟩) ?_ ?_
  · refine XL_cons rfl (X_of_Y1 rfl (Y1_box (cs := [Ti f1.1, Ti f1.2.1, Ti f1.2.2]) rfl (by kernel_rfl))) ?_
    refine XL_cons rfl (X_of_Y1 rfl (Y1_alloc (z := zv33) rfl zf33 rfl)) ?_
    refine XL_cons rfl (X_of_Y1 rfl (Y1_alloc (z := zv53) rfl zf53 rfl)) ?_
    refine XL_nil ?_
    kernel_rfl
  obtain ⟨y2, hy2, h⟩ := of_bind h
  refine V_sreg [false, true, true, true, true, false, false, false, false, false, false, false, false, false, false, false, false, false, false, false] [32, 24, 16, 8] (s1 := ⟨[.bot, .pt 8 0, .pt 16 0, .pt 24 0, .pt 32 0, .bot, .bot, .bot, .bot, .bot, .bot, .bot, .bot, .bot, .bot, .bot, .bot, .bot, .bot, .bot], [(32, .box [Ti y2.1, Ti y2.2.1, Ti y2.2.2.1, Ti y2.2.2.2]), (24, .box [Ti 0, Ti 0, Ti 0, Ti 0]), (16, .box [Ti 0, Ti 0, Ti 0]), (8, .box [Ti f1.1, Ti f1.2.1, Ti f1.2.2])]⟩) ?_ ?_
  · refine XL_cons rfl (X_of_Y1 rfl (Y1_call (s_impl_one hy2) cf_impl_one rfl (by kernel_rfl))) ?_
    refine XL_cons rfl (X_of_Y1 rfl (Y1_alloc (z := zv53) rfl zf53 rfl)) ?_
    refine XL_cons rfl (E_store (id := 32) (off := 0) (cs := [Ti 0, Ti 0, Ti 0, Ti 0]) (vc := [Ti y2.1, Ti y2.2.1, Ti y2.2.2.1, Ti y2.2.2.2]) [Ti y2.1, Ti y2.2.1, Ti y2.2.2.1, Ti y2.2.2.2] rfl rfl (by kernel_rfl) (by kernel_rfl) (by kernel_rfl) sz53 (Nat.le_of_ble_eq_true rfl) (by kernel_rfl)) ?_
    refine XL_nil ?_
    kernel_rfl
  refine V_seq ?_
  obtain ⟨o11, hLo11, h⟩ := of_bind h
  refine V_toK [false, true, true, true, true, false, false, false, false, false, false, false, false, false, false, false, false, false, false, false] [32, 24, 16, 8] (s1 := ⟨[.bot, .pt 8 0, .pt 16 0, .pt 24 0, .pt 32 0, .bot, .bot, .bot, .bot, .bot, .bot, .bot, .bot, .bot, .bot, .bot, .bot, .bot, .bot, .bot], [(32, .box [Ti o11.1, Ti o11.2.1, Ti o11.2.2.1, Ti o11.2.2.2.1]), (24, .box [Ti 0, Ti 0, Ti 0, Ti 0]), (16, .box [Ti 0, Ti 0, Ti 0]), (8, .box [Ti o11.2.2.2.2.1, Ti o11.2.2.2.2.2.1, Ti o11.2.2.2.2.2.2])]⟩) ?_ ?_
  · clear h
    refine V_block (V_loop (fun n s => ∃ (f3 : Int) (f4 : Int) (f5 : Int) (f6 : Int) (f7 : Int) (f8 : Int) (f9 : Int), s.keep [false, true, true, true, true, false, false, false, false, false, false, false, false, false, false, false, false, false, false, false] [32, 24, 16, 8] = (⟨[.bot, .pt 8 0, .pt 16 0, .pt 24 0, .pt 32 0, .bot, .bot, .bot, .bot, .bot, .bot, .bot, .bot, .bot, .bot, .bot, .bot, .bot, .bot, .bot], [(32, .box [Ti f3, Ti f4, Ti f5, Ti f6]), (24, .box [Ti 0, Ti 0, Ti 0, Ti 0]), (16, .box [Ti 0, Ti 0, Ti 0]), (8, .box [Ti f7, Ti f8, Ti f9])]⟩ : St) ∧ r_impl_reduce_L10 n f3 f4 f5 f6 f7 f8 f9 = some o11) FU ⟨_, _, _, _, _, _, _,  by rfl, hLo11⟩ ?_)
    clear hLo11
    rintro n s ⟨f3, f4, f5, f6, f7, f8, f9, hs, h⟩
    refine V_keep _ _ hs ?_
    clear hs
    cases n with
    | zero => cases h
    | succ n =>
      rw [r_impl_reduce_L10] at h
      refine V_seq ?_
      obtain ⟨y12, hy12, h⟩ := of_bind h
      refine V_sreg [false, true, true, true, true, false, false, false, false, true, false, false, false, false, false, false, false, false, false, false] [32, 24, 16, 8] (s1 := ⟨[.bot, .pt 8 0, .pt 16 0, .pt 24 0, .pt 32 0, .bot, .bot, .bot, .bot, Bo (!y12), .bot, .bot, .bot, .bot, .bot, .bot, .bot, .bot, .bot, .bot], [(32, .box [Ti f3, Ti f4, Ti f5, Ti f6]), (24, .box [Ti 0, Ti 0, Ti 0, Ti 0]), (16, .box [Ti 0, Ti 0, Ti 0]), (8, .box [Ti f7, Ti f8, Ti f9])]⟩) ?_ ?_
      · refine XL_cons rfl (X_of_Y0 rfl (E_loadn (cs := [Ti f7, Ti f8, Ti f9]) [Ti f7, Ti f8, Ti f9] wd33 rfl (by kernel_rfl) (Nat.le_of_ble_eq_true rfl) (by kernel_rfl))) ?_
        refine XL_cons rfl (X_of_Y1 rfl (Y1_call (s_impl_Form_isReduced hy12) cf_impl_Form_isReduced rfl (by kernel_rfl))) ?_
        refine XL_cons rfl (X_of_Y0 rfl (Y0_not (b := y12) rfl (by kernel_rfl))) ?_
        refine XL_nil ?_
        kernel_rfl
      refine V_cond rfl (fun hc13 => ?_) (fun hc13 => ?_)
      · have h := of_true h hc13
        refine V_skip ?_
        show V _ _ _ _
        refine V_block ?_
        obtain ⟨y14, hy14, h⟩ := of_bind h
        refine V_sreg [false, true, true, true, true, true, false, false, false, false, false, false, false, false, false, false, false, false, false, false] [40, 32, 24, 16, 8] (s1 := ⟨[.bot, .pt 8 0, .pt 16 0, .pt 24 0, .pt 32 0, .pt 40 0, .bot, .bot, .bot, .bot, .bot, .bot, .bot, .bot, .bot, .bot, .bot, .bot, .bot, .bot], [(40, .box [Ti y14.1, Ti y14.2.1, Ti y14.2.2.1, Ti y14.2.2.2]), (32, .box [Ti f3, Ti f4, Ti f5, Ti f6]), (24, .box [Ti 0, Ti 0, Ti 0, Ti 0]), (16, .box [Ti 0, Ti 0, Ti 0]), (8, .box [Ti f7, Ti f8, Ti f9])]⟩) ?_ ?_
        · refine XL_cons rfl (X_of_Y0 rfl (E_loadn (cs := [Ti f7, Ti f8, Ti f9]) [Ti f7, Ti f8, Ti f9] wd33 rfl (by kernel_rfl) (Nat.le_of_ble_eq_true rfl) (by kernel_rfl))) ?_
          refine XL_cons rfl (X_of_Y1 rfl (Y1_call (s_impl_Form_step hy14) cf_impl_Form_step rfl (by kernel_rfl))) ?_
          refine XL_cons rfl (X_of_Y1 rfl (Y1_alloc (z := zv53) rfl zf53 rfl)) ?_
          refine XL_cons rfl (E_store (id := 40) (off := 0) (cs := [Ti 0, Ti 0, Ti 0, Ti 0]) (vc := [Ti y14.1, Ti y14.2.1, Ti y14.2.2.1, Ti y14.2.2.2]) [Ti y14.1, Ti y14.2.1, Ti y14.2.2.1, Ti y14.2.2.2] rfl rfl (by kernel_rfl) (by kernel_rfl) (by kernel_rfl) sz53 (Nat.le_of_ble_eq_true rfl) (by kernel_rfl)) ?_
          refine XL_nil ?_
          kernel_rfl
        obtain ⟨y15, hy15, h⟩ := of_bind h
        refine V_sreg [false, true, true, true, true, true, false, false, false, false, false, false, false, false, false, false, false, false, false, false] [40, 32, 24, 16, 8] (s1 := ⟨[.bot, .pt 8 0, .pt 16 0, .pt 24 0, .pt 32 0, .pt 40 0, .bot, .bot, .bot, .bot, .bot, .bot, .bot, .bot, .bot, .bot, .bot, .bot, .bot, .bot], [(40, .box [Ti y14.1, Ti y14.2.1, Ti y14.2.2.1, Ti y14.2.2.2]), (32, .box [Ti f3, Ti f4, Ti f5, Ti f6]), (24, .box [Ti 0, Ti 0, Ti 0, Ti 0]), (16, .box [Ti 0, Ti 0, Ti 0]), (8, .box [Ti y15.1, Ti y15.2.1, Ti y15.2.2])]⟩) ?_ ?_
        · refine XL_cons rfl (X_of_Y0 rfl (E_loadn (cs := [Ti f7, Ti f8, Ti f9]) [Ti f7, Ti f8, Ti f9] wd33 rfl (by kernel_rfl) (Nat.le_of_ble_eq_true rfl) (by kernel_rfl))) ?_
          refine XL_cons rfl (X_of_Y0 rfl (E_loadn (cs := [Ti y14.1, Ti y14.2.1, Ti y14.2.2.1, Ti y14.2.2.2]) [Ti y14.1, Ti y14.2.1, Ti y14.2.2.1, Ti y14.2.2.2] wd53 rfl (by kernel_rfl) (Nat.le_of_ble_eq_true rfl) (by kernel_rfl))) ?_
          refine XL_cons rfl (X_of_Y1 rfl (Y1_call (s_impl_Form_substitute hy15) cf_impl_Form_substitute rfl (by kernel_rfl))) ?_
          refine XL_cons rfl (E_store (id := 8) (off := 0) (cs := [Ti f7, Ti f8, Ti f9]) (vc := [Ti y15.1, Ti y15.2.1, Ti y15.2.2]) [Ti y15.1, Ti y15.2.1, Ti y15.2.2] rfl rfl (by kernel_rfl) (by kernel_rfl) (by kernel_rfl) sz33 (Nat.le_of_ble_eq_true rfl) (by kernel_rfl)) ?_
          refine XL_nil ?_
          kernel_rfl
        obtain ⟨y16, hy16, h⟩ := of_bind h
        refine V_reg [false, true, true, true, true, false, false, false, false, false, false, false, false, false, false, false, false, false, false, false] [32, 24, 16, 8] (s1 := ⟨[.bot, .pt 8 0, .pt 16 0, .pt 24 0, .pt 32 0, .bot, .bot, .bot, .bot, .bot, .bot, .bot, .bot, .bot, .bot, .bot, .bot, .bot, .bot, .bot], [(32, .box [Ti y16.1, Ti y16.2.1, Ti y16.2.2.1, Ti y16.2.2.2]), (24, .box [Ti 0, Ti 0, Ti 0, Ti 0]), (16, .box [Ti 0, Ti 0, Ti 0]), (8, .box [Ti y15.1, Ti y15.2.1, Ti y15.2.2])]⟩) ?_ ?_
        · refine XL_cons rfl (X_of_Y0 rfl (E_loadn (cs := [Ti f3, Ti f4, Ti f5, Ti f6]) [Ti f3, Ti f4, Ti f5, Ti f6] wd53 rfl (by kernel_rfl) (Nat.le_of_ble_eq_true rfl) (by kernel_rfl))) ?_
          refine XL_cons rfl (X_of_Y0 rfl (E_loadn (cs := [Ti y14.1, Ti y14.2.1, Ti y14.2.2.1, Ti y14.2.2.2]) [Ti y14.1, Ti y14.2.1, Ti y14.2.2.1, Ti y14.2.2.2] wd53 rfl (by kernel_rfl) (Nat.le_of_ble_eq_true rfl) (by kernel_rfl))) ?_
          refine XL_cons rfl (X_of_Y1 rfl (Y1_call (s_impl_Matrix_times hy16) cf_impl_Matrix_times rfl (by kernel_rfl))) ?_
          refine XL_cons rfl (E_store (id := 32) (off := 0) (cs := [Ti f3, Ti f4, Ti f5, Ti f6]) (vc := [Ti y16.1, Ti y16.2.1, Ti y16.2.2.1, Ti y16.2.2.2]) [Ti y16.1, Ti y16.2.1, Ti y16.2.2.1, Ti y16.2.2.2] rfl rfl (by kernel_rfl) (by kernel_rfl) (by kernel_rfl) sz53 (Nat.le_of_ble_eq_true rfl) (by kernel_rfl)) ?_
          refine XL_nil ?_
          kernel_rfl
        exact ⟨n, Nat.lt_succ_self n, _, _, _, _, _, _, _,  by rfl, h⟩
      · have h := of_false h hc13
        refine V_exit ?_
        obtain rfl := some_inj h
        show St.keep _ _ _ = _
        rfl
  show V _ _ _ _
  refine V_sdreg [0, 0, 1, 7] 3 [[.z, .b, .z], [.b, .z, .r 16], [.a, .b, .z]] [false, false, true, true, false, false, false, false, false, false, false, false, false, false, false, false, false, false, false, false] [24, 16] (s1 := ⟨[.bot, .bot, .pt 16 0, .pt 24 0, .bot, .bot, .bot, .bot, .bot, .bot, .bot, .bot, .bot, .bot, .bot, .bot, .bot, .bot, .bot, .bot], [(24, .box [Ti o11.1, Ti o11.2.1, Ti o11.2.2.1, Ti o11.2.2.2.1]), (16, .box [Ti o11.2.2.2.2.1, Ti o11.2.2.2.2.2.1, Ti o11.2.2.2.2.2.2])]⟩) (by kernel_rfl) (by kernel_rfl) ?_ ?_
  · refine DE_0 0 (.ag [Ti o11.2.2.2.2.1, Ti o11.2.2.2.2.2.1, Ti o11.2.2.2.2.2.2]) (by kernel_rfl) rfl rfl rfl (gsat_none rfl) (by kernel_rfl) (E_loadn (cs := [Ti o11.2.2.2.2.1, Ti o11.2.2.2.2.2.1, Ti o11.2.2.2.2.2.2]) [Ti o11.2.2.2.2.1, Ti o11.2.2.2.2.2.1, Ti o11.2.2.2.2.2.2] wd33 rfl (by kernel_rfl) (Nat.le_of_ble_eq_true rfl) (by kernel_rfl)) 18 rfl ?_
    refine DE_0 1 (.ag [Ti o11.1, Ti o11.2.1, Ti o11.2.2.1, Ti o11.2.2.2.1]) (by kernel_rfl) rfl rfl rfl (gsat_none rfl) (by kernel_rfl) (E_loadn (cs := [Ti o11.1, Ti o11.2.1, Ti o11.2.2.1, Ti o11.2.2.2.1]) [Ti o11.1, Ti o11.2.1, Ti o11.2.2.1, Ti o11.2.2.2.1] wd53 rfl (by kernel_rfl) (Nat.le_of_ble_eq_true rfl) (by kernel_rfl)) 19 rfl ?_
    refine DE_2 (off := 0) (cs := [Ti 0, Ti 0, Ti 0]) (vc := [Ti o11.2.2.2.2.1, Ti o11.2.2.2.2.2.1, Ti o11.2.2.2.2.2.2]) 2 16 [Ti o11.2.2.2.2.1, Ti o11.2.2.2.2.2.1, Ti o11.2.2.2.2.2.2] (by kernel_rfl) rfl rfl rfl (gsat_none rfl) rfl rfl (by kernel_rfl) (by kernel_rfl) (by kernel_rfl) sz33 (Nat.le_of_ble_eq_true rfl) (by kernel_rfl) (by kernel_rfl) (by kernel_rfl) (by kernel_rfl) ?_
    refine DL_nil (by kernel_rfl) ?_
    refine XL_cons rfl (E_store (id := 24) (off := 0) (cs := [Ti 0, Ti 0, Ti 0, Ti 0]) (vc := [Ti o11.1, Ti o11.2.1, Ti o11.2.2.1, Ti o11.2.2.2.1]) [Ti o11.1, Ti o11.2.1, Ti o11.2.2.1, Ti o11.2.2.2.1] rfl rfl (by kernel_rfl) (by kernel_rfl) (by kernel_rfl) sz53 (Nat.le_of_ble_eq_true rfl) (by kernel_rfl)) ?_
    refine XL_nil ?_
    kernel_rfl
  refine V_ret ?_
  obtain rfl := some_inj h
  show Post _ _ _ _ _
  exact ⟨.inr rfl, rfl, rfl, rfl⟩
theorem cf_impl_IsMatrix : ∀ args w, (callFunc 88 args).run Tryd.prog w = .ok (.enter 88 args) w := run_callFunc Tryd.func88 (by kernel_rfl) (by kernel_rfl)
set_option maxRecDepth 100000 in
set_option maxHeartbeats 400000 in
theorem s_impl_IsMatrix {vm1 : (Int × Int × Int × Int)} {r : Bool} (h : r_impl_IsMatrix vm1 = some r) : CallS Tryd.prog 88 [.ag [Ti vm1.1, Ti vm1.2.1, Ti vm1.2.2.1, Ti vm1.2.2.2]] (Bo r) [] := by
  refine CallS_of_text (rs := [.t 2]) (vs := [.tmp 2]) Tryd.func88 rfl rfl (.cons rfl FitsL.nil) (by decide) 13 rfl ?_
  unfold r_impl_IsMatrix at h
  show V _ _ ⟨[.ag [Ti vm1.1, Ti vm1.2.1, Ti vm1.2.2.1, Ti vm1.2.2.2], .bot, .bot, .bot, .bot, .bot, .bot, .bot, .bot, .bot, .bot, .bot, .bot], []⟩ _
  refine V_sreg [false, true, false, false, false, false, false, false, false, false, false, false, false] [8] (s1 := ⟨[.bot, .pt 8 0, .bot, .bot, .bot, .bot, .bot, .bot, .bot, .bot, .bot, .bot, .bot], [(8, .box [Ti vm1.1, Ti vm1.2.1, Ti vm1.2.2.1, Ti vm1.2.2.2])]⟩) ?_ ?_
  · refine XL_cons rfl (X_of_Y1 rfl (Y1_box (cs := [Ti vm1.1, Ti vm1.2.1, Ti vm1.2.2.1, Ti vm1.2.2.2]) rfl (by kernel_rfl))) ?_
    refine XL_cons rfl (X_of_Y0 rfl (E_assign (Bo false) rfl (by kernel_rfl))) ?_
    refine XL_nil ?_
    kernel_rfl
  obtain ⟨y2, hy2, h⟩ := of_bind h
  refine V_sreg [false, false, true, false, false, false, false, false, false, false, false, false, false] [] (s1 := ⟨[.bot, .bot, Bo y2, .bot, .bot, .bot, .bot, .bot, .bot, .bot, .bot, .bot, .bot], []⟩) ?_ ?_
  · refine XL_cons rfl (X_of_Y0 rfl (E_field (.pt 8 0) Tryd.underlying53 rfl sz3 rfl (by kernel_rfl) (by intro hh; cases hh))) ?_
    refine XL_cons rfl (X_of_Y0 rfl (Y0_load1 (c := Ti vm1.1) (cs := [Ti vm1.2.1, Ti vm1.2.2.1, Ti vm1.2.2.2]) sc3 rfl (by kernel_rfl))) ?_
    refine XL_cons rfl (X_of_Y0 rfl (E_field (.pt 8 1) Tryd.underlying53 rfl sz3 rfl (by kernel_rfl) (by intro hh; cases hh))) ?_
    refine XL_cons rfl (X_of_Y0 rfl (Y0_load1 (c := Ti vm1.2.1) (cs := [Ti vm1.2.2.1, Ti vm1.2.2.2]) sc3 rfl (by kernel_rfl))) ?_
    refine XL_cons rfl (X_of_Y0 rfl (E_field (.pt 8 2) Tryd.underlying53 rfl sz3 rfl (by kernel_rfl) (by intro hh; cases hh))) ?_
    refine XL_cons rfl (X_of_Y0 rfl (Y0_load1 (c := Ti vm1.2.2.1) (cs := [Ti vm1.2.2.2]) sc3 rfl (by kernel_rfl))) ?_
    refine XL_cons rfl (X_of_Y0 rfl (E_field (.pt 8 3) Tryd.underlying53 rfl sz3 rfl (by kernel_rfl) (by intro hh; cases hh))) ?_
    refine XL_cons rfl (X_of_Y0 rfl (Y0_load1 (c := Ti vm1.2.2.2) (cs := []) sc3 rfl (by kernel_rfl))) ?_
    refine XL_cons rfl (X_of_Y1 rfl (Y1_bslice (z := zv3) (els := [vm1.1, vm1.2.1, vm1.2.2.1, vm1.2.2.2].map c3) Tryd.underlying43 iz3 rfl (by decide) rfl (by kernel_rfl) rfl (by simp [c3]) (by decide) (by decide))) ?_
    refine XL_cons rfl (X_of_Y1 rfl (Y1_callS (s_impl_areNumbers hy2) cf_impl_areNumbers rfl (by kernel_rfl) rfl rfl)) ?_
    refine XL_cons rfl (X_of_Y0 rfl (E_assign (Bo y2) rfl (by kernel_rfl))) ?_
    refine XL_nil ?_
    kernel_rfl
  refine V_ret ?_
  obtain rfl := some_inj h
  show Post _ _ _ _ _
  exact ⟨.inr rfl, rfl, rfl, rfl⟩
end Go.Proofs.YtmpnloechnfkjaaDoor
