/-
  The functions of the program compute what the plain functions say.
  Conditions: none.
-/
import Derived.Test.YtmpnloechnfkjaaDoorShLi
import Derived.Test.YtmpnloechnfkjaaDoorVlRaw
import Derived.Test.YtmpnloechnfkjaaDoorRows
namespace Go.Proofs.YtmpnloechnfkjaaDoor
open Go.RowKit
set_option linter.unusedVariables false
set_option linter.unusedSimpArgs false
def c66 (x : (Int × Int)) : List Tr := [Ti x.1, Ti x.2]
def c3 (x : Int) : List Tr := [Ti x]
def c5 (x : Int) : List Tr := [.v (.int .u8 x)]
def c9 (x : ByteArray) : List Tr := [.v (.string x)]
def zv3 : Value := .int .i64 0
theorem zf3 : (Tryd.prog.info? 3).bind (·.zero) = some zv3 := by kernel_rfl
def zv5 : Value := .int .u8 0
theorem zf5 : (Tryd.prog.info? 5).bind (·.zero) = some zv5 := by kernel_rfl
def zv9 : Value := .string ByteArray.empty
theorem zf9 : (Tryd.prog.info? 9).bind (·.zero) = some zv9 := by kernel_rfl
def zv33 : Value := .agg #[.int .i64 0, .int .i64 0, .int .i64 0]
theorem zf33 : (Tryd.prog.info? 33).bind (·.zero) = some zv33 := by kernel_rfl
def zv66 : Value := .agg #[.int .i64 0, .int .i64 0]
theorem zf66 : (Tryd.prog.info? 66).bind (·.zero) = some zv66 := by kernel_rfl
theorem iz3 : (Tryd.prog.info? 3).map (fun i => (i.zero, i.size)) = some (some zv3, 1) := by kernel_rfl
theorem iz5 : (Tryd.prog.info? 5).map (fun i => (i.zero, i.size)) = some (some zv5, 1) := by kernel_rfl
theorem iz9 : (Tryd.prog.info? 9).map (fun i => (i.zero, i.size)) = some (some zv9, 1) := by kernel_rfl
theorem iz66 : (Tryd.prog.info? 66).map (fun i => (i.zero, i.size)) = some (some zv66, 2) := by kernel_rfl
theorem izb66 : (Tryd.prog.info? 66).map (fun i => (i.zero, i.size, i.bytes)) = some (some zv66, 2, 16) := by kernel_rfl
theorem sc3 : scalar Tryd.prog 3 := ⟨_, Tryd.underlying3, rfl⟩
theorem sc9 : scalar Tryd.prog 9 := ⟨_, Tryd.underlying9, rfl⟩
theorem sz3 : (Tryd.prog.info? 3).map (·.size) = some 1 := by kernel_rfl
theorem sz9 : (Tryd.prog.info? 9).map (·.size) = some 1 := by kernel_rfl
theorem sz33 : (Tryd.prog.info? 33).map (·.size) = some 3 := by kernel_rfl
theorem sz66 : (Tryd.prog.info? 66).map (·.size) = some 2 := by kernel_rfl
theorem wd31 : wide Tryd.prog 31 3 := ⟨⟨_, Tryd.underlying31, rfl⟩, by kernel_rfl⟩
theorem wd33 : wide Tryd.prog 33 3 := ⟨⟨_, Tryd.underlying33, rfl⟩, by kernel_rfl⟩
theorem wd66 : wide Tryd.prog 66 2 := ⟨⟨_, Tryd.underlying66, rfl⟩, by kernel_rfl⟩
def pl66 : Nat → Option (Nat × Nat) := fun i => (#[(0, 1), (1, 1)] : Array (Nat × Nat))[i]?
theorem bt66 : ∀ ps, Tryd.prog.built 66 ps = Instr.fill pl66 #[.int .i64 0, .int .i64 0] ps := fun ps => by kernel_rfl
theorem eqg66 : EqAg2 Tryd.prog .eql 66 := by
  intro a0 a1 b0 b1 x y w
  have hg : (eqGuard .eql 66 x y (.agg #[.int .i64 a0, .int .i64 a1]) (.agg #[.int .i64 b0, .int .i64 b1])).run Tryd.prog w = .ok () w := by simp [eqGuard, (by kernel_rfl : Tryd.prog.eqGuardType Tryd.prog.depth 66 = false)]
  have hf : (Tryd.prog.fieldsOf 66).toList = (match Tryd.prog.underlying 66 with | some (.struct fs) => fs.toList | _ => []) := by kernel_rfl
  refine ⟨hg, ?_⟩
  rw [run_eql_struct, run_equalIn_agg (d := 9999) (ht := by kernel_rfl) (hp := by kernel_rfl), hf, Tryd.underlying66]
  by_cases h0 : a0 = b0 <;> by_cases h1 : a1 = b1 <;> simp [Op.eqFields, part, go_sem, h0, h1]
theorem neg66 : EqAg2 Tryd.prog .neq 66 := by
  intro a0 a1 b0 b1 x y w
  have hg : (eqGuard .neq 66 x y (.agg #[.int .i64 a0, .int .i64 a1]) (.agg #[.int .i64 b0, .int .i64 b1])).run Tryd.prog w = .ok () w := by simp [eqGuard, (by kernel_rfl : Tryd.prog.eqGuardType Tryd.prog.depth 66 = false)]
  have hf : (Tryd.prog.fieldsOf 66).toList = (match Tryd.prog.underlying 66 with | some (.struct fs) => fs.toList | _ => []) := by kernel_rfl
  refine ⟨hg, ?_⟩
  rw [run_neq_struct, run_equalIn_agg (d := 9999) (ht := by kernel_rfl) (hp := by kernel_rfl), hf, Tryd.underlying66]
  by_cases h0 : a0 = b0 <;> by_cases h1 : a1 = b1 <;> simp [Op.eqFields, part, go_sem, h0, h1]
theorem cf_laws_toForm : ∀ args w, (callFunc 20 args).run Tryd.prog w = .ok (.enter 20 args) w := run_callFunc Tryd.func20 (by kernel_rfl) (by kernel_rfl)
set_option maxRecDepth 100000 in
set_option maxHeartbeats 400000 in
theorem s_laws_toForm {a1 : (Int × Int × Int)} {r : (Int × Int × Int)} (h : r_laws_toForm a1 = some r) : CallS Tryd.prog 20 [.ag [Ti a1.1, Ti a1.2.1, Ti a1.2.2]] (.ag [Ti r.1, Ti r.2.1, Ti r.2.2]) [] := by
  refine CallS_of_text (rs := [.w 2 3]) (vs := [.cell 2 33]) Tryd.func20 rfl rfl (.cons ⟨rfl, wd33⟩ FitsL.nil) (by decide) 14 rfl ?_
  unfold r_laws_toForm at h
  show V _ _ ⟨[.ag [Ti a1.1, Ti a1.2.1, Ti a1.2.2], .bot, .bot, .bot, .bot, .bot, .bot, .bot, .bot, .bot, .bot, .bot, .bot, .bot], []⟩ _
  refine V_sreg [false, true, true, false, false, false, false, false, false, false, false, false, false, false] [16, 8] (s1 := ⟨[.bot, .pt 8 0, .pt 16 0, .bot, .bot, .bot, .bot, .bot, .bot, .bot, .bot, .bot, .bot, .bot], [(16, .box [Ti 0, Ti 0, Ti 0]), (8, .box [Ti a1.1, Ti a1.2.1, Ti a1.2.2])]⟩) ?_ ?_
  · refine XL_cons rfl (X_of_Y1 rfl (Y1_box (cs := [Ti a1.1, Ti a1.2.1, Ti a1.2.2]) rfl (by kernel_rfl))) ?_
    refine XL_cons rfl (X_of_Y1 rfl (Y1_alloc (z := zv33) rfl zf33 rfl)) ?_
    refine XL_nil ?_
    kernel_rfl
  refine V_sreg [false, true, true, true, false, false, false, false, false, false, false, false, false, false] [24, 16, 8] (s1 := ⟨[.bot, .pt 8 0, .pt 16 0, .pt 24 0, .bot, .bot, .bot, .bot, .bot, .bot, .bot, .bot, .bot, .bot], [(24, .box [Ti 0, Ti 0, Ti 0]), (16, .box [Ti 0, Ti 0, Ti 0]), (8, .box [Ti a1.1, Ti a1.2.1, Ti a1.2.2])]⟩) ?_ ?_
  · refine XL_cons rfl (X_of_Y1 rfl (Y1_alloc (z := zv33) rfl zf33 rfl)) ?_
    refine XL_nil ?_
    kernel_rfl
  refine V_sreg [false, true, true, true, false, false, false, false, false, false, false, false, false, false] [24, 16, 8] (s1 := ⟨[.bot, .pt 8 0, .pt 16 0, .pt 24 0, .bot, .bot, .bot, .bot, .bot, .bot, .bot, .bot, .bot, .bot], [(24, .box [Ti a1.1, Ti 0, Ti 0]), (16, .box [Ti 0, Ti 0, Ti 0]), (8, .box [Ti a1.1, Ti a1.2.1, Ti a1.2.2])]⟩) ?_ ?_
  · refine XL_cons rfl (X_of_Y0 rfl (E_field (.pt 8 0) Tryd.underlying31 rfl sz3 rfl (by kernel_rfl) (by intro hh; cases hh))) ?_
    refine XL_cons rfl (X_of_Y0 rfl (Y0_load1 (c := Ti a1.1) (cs := [Ti a1.2.1, Ti a1.2.2]) sc3 rfl (by kernel_rfl))) ?_
    refine XL_cons rfl (X_of_Y0 rfl (E_field (.pt 24 0) Tryd.underlying33 rfl sz3 rfl (by kernel_rfl) (by intro hh; cases hh))) ?_
    refine XL_cons rfl (E_store (id := 24) (off := 0) (cs := [Ti 0, Ti 0, Ti 0]) (vc := [Ti a1.1]) [Ti a1.1, Ti 0, Ti 0] rfl rfl (by kernel_rfl) (by kernel_rfl) (by kernel_rfl) sz3 (Nat.le_of_ble_eq_true rfl) (by kernel_rfl)) ?_
    refine XL_nil ?_
    kernel_rfl
  refine V_sreg [false, true, true, true, false, false, false, false, false, false, false, false, false, false] [24, 16, 8] (s1 := ⟨[.bot, .pt 8 0, .pt 16 0, .pt 24 0, .bot, .bot, .bot, .bot, .bot, .bot, .bot, .bot, .bot, .bot], [(24, .box [Ti a1.1, Ti a1.2.1, Ti 0]), (16, .box [Ti 0, Ti 0, Ti 0]), (8, .box [Ti a1.1, Ti a1.2.1, Ti a1.2.2])]⟩) ?_ ?_
  · refine XL_cons rfl (X_of_Y0 rfl (E_field (.pt 8 1) Tryd.underlying31 rfl sz3 rfl (by kernel_rfl) (by intro hh; cases hh))) ?_
    refine XL_cons rfl (X_of_Y0 rfl (Y0_load1 (c := Ti a1.2.1) (cs := [Ti a1.2.2]) sc3 rfl (by kernel_rfl))) ?_
    refine XL_cons rfl (X_of_Y0 rfl (E_field (.pt 24 1) Tryd.underlying33 rfl sz3 rfl (by kernel_rfl) (by intro hh; cases hh))) ?_
    refine XL_cons rfl (E_store (id := 24) (off := 1) (cs := [Ti a1.1, Ti 0, Ti 0]) (vc := [Ti a1.2.1]) [Ti a1.1, Ti a1.2.1, Ti 0] rfl rfl (by kernel_rfl) (by kernel_rfl) (by kernel_rfl) sz3 (Nat.le_of_ble_eq_true rfl) (by kernel_rfl)) ?_
    refine XL_nil ?_
    kernel_rfl
  refine V_sreg [false, false, true, true, false, false, false, false, false, false, false, false, false, false] [24, 16] (s1 := ⟨[.bot, .bot, .pt 16 0, .pt 24 0, .bot, .bot, .bot, .bot, .bot, .bot, .bot, .bot, .bot, .bot], [(24, .box [Ti a1.1, Ti a1.2.1, Ti a1.2.2]), (16, .box [Ti 0, Ti 0, Ti 0])]⟩) ?_ ?_
  · refine XL_cons rfl (X_of_Y0 rfl (E_field (.pt 8 2) Tryd.underlying31 rfl sz3 rfl (by kernel_rfl) (by intro hh; cases hh))) ?_
    refine XL_cons rfl (X_of_Y0 rfl (Y0_load1 (c := Ti a1.2.2) (cs := []) sc3 rfl (by kernel_rfl))) ?_
    refine XL_cons rfl (X_of_Y0 rfl (E_field (.pt 24 2) Tryd.underlying33 rfl sz3 rfl (by kernel_rfl) (by intro hh; cases hh))) ?_
    refine XL_cons rfl (E_store (id := 24) (off := 2) (cs := [Ti a1.1, Ti a1.2.1, Ti 0]) (vc := [Ti a1.2.2]) [Ti a1.1, Ti a1.2.1, Ti a1.2.2] rfl rfl (by kernel_rfl) (by kernel_rfl) (by kernel_rfl) sz3 (Nat.le_of_ble_eq_true rfl) (by kernel_rfl)) ?_
    refine XL_nil ?_
    kernel_rfl
  refine V_sreg [false, false, true, false, false, false, false, false, false, false, false, false, false, false] [16] (s1 := ⟨[.bot, .bot, .pt 16 0, .bot, .bot, .bot, .bot, .bot, .bot, .bot, .bot, .bot, .bot, .bot], [(16, .box [Ti a1.1, Ti a1.2.1, Ti a1.2.2])]⟩) ?_ ?_
  · refine XL_cons rfl (X_of_Y0 rfl (E_loadn (cs := [Ti a1.1, Ti a1.2.1, Ti a1.2.2]) [Ti a1.1, Ti a1.2.1, Ti a1.2.2] wd33 rfl (by kernel_rfl) (Nat.le_of_ble_eq_true rfl) (by kernel_rfl))) ?_
    refine XL_cons rfl (E_store (id := 16) (off := 0) (cs := [Ti 0, Ti 0, Ti 0]) (vc := [Ti a1.1, Ti a1.2.1, Ti a1.2.2]) [Ti a1.1, Ti a1.2.1, Ti a1.2.2] rfl rfl (by kernel_rfl) (by kernel_rfl) (by kernel_rfl) sz33 (Nat.le_of_ble_eq_true rfl) (by kernel_rfl)) ?_
    refine XL_nil ?_
    kernel_rfl
  refine V_ret ?_
  obtain rfl := some_inj h
  show Post _ _ _ _ _
  exact ⟨.inr rfl, rfl, rfl, rfl⟩
theorem cf_spec_l1In : ∀ args w, (callFunc 66 args).run Tryd.prog w = .ok (.enter 66 args) w := run_callFunc Tryd.func66 (by kernel_rfl) (by kernel_rfl)
set_option maxRecDepth 100000 in
set_option maxHeartbeats 400000 in
theorem s_spec_l1In {vn1 : Int} {lo2 : Int} {hi3 : Int} {r : Bool} (h : r_spec_l1In vn1 lo2 hi3 = some r) : CallS Tryd.prog 66 [I vn1, I lo2, I hi3] (Bo r) [] := by
  refine CallS_of_text (rs := [.t 6]) (vs := [.tmp 6]) Tryd.func66 rfl rfl (.cons rfl FitsL.nil) (by decide) 15 rfl ?_
  unfold r_spec_l1In at h
  show V _ _ ⟨[I vn1, I lo2, I hi3, .bot, .bot, .bot, .bot, .bot, .bot, .bot, .bot, .bot, .bot, .bot, .bot], []⟩ _
  refine V_sreg [true, true, true, false, false, false, false, false, false, false, false, false, false, false, false] [] (s1 := ⟨[I vn1, I lo2, I hi3, .bot, .bot, .bot, .bot, .bot, .bot, .bot, .bot, .bot, .bot, .bot, .bot], []⟩) ?_ ?_
  · refine XL_cons rfl (X_of_Y0 rfl (E_assign (Bo false) rfl (by kernel_rfl))) ?_
    refine XL_nil ?_
    kernel_rfl
  refine V_sreg [false, false, false, false, false, false, true, false, false, false, false, false, false, false, false] [] (s1 := ⟨[.bot, .bot, .bot, .bot, .bot, .bot, Bo (bif (leI lo2 vn1) then (leI vn1 hi3) else false), .bot, .bot, .bot, .bot, .bot, .bot, .bot, .bot], []⟩) ?_ ?_
  · refine XL_cons rfl (X_of_Y0 rfl (E_move (I vn1) rfl (by kernel_rfl))) ?_
    refine XL_cons rfl (X_of_Y0 rfl (E_move (I lo2) rfl (by kernel_rfl))) ?_
    refine XL_cons rfl (X_of_Y0 rfl (Y0_gew (k := .i64) (a := vn1) (b := lo2) rfl (by kernel_rfl) (by kernel_rfl))) ?_
    refine XL_cons rfl (X_of_Y0 rfl (E_move (Bo (leI lo2 vn1)) rfl (by kernel_rfl))) ?_
    refine XL_split (leI lo2 vn1) (fun hc4 => ?_) (fun hc4 => ?_)
    · refine XL_takeC (leI lo2 vn1) rfl rfl (by kernel_rfl) hc4 (X_of_Y0 rfl (E_move (I vn1) rfl (by kernel_rfl))) ?_
      refine XL_takeC (leI lo2 vn1) rfl rfl (by kernel_rfl) hc4 (X_of_Y0 rfl (E_move (I hi3) rfl (by kernel_rfl))) ?_
      refine XL_takeC (leI lo2 vn1) rfl rfl (by kernel_rfl) hc4 (X_of_Y0 rfl (Y0_lew (k := .i64) (a := vn1) (b := hi3) rfl (by kernel_rfl) (by kernel_rfl))) ?_
      refine XL_cons rfl (X_of_Y0 rfl (Y0_pick1 (b := leI lo2 vn1) (p := leI vn1 hi3) (q := false) rfl (by kernel_rfl) hc4 (by kernel_rfl))) ?_
      refine XL_cons rfl (X_of_Y0 rfl (E_assign (Bo (bif (leI lo2 vn1) then (leI vn1 hi3) else false)) rfl (by kernel_rfl))) ?_
      refine XL_nil ?_
      kernel_rfl
    · refine XL_skipT (leI lo2 vn1) rfl rfl (by kernel_rfl) hc4 rfl ?_
      refine XL_skipT (leI lo2 vn1) rfl rfl (by kernel_rfl) hc4 rfl ?_
      refine XL_skipT (leI lo2 vn1) rfl rfl (by kernel_rfl) hc4 rfl ?_
      refine XL_cons rfl (X_of_Y0 rfl (Y0_pick0 (b := leI lo2 vn1) (p := leI vn1 hi3) (q := false) rfl (by kernel_rfl) hc4 (by kernel_rfl))) ?_
      refine XL_cons rfl (X_of_Y0 rfl (E_assign (Bo (bif (leI lo2 vn1) then (leI vn1 hi3) else false)) rfl (by kernel_rfl))) ?_
      refine XL_nil ?_
      kernel_rfl
  refine V_ret ?_
  obtain rfl := some_inj h
  show Post _ _ _ _ _
  exact ⟨.inr rfl, rfl, rfl, rfl⟩
theorem cf_spec_nuGood : ∀ args w, (callFunc 57 args).run Tryd.prog w = .ok (.enter 57 args) w := run_callFunc Tryd.func57 (by kernel_rfl) (by kernel_rfl)
set_option maxRecDepth 100000 in
set_option maxHeartbeats 400000 in
theorem s_spec_nuGood {vn1 : Int} {r : Bool} (h : r_spec_nuGood vn1 = some r) : CallS Tryd.prog 57 [I vn1] (Bo r) [] := by
  refine CallS_of_text (rs := [.t 2]) (vs := [.tmp 2]) Tryd.func57 rfl rfl (.cons rfl FitsL.nil) (by decide) 5 rfl ?_
  unfold r_spec_nuGood at h
  show V _ _ ⟨[I vn1, .bot, .bot, .bot, .bot], []⟩ _
  refine V_sreg [true, false, false, false, false] [] (s1 := ⟨[I vn1, .bot, .bot, .bot, .bot], []⟩) ?_ ?_
  · refine XL_cons rfl (X_of_Y0 rfl (E_assign (Bo false) rfl (by kernel_rfl))) ?_
    refine XL_nil ?_
    kernel_rfl
  obtain ⟨y2, hy2, h⟩ := of_bind h
  refine V_sreg [false, false, true, false, false] [] (s1 := ⟨[.bot, .bot, Bo y2, .bot, .bot], []⟩) ?_ ?_
  · refine XL_cons rfl (X_of_Y0 rfl (E_move (I vn1) rfl (by kernel_rfl))) ?_
    refine XL_cons rfl (X_of_Y1 rfl (Y1_call (s_spec_l1In hy2) cf_spec_l1In rfl (by kernel_rfl))) ?_
    refine XL_cons rfl (X_of_Y0 rfl (E_assign (Bo y2) rfl (by kernel_rfl))) ?_
    refine XL_nil ?_
    kernel_rfl
  refine V_ret ?_
  obtain rfl := some_inj h
  show Post _ _ _ _ _
  exact ⟨.inr rfl, rfl, rfl, rfl⟩
theorem cf_spec_foGood : ∀ args w, (callFunc 80 args).run Tryd.prog w = .ok (.enter 80 args) w := run_callFunc Tryd.func80 (by kernel_rfl) (by kernel_rfl)
set_option maxRecDepth 100000 in
set_option maxHeartbeats 400000 in
theorem s_spec_foGood {f1 : (Int × Int × Int)} {r : Bool} (h : r_spec_foGood f1 = some r) : CallS Tryd.prog 80 [.ag [Ti f1.1, Ti f1.2.1, Ti f1.2.2]] (Bo r) [] := by
  refine CallS_of_text (rs := [.t 2]) (vs := [.tmp 2]) Tryd.func80 rfl rfl (.cons rfl FitsL.nil) (by decide) 16 rfl ?_
  unfold r_spec_foGood at h
  show V _ _ ⟨[.ag [Ti f1.1, Ti f1.2.1, Ti f1.2.2], .bot, .bot, .bot, .bot, .bot, .bot, .bot, .bot, .bot, .bot, .bot, .bot, .bot, .bot, .bot], []⟩ _
  refine V_sreg [false, true, false, false, false, false, false, false, false, false, false, false, false, false, false, false] [8] (s1 := ⟨[.bot, .pt 8 0, .bot, .bot, .bot, .bot, .bot, .bot, .bot, .bot, .bot, .bot, .bot, .bot, .bot, .bot], [(8, .box [Ti f1.1, Ti f1.2.1, Ti f1.2.2])]⟩) ?_ ?_
  · refine XL_cons rfl (X_of_Y1 rfl (Y1_box (cs := [Ti f1.1, Ti f1.2.1, Ti f1.2.2]) rfl (by kernel_rfl))) ?_
    refine XL_cons rfl (X_of_Y0 rfl (E_assign (Bo false) rfl (by kernel_rfl))) ?_
    refine XL_nil ?_
    kernel_rfl
  obtain ⟨y2, hy2, h⟩ := of_bind h
  obtain ⟨b5, hb5, h⟩ := of_bind h
  obtain ⟨b8, hb8, h⟩ := of_bind h
  refine V_sreg [false, false, true, false, false, false, false, false, false, false, false, false, false, false, false, false] [] (s1 := ⟨[.bot, .bot, Bo b8, .bot, .bot, .bot, .bot, .bot, .bot, .bot, .bot, .bot, .bot, .bot, .bot, .bot], []⟩) ?_ ?_
  · refine XL_cons rfl (X_of_Y0 rfl (E_field (.pt 8 0) Tryd.underlying33 rfl sz3 rfl (by kernel_rfl) (by intro hh; cases hh))) ?_
    refine XL_cons rfl (X_of_Y0 rfl (Y0_load1 (c := Ti f1.1) (cs := [Ti f1.2.1, Ti f1.2.2]) sc3 rfl (by kernel_rfl))) ?_
    refine XL_cons rfl (X_of_Y1 rfl (Y1_call (s_spec_nuGood hy2) cf_spec_nuGood rfl (by kernel_rfl))) ?_
    refine XL_cons rfl (X_of_Y0 rfl (E_move (Bo y2) rfl (by kernel_rfl))) ?_
    refine XL_split y2 (fun hc3 => ?_) (fun hc3 => ?_)
    · have hb5 := of_true hb5 hc3
      obtain ⟨y4, hy4, hb5⟩ := of_bind hb5
      have hb5 := some_inj hb5
      refine XL_takeC (y2) rfl rfl (by kernel_rfl) hc3 (X_of_Y0 rfl (E_field (.pt 8 1) Tryd.underlying33 rfl sz3 rfl (by kernel_rfl) (by intro hh; cases hh))) ?_
      refine XL_takeC (y2) rfl rfl (by kernel_rfl) hc3 (X_of_Y0 rfl (Y0_load1 (c := Ti f1.2.1) (cs := [Ti f1.2.2]) sc3 rfl (by kernel_rfl))) ?_
      refine XL_takeC (y2) rfl rfl (by kernel_rfl) hc3 (X_of_Y1 rfl (Y1_call (s_spec_nuGood hy4) cf_spec_nuGood rfl (by kernel_rfl))) ?_
      refine XL_cons rfl (X_of_Y0 rfl (Y0_pickTe (b := y2) (p := y4) rfl (by kernel_rfl) hc3 (by kernel_rfl) hb5)) ?_
      refine XL_cons rfl (X_of_Y0 rfl (E_move (Bo b5) rfl (by kernel_rfl))) ?_
      refine XL_split b5 (fun hc6 => ?_) (fun hc6 => ?_)
      · have hb8 := of_true hb8 hc6
        obtain ⟨y7, hy7, hb8⟩ := of_bind hb8
        have hb8 := some_inj hb8
        refine XL_takeC (b5) rfl rfl (by kernel_rfl) hc6 (X_of_Y0 rfl (E_field (.pt 8 2) Tryd.underlying33 rfl sz3 rfl (by kernel_rfl) (by intro hh; cases hh))) ?_
        refine XL_takeC (b5) rfl rfl (by kernel_rfl) hc6 (X_of_Y0 rfl (Y0_load1 (c := Ti f1.2.2) (cs := []) sc3 rfl (by kernel_rfl))) ?_
        refine XL_takeC (b5) rfl rfl (by kernel_rfl) hc6 (X_of_Y1 rfl (Y1_call (s_spec_nuGood hy7) cf_spec_nuGood rfl (by kernel_rfl))) ?_
        refine XL_cons rfl (X_of_Y0 rfl (Y0_pickTe (b := b5) (p := y7) rfl (by kernel_rfl) hc6 (by kernel_rfl) hb8)) ?_
        refine XL_cons rfl (X_of_Y0 rfl (E_assign (Bo b8) rfl (by kernel_rfl))) ?_
        refine XL_nil ?_
        kernel_rfl
      · have hb8 := some_inj (of_false hb8 hc6)
        refine XL_skipT (b5) rfl rfl (by kernel_rfl) hc6 rfl ?_
        refine XL_skipT (b5) rfl rfl (by kernel_rfl) hc6 rfl ?_
        refine XL_skipT (b5) rfl rfl (by kernel_rfl) hc6 rfl ?_
        refine XL_cons rfl (X_of_Y0 rfl (Y0_pickFe (b := b5) (p := false) rfl (by kernel_rfl) hc6 (by kernel_rfl) hb8)) ?_
        refine XL_cons rfl (X_of_Y0 rfl (E_assign (Bo b8) rfl (by kernel_rfl))) ?_
        refine XL_nil ?_
        kernel_rfl
    · have hb5 := some_inj (of_false hb5 hc3)
      refine XL_skipT (y2) rfl rfl (by kernel_rfl) hc3 rfl ?_
      refine XL_skipT (y2) rfl rfl (by kernel_rfl) hc3 rfl ?_
      refine XL_skipT (y2) rfl rfl (by kernel_rfl) hc3 rfl ?_
      refine XL_cons rfl (X_of_Y0 rfl (Y0_pickFe (b := y2) (p := false) rfl (by kernel_rfl) hc3 (by kernel_rfl) hb5)) ?_
      refine XL_cons rfl (X_of_Y0 rfl (E_move (Bo b5) rfl (by kernel_rfl))) ?_
      refine XL_split b5 (fun hc6 => ?_) (fun hc6 => ?_)
      · have hb8 := of_true hb8 hc6
        obtain ⟨y7, hy7, hb8⟩ := of_bind hb8
        have hb8 := some_inj hb8
        refine XL_takeC (b5) rfl rfl (by kernel_rfl) hc6 (X_of_Y0 rfl (E_field (.pt 8 2) Tryd.underlying33 rfl sz3 rfl (by kernel_rfl) (by intro hh; cases hh))) ?_
        refine XL_takeC (b5) rfl rfl (by kernel_rfl) hc6 (X_of_Y0 rfl (Y0_load1 (c := Ti f1.2.2) (cs := []) sc3 rfl (by kernel_rfl))) ?_
        refine XL_takeC (b5) rfl rfl (by kernel_rfl) hc6 (X_of_Y1 rfl (Y1_call (s_spec_nuGood hy7) cf_spec_nuGood rfl (by kernel_rfl))) ?_
        refine XL_cons rfl (X_of_Y0 rfl (Y0_pickTe (b := b5) (p := y7) rfl (by kernel_rfl) hc6 (by kernel_rfl) hb8)) ?_
        refine XL_cons rfl (X_of_Y0 rfl (E_assign (Bo b8) rfl (by kernel_rfl))) ?_
        refine XL_nil ?_
        kernel_rfl
      · have hb8 := some_inj (of_false hb8 hc6)
        refine XL_skipT (b5) rfl rfl (by kernel_rfl) hc6 rfl ?_
        refine XL_skipT (b5) rfl rfl (by kernel_rfl) hc6 rfl ?_
        refine XL_skipT (b5) rfl rfl (by kernel_rfl) hc6 rfl ?_
        refine XL_cons rfl (X_of_Y0 rfl (Y0_pickFe (b := b5) (p := false) rfl (by kernel_rfl) hc6 (by kernel_rfl) hb8)) ?_
        refine XL_cons rfl (X_of_Y0 rfl (E_assign (Bo b8) rfl (by kernel_rfl))) ?_
        refine XL_nil ?_
        kernel_rfl
  refine V_ret ?_
  obtain rfl := some_inj h
  show Post _ _ _ _ _
  exact ⟨.inr rfl, rfl, rfl, rfl⟩
theorem cf_spec_foDisc : ∀ args w, (callFunc 81 args).run Tryd.prog w = .ok (.enter 81 args) w := run_callFunc Tryd.func81 (by kernel_rfl) (by kernel_rfl)
set_option maxRecDepth 100000 in
set_option maxHeartbeats 400000 in
theorem s_spec_foDisc {f1 : (Int × Int × Int)} {r : Int} (h : r_spec_foDisc f1 = some r) : CallS Tryd.prog 81 [.ag [Ti f1.1, Ti f1.2.1, Ti f1.2.2]] (I r) [] := by
  refine CallS_of_text (rs := [.t 2]) (vs := [.tmp 2]) Tryd.func81 rfl rfl (.cons rfl FitsL.nil) (by decide) 15 rfl ?_
  unfold r_spec_foDisc at h
  show V _ _ ⟨[.ag [Ti f1.1, Ti f1.2.1, Ti f1.2.2], .bot, .bot, .bot, .bot, .bot, .bot, .bot, .bot, .bot, .bot, .bot, .bot, .bot, .bot], []⟩ _
  refine V_sreg [false, true, false, false, false, false, false, false, false, false, false, false, false, false, false] [8] (s1 := ⟨[.bot, .pt 8 0, .bot, .bot, .bot, .bot, .bot, .bot, .bot, .bot, .bot, .bot, .bot, .bot, .bot], [(8, .box [Ti f1.1, Ti f1.2.1, Ti f1.2.2])]⟩) ?_ ?_
  · refine XL_cons rfl (X_of_Y1 rfl (Y1_box (cs := [Ti f1.1, Ti f1.2.1, Ti f1.2.2]) rfl (by kernel_rfl))) ?_
    refine XL_cons rfl (X_of_Y0 rfl (E_assign (I 0) rfl (by kernel_rfl))) ?_
    refine XL_nil ?_
    kernel_rfl
  obtain ⟨t2, ht2, h⟩ := of_sI h
  refine V_sreg [false, false, true, false, false, false, false, false, false, false, false, false, false, false, false] [] (s1 := ⟨[.bot, .bot, I t2, .bot, .bot, .bot, .bot, .bot, .bot, .bot, .bot, .bot, .bot, .bot, .bot], []⟩) ?_ ?_
  · refine XL_cons rfl (X_of_Y0 rfl (E_field (.pt 8 1) Tryd.underlying33 rfl sz3 rfl (by kernel_rfl) (by intro hh; cases hh))) ?_
    refine XL_cons rfl (X_of_Y0 rfl (Y0_load1 (c := Ti f1.2.1) (cs := [Ti f1.2.2]) sc3 rfl (by kernel_rfl))) ?_
    refine XL_cons rfl (X_of_Y0 rfl (E_field (.pt 8 1) Tryd.underlying33 rfl sz3 rfl (by kernel_rfl) (by intro hh; cases hh))) ?_
    refine XL_cons rfl (X_of_Y0 rfl (Y0_load1 (c := Ti f1.2.1) (cs := [Ti f1.2.2]) sc3 rfl (by kernel_rfl))) ?_
    refine XL_cons rfl (X_of_Y0 rfl (Y0_mul64 (a := f1.2.1) (b := f1.2.1) rfl (by kernel_rfl) (by kernel_rfl))) ?_
    refine XL_cons rfl (X_of_Y0 rfl (E_field (.pt 8 0) Tryd.underlying33 rfl sz3 rfl (by kernel_rfl) (by intro hh; cases hh))) ?_
    refine XL_cons rfl (X_of_Y0 rfl (Y0_load1 (c := Ti f1.1) (cs := [Ti f1.2.1, Ti f1.2.2]) sc3 rfl (by kernel_rfl))) ?_
    refine XL_cons rfl (X_of_Y0 rfl (Y0_mul64 (a := 4) (b := f1.1) rfl (by kernel_rfl) (by kernel_rfl))) ?_
    refine XL_cons rfl (X_of_Y0 rfl (E_field (.pt 8 2) Tryd.underlying33 rfl sz3 rfl (by kernel_rfl) (by intro hh; cases hh))) ?_
    refine XL_cons rfl (X_of_Y0 rfl (Y0_load1 (c := Ti f1.2.2) (cs := []) sc3 rfl (by kernel_rfl))) ?_
    refine XL_cons rfl (X_of_Y0 rfl (Y0_mul64 (a := w64 (4 * f1.1)) (b := f1.2.2) rfl (by kernel_rfl) (by kernel_rfl))) ?_
    refine XL_cons rfl (X_of_Y0 rfl (Y0_sub64 (a := w64 (f1.2.1 * f1.2.1)) (b := w64 ((w64 (4 * f1.1)) * f1.2.2)) rfl (by kernel_rfl) (by kernel_rfl))) ?_
    refine XL_cons rfl (X_of_Y0 rfl (E_assign (I (w64 ((w64 (f1.2.1 * f1.2.1)) - (w64 ((w64 (4 * f1.1)) * f1.2.2))))) rfl (by kernel_rfl))) ?_
    refine XL_nil ?_
    subst ht2
    kernel_rfl
  refine V_ret ?_
  obtain rfl := some_inj h
  show Post _ _ _ _ _
  exact ⟨.inr rfl, rfl, rfl, rfl⟩
theorem cf_spec_foDefinite : ∀ args w, (callFunc 43 args).run Tryd.prog w = .ok (.enter 43 args) w := run_callFunc Tryd.func43 (by kernel_rfl) (by kernel_rfl)
set_option maxRecDepth 100000 in
set_option maxHeartbeats 400000 in
theorem s_spec_foDefinite {f1 : (Int × Int × Int)} {r : Bool} (h : r_spec_foDefinite f1 = some r) : CallS Tryd.prog 43 [.ag [Ti f1.1, Ti f1.2.1, Ti f1.2.2]] (Bo r) [] := by
  refine CallS_of_text (rs := [.t 2]) (vs := [.tmp 2]) Tryd.func43 rfl rfl (.cons rfl FitsL.nil) (by decide) 15 rfl ?_
  unfold r_spec_foDefinite at h
  show V _ _ ⟨[.ag [Ti f1.1, Ti f1.2.1, Ti f1.2.2], .bot, .bot, .bot, .bot, .bot, .bot, .bot, .bot, .bot, .bot, .bot, .bot, .bot, .bot], []⟩ _
  refine V_sreg [false, true, false, false, false, false, false, false, false, false, false, false, false, false, false] [8] (s1 := ⟨[.bot, .pt 8 0, .bot, .bot, .bot, .bot, .bot, .bot, .bot, .bot, .bot, .bot, .bot, .bot, .bot], [(8, .box [Ti f1.1, Ti f1.2.1, Ti f1.2.2])]⟩) ?_ ?_
  · refine XL_cons rfl (X_of_Y1 rfl (Y1_box (cs := [Ti f1.1, Ti f1.2.1, Ti f1.2.2]) rfl (by kernel_rfl))) ?_
    refine XL_cons rfl (X_of_Y0 rfl (E_assign (Bo false) rfl (by kernel_rfl))) ?_
    refine XL_nil ?_
    kernel_rfl
  obtain ⟨y2, hy2, h⟩ := of_bind h
  obtain ⟨b5, hb5, h⟩ := of_bind h
  refine V_sreg [false, false, true, false, false, false, false, false, false, false, false, false, false, false, false] [] (s1 := ⟨[.bot, .bot, Bo (bif b5 then (ltI 0 f1.1) else false), .bot, .bot, .bot, .bot, .bot, .bot, .bot, .bot, .bot, .bot, .bot, .bot], []⟩) ?_ ?_
  · refine XL_cons rfl (X_of_Y0 rfl (E_loadn (cs := [Ti f1.1, Ti f1.2.1, Ti f1.2.2]) [Ti f1.1, Ti f1.2.1, Ti f1.2.2] wd33 rfl (by kernel_rfl) (Nat.le_of_ble_eq_true rfl) (by kernel_rfl))) ?_
    refine XL_cons rfl (X_of_Y1 rfl (Y1_call (s_spec_foGood hy2) cf_spec_foGood rfl (by kernel_rfl))) ?_
    refine XL_cons rfl (X_of_Y0 rfl (E_move (Bo y2) rfl (by kernel_rfl))) ?_
    refine XL_split y2 (fun hc3 => ?_) (fun hc3 => ?_)
    · have hb5 := of_true hb5 hc3
      obtain ⟨y4, hy4, hb5⟩ := of_bind hb5
      have hb5 := some_inj hb5
      refine XL_takeC (y2) rfl rfl (by kernel_rfl) hc3 (X_of_Y0 rfl (E_loadn (cs := [Ti f1.1, Ti f1.2.1, Ti f1.2.2]) [Ti f1.1, Ti f1.2.1, Ti f1.2.2] wd33 rfl (by kernel_rfl) (Nat.le_of_ble_eq_true rfl) (by kernel_rfl))) ?_
      refine XL_takeC (y2) rfl rfl (by kernel_rfl) hc3 (X_of_Y1 rfl (Y1_call (s_spec_foDisc hy4) cf_spec_foDisc rfl (by kernel_rfl))) ?_
      refine XL_takeC (y2) rfl rfl (by kernel_rfl) hc3 (X_of_Y0 rfl (Y0_ltw (k := .i64) (a := y4) (b := 0) rfl (by kernel_rfl) (by kernel_rfl))) ?_
      refine XL_cons rfl (X_of_Y0 rfl (Y0_pickTe (b := y2) (p := ltI y4 0) rfl (by kernel_rfl) hc3 (by kernel_rfl) hb5)) ?_
      refine XL_cons rfl (X_of_Y0 rfl (E_move (Bo b5) rfl (by kernel_rfl))) ?_
      refine XL_split b5 (fun hc6 => ?_) (fun hc6 => ?_)
      · refine XL_takeC (b5) rfl rfl (by kernel_rfl) hc6 (X_of_Y0 rfl (E_field (.pt 8 0) Tryd.underlying33 rfl sz3 rfl (by kernel_rfl) (by intro hh; cases hh))) ?_
        refine XL_takeC (b5) rfl rfl (by kernel_rfl) hc6 (X_of_Y0 rfl (Y0_load1 (c := Ti f1.1) (cs := [Ti f1.2.1, Ti f1.2.2]) sc3 rfl (by kernel_rfl))) ?_
        refine XL_takeC (b5) rfl rfl (by kernel_rfl) hc6 (X_of_Y0 rfl (Y0_gtw (k := .i64) (a := f1.1) (b := 0) rfl (by kernel_rfl) (by kernel_rfl))) ?_
        refine XL_cons rfl (X_of_Y0 rfl (Y0_pick1 (b := b5) (p := ltI 0 f1.1) (q := false) rfl (by kernel_rfl) hc6 (by kernel_rfl))) ?_
        refine XL_cons rfl (X_of_Y0 rfl (E_assign (Bo (bif b5 then (ltI 0 f1.1) else false)) rfl (by kernel_rfl))) ?_
        refine XL_nil ?_
        kernel_rfl
      · refine XL_skipT (b5) rfl rfl (by kernel_rfl) hc6 rfl ?_
        refine XL_skipT (b5) rfl rfl (by kernel_rfl) hc6 rfl ?_
        refine XL_skipT (b5) rfl rfl (by kernel_rfl) hc6 rfl ?_
        refine XL_cons rfl (X_of_Y0 rfl (Y0_pick0 (b := b5) (p := ltI 0 f1.1) (q := false) rfl (by kernel_rfl) hc6 (by kernel_rfl))) ?_
        refine XL_cons rfl (X_of_Y0 rfl (E_assign (Bo (bif b5 then (ltI 0 f1.1) else false)) rfl (by kernel_rfl))) ?_
        refine XL_nil ?_
        kernel_rfl
    · have hb5 := some_inj (of_false hb5 hc3)
      refine XL_skipT (y2) rfl rfl (by kernel_rfl) hc3 rfl ?_
      refine XL_skipT (y2) rfl rfl (by kernel_rfl) hc3 rfl ?_
      refine XL_skipT (y2) rfl rfl (by kernel_rfl) hc3 rfl ?_
      refine XL_cons rfl (X_of_Y0 rfl (Y0_pickFe (b := y2) (p := false) rfl (by kernel_rfl) hc3 (by kernel_rfl) hb5)) ?_
      refine XL_cons rfl (X_of_Y0 rfl (E_move (Bo b5) rfl (by kernel_rfl))) ?_
      refine XL_split b5 (fun hc6 => ?_) (fun hc6 => ?_)
      · refine XL_takeC (b5) rfl rfl (by kernel_rfl) hc6 (X_of_Y0 rfl (E_field (.pt 8 0) Tryd.underlying33 rfl sz3 rfl (by kernel_rfl) (by intro hh; cases hh))) ?_
        refine XL_takeC (b5) rfl rfl (by kernel_rfl) hc6 (X_of_Y0 rfl (Y0_load1 (c := Ti f1.1) (cs := [Ti f1.2.1, Ti f1.2.2]) sc3 rfl (by kernel_rfl))) ?_
        refine XL_takeC (b5) rfl rfl (by kernel_rfl) hc6 (X_of_Y0 rfl (Y0_gtw (k := .i64) (a := f1.1) (b := 0) rfl (by kernel_rfl) (by kernel_rfl))) ?_
        refine XL_cons rfl (X_of_Y0 rfl (Y0_pick1 (b := b5) (p := ltI 0 f1.1) (q := false) rfl (by kernel_rfl) hc6 (by kernel_rfl))) ?_
        refine XL_cons rfl (X_of_Y0 rfl (E_assign (Bo (bif b5 then (ltI 0 f1.1) else false)) rfl (by kernel_rfl))) ?_
        refine XL_nil ?_
        kernel_rfl
      · refine XL_skipT (b5) rfl rfl (by kernel_rfl) hc6 rfl ?_
        refine XL_skipT (b5) rfl rfl (by kernel_rfl) hc6 rfl ?_
        refine XL_skipT (b5) rfl rfl (by kernel_rfl) hc6 rfl ?_
        refine XL_cons rfl (X_of_Y0 rfl (Y0_pick0 (b := b5) (p := ltI 0 f1.1) (q := false) rfl (by kernel_rfl) hc6 (by kernel_rfl))) ?_
        refine XL_cons rfl (X_of_Y0 rfl (E_assign (Bo (bif b5 then (ltI 0 f1.1) else false)) rfl (by kernel_rfl))) ?_
        refine XL_nil ?_
        kernel_rfl
  refine V_ret ?_
  obtain rfl := some_inj h
  show Post _ _ _ _ _
  exact ⟨.inr rfl, rfl, rfl, rfl⟩
theorem cf_spec_vaForm : ∀ args w, (callFunc 94 args).run Tryd.prog w = .ok (.enter 94 args) w := run_callFunc Tryd.func94 (by kernel_rfl) (by kernel_rfl)
set_option maxRecDepth 100000 in
set_option maxHeartbeats 400000 in
theorem s_spec_vaForm {f1 : (Int × Int × Int)} {r : Bool} (h : r_spec_vaForm f1 = some r) : CallS Tryd.prog 94 [.ag [Ti f1.1, Ti f1.2.1, Ti f1.2.2]] (Bo r) [] := by
  refine CallS_of_text (rs := [.t 2]) (vs := [.tmp 2]) Tryd.func94 rfl rfl (.cons rfl FitsL.nil) (by decide) 10 rfl ?_
  unfold r_spec_vaForm at h
  show V _ _ ⟨[.ag [Ti f1.1, Ti f1.2.1, Ti f1.2.2], .bot, .bot, .bot, .bot, .bot, .bot, .bot, .bot, .bot], []⟩ _
  refine V_sreg [false, true, false, false, false, false, false, false, false, false] [8] (s1 := ⟨[.bot, .pt 8 0, .bot, .bot, .bot, .bot, .bot, .bot, .bot, .bot], [(8, .box [Ti f1.1, Ti f1.2.1, Ti f1.2.2])]⟩) ?_ ?_
  · refine XL_cons rfl (X_of_Y1 rfl (Y1_box (cs := [Ti f1.1, Ti f1.2.1, Ti f1.2.2]) rfl (by kernel_rfl))) ?_
    refine XL_cons rfl (X_of_Y0 rfl (E_assign (Bo false) rfl (by kernel_rfl))) ?_
    refine XL_nil ?_
    kernel_rfl
  obtain ⟨y2, hy2, h⟩ := of_bind h
  obtain ⟨b5, hb5, h⟩ := of_bind h
  refine V_sreg [false, false, true, false, false, false, false, false, false, false] [] (s1 := ⟨[.bot, .bot, Bo b5, .bot, .bot, .bot, .bot, .bot, .bot, .bot], []⟩) ?_ ?_
  · refine XL_cons rfl (X_of_Y0 rfl (E_loadn (cs := [Ti f1.1, Ti f1.2.1, Ti f1.2.2]) [Ti f1.1, Ti f1.2.1, Ti f1.2.2] wd33 rfl (by kernel_rfl) (Nat.le_of_ble_eq_true rfl) (by kernel_rfl))) ?_
    refine XL_cons rfl (X_of_Y1 rfl (Y1_call (s_spec_foDefinite hy2) cf_spec_foDefinite rfl (by kernel_rfl))) ?_
    refine XL_cons rfl (X_of_Y0 rfl (E_move (Bo y2) rfl (by kernel_rfl))) ?_
    refine XL_split y2 (fun hc3 => ?_) (fun hc3 => ?_)
    · have hb5 := of_true hb5 hc3
      obtain ⟨y4, hy4, hb5⟩ := of_bind hb5
      have hb5 := some_inj hb5
      refine XL_takeC (y2) rfl rfl (by kernel_rfl) hc3 (X_of_Y0 rfl (E_loadn (cs := [Ti f1.1, Ti f1.2.1, Ti f1.2.2]) [Ti f1.1, Ti f1.2.1, Ti f1.2.2] wd33 rfl (by kernel_rfl) (Nat.le_of_ble_eq_true rfl) (by kernel_rfl))) ?_
      refine XL_takeC (y2) rfl rfl (by kernel_rfl) hc3 (X_of_Y1 rfl (Y1_call (s_spec_foDisc hy4) cf_spec_foDisc rfl (by kernel_rfl))) ?_
      refine XL_takeC (y2) rfl rfl (by kernel_rfl) hc3 (X_of_Y0 rfl (Y0_gew (k := .i64) (a := y4) (b := -2000) rfl (by kernel_rfl) (by kernel_rfl))) ?_
      refine XL_cons rfl (X_of_Y0 rfl (Y0_pickTe (b := y2) (p := leI (-2000) y4) rfl (by kernel_rfl) hc3 (by kernel_rfl) hb5)) ?_
      refine XL_cons rfl (X_of_Y0 rfl (E_assign (Bo b5) rfl (by kernel_rfl))) ?_
      refine XL_nil ?_
      kernel_rfl
    · have hb5 := some_inj (of_false hb5 hc3)
      refine XL_skipT (y2) rfl rfl (by kernel_rfl) hc3 rfl ?_
      refine XL_skipT (y2) rfl rfl (by kernel_rfl) hc3 rfl ?_
      refine XL_skipT (y2) rfl rfl (by kernel_rfl) hc3 rfl ?_
      refine XL_cons rfl (X_of_Y0 rfl (Y0_pickFe (b := y2) (p := false) rfl (by kernel_rfl) hc3 (by kernel_rfl) hb5)) ?_
      refine XL_cons rfl (X_of_Y0 rfl (E_assign (Bo b5) rfl (by kernel_rfl))) ?_
      refine XL_nil ?_
      kernel_rfl
  refine V_ret ?_
  obtain rfl := some_inj h
  show Post _ _ _ _ _
  exact ⟨.inr rfl, rfl, rfl, rfl⟩
theorem cf_spec_vaShown : ∀ args w, (callFunc 72 args).run Tryd.prog w = .ok (.enter 72 args) w := run_callFunc Tryd.func72 (by kernel_rfl) (by kernel_rfl)
set_option maxRecDepth 100000 in
set_option maxHeartbeats 400000 in
theorem s_spec_vaShown {vn1 : Int} {r : Bool} (h : r_spec_vaShown vn1 = some r) : CallS Tryd.prog 72 [I vn1] (Bo r) [] := by
  refine CallS_of_text (rs := [.t 2]) (vs := [.tmp 2]) Tryd.func72 rfl rfl (.cons rfl FitsL.nil) (by decide) 5 rfl ?_
  unfold r_spec_vaShown at h
  show V _ _ ⟨[I vn1, .bot, .bot, .bot, .bot], []⟩ _
  refine V_sreg [true, false, false, false, false] [] (s1 := ⟨[I vn1, .bot, .bot, .bot, .bot], []⟩) ?_ ?_
  · refine XL_cons rfl (X_of_Y0 rfl (E_assign (Bo false) rfl (by kernel_rfl))) ?_
    refine XL_nil ?_
    kernel_rfl
  obtain ⟨y2, hy2, h⟩ := of_bind h
  refine V_sreg [false, false, true, false, false] [] (s1 := ⟨[.bot, .bot, Bo y2, .bot, .bot], []⟩) ?_ ?_
  · refine XL_cons rfl (X_of_Y0 rfl (E_move (I vn1) rfl (by kernel_rfl))) ?_
    refine XL_cons rfl (X_of_Y1 rfl (Y1_call (s_spec_l1In hy2) cf_spec_l1In rfl (by kernel_rfl))) ?_
    refine XL_cons rfl (X_of_Y0 rfl (E_assign (Bo y2) rfl (by kernel_rfl))) ?_
    refine XL_nil ?_
    kernel_rfl
  refine V_ret ?_
  obtain rfl := some_inj h
  show Post _ _ _ _ _
  exact ⟨.inr rfl, rfl, rfl, rfl⟩
theorem cf_spec_nuRoot : ∀ args w, (callFunc 141 args).run Tryd.prog w = .ok (.enter 141 args) w := run_callFunc Tryd.func141 (by kernel_rfl) (by kernel_rfl)
set_option maxRecDepth 100000 in
set_option maxHeartbeats 400000 in
theorem s_spec_nuRoot {vn1 : Int} {r : Int} (h : r_spec_nuRoot vn1 = some r) : CallS Tryd.prog 141 [I vn1] (I r) [] := by
  refine CallS_of_text (rs := [.t 2]) (vs := [.tmp 2]) Tryd.func141 rfl rfl (.cons rfl FitsL.nil) (by decide) 23 rfl ?_
  unfold r_spec_nuRoot at h
  show V _ _ ⟨[I vn1, .bot, .bot, .bot, .bot, .bot, .bot, .bot, .bot, .bot, .bot, .bot, .bot, .bot, .bot, .bot, .bot, .bot, .bot, .bot, .bot, .bot, .bot], []⟩ _
  refine V_sreg [true, false, false, false, false, false, false, false, false, false, false, false, false, false, false, false, false, false, false, false, false, false, false] [] (s1 := ⟨[I vn1, .bot, .bot, .bot, .bot, .bot, .bot, .bot, .bot, .bot, .bot, .bot, .bot, .bot, .bot, .bot, .bot, .bot, .bot, .bot, .bot, .bot, .bot], []⟩) ?_ ?_
  · refine XL_cons rfl (X_of_Y0 rfl (E_assign (I 0) rfl (by kernel_rfl))) ?_
    refine XL_nil ?_
    kernel_rfl
  refine V_sreg [true, false, false, true, true, false, false, false, false, false, false, false, false, false, false, false, false, false, false, false, false, false, false] [] (s1 := ⟨[I vn1, .bot, .bot, I 0, I 1000000000, .bot, .bot, .bot, .bot, .bot, .bot, .bot, .bot, .bot, .bot, .bot, .bot, .bot, .bot, .bot, .bot, .bot, .bot], []⟩) ?_ ?_
  · refine XL_cons rfl (X_of_Y0 rfl (E_assign (I 0) rfl (by kernel_rfl))) ?_
    refine XL_cons rfl (X_of_Y0 rfl (E_assign (I 1000000000) rfl (by kernel_rfl))) ?_
    refine XL_nil ?_
    kernel_rfl
  refine V_seq ?_
  obtain ⟨o5, hLo5, h⟩ := of_bind h
  refine V_toK [false, false, false, true, false, false, false, false, false, false, false, false, false, false, false, false, false, false, false, false, false, false, false] [] (s1 := ⟨[.bot, .bot, .bot, I o5, .bot, .bot, .bot, .bot, .bot, .bot, .bot, .bot, .bot, .bot, .bot, .bot, .bot, .bot, .bot, .bot, .bot, .bot, .bot], []⟩) ?_ ?_
  · clear h
    refine V_block (V_loop (fun n s => ∃ (lo2 : Int) (hi3 : Int), s.keep [true, false, false, true, true, false, false, false, false, false, false, false, false, false, false, false, false, false, false, false, false, false, false] [] = (⟨[I vn1, .bot, .bot, I lo2, I hi3, .bot, .bot, .bot, .bot, .bot, .bot, .bot, .bot, .bot, .bot, .bot, .bot, .bot, .bot, .bot, .bot, .bot, .bot], []⟩ : St) ∧ r_spec_nuRoot_L4 vn1 n lo2 hi3 = some o5) FU ⟨_, _,  by rfl, hLo5⟩ ?_)
    clear hLo5
    rintro n s ⟨lo2, hi3, hs, h⟩
    refine V_keep _ _ hs ?_
    clear hs
    cases n with
    | zero => cases h
    | succ n =>
      rw [r_spec_nuRoot_L4] at h
      refine V_seq ?_
      refine V_sreg [true, false, false, true, true, false, false, false, true, false, false, false, false, false, false, false, false, false, false, false, false, false, false] [] (s1 := ⟨[I vn1, .bot, .bot, I lo2, I hi3, .bot, .bot, .bot, Bo (ltI lo2 hi3), .bot, .bot, .bot, .bot, .bot, .bot, .bot, .bot, .bot, .bot, .bot, .bot, .bot, .bot], []⟩) ?_ ?_
      · refine XL_cons rfl (X_of_Y0 rfl (E_move (I lo2) rfl (by kernel_rfl))) ?_
        refine XL_cons rfl (X_of_Y0 rfl (E_move (I hi3) rfl (by kernel_rfl))) ?_
        refine XL_cons rfl (X_of_Y0 rfl (Y0_ltw (k := .i64) (a := lo2) (b := hi3) rfl (by kernel_rfl) (by kernel_rfl))) ?_
        refine XL_nil ?_
        kernel_rfl
      refine V_cond rfl (fun hc6 => ?_) (fun hc6 => ?_)
      · have h := of_true h hc6
        refine V_skip ?_
        show V _ _ _ _
        refine V_block ?_
        obtain ⟨mid7, hmid7, h⟩ := of_sI h
        refine V_sreg [true, false, false, true, true, true, false, false, false, false, false, false, false, false, false, false, false, false, false, false, false, false, false] [] (s1 := ⟨[I vn1, .bot, .bot, I lo2, I hi3, I mid7, .bot, .bot, .bot, .bot, .bot, .bot, .bot, .bot, .bot, .bot, .bot, .bot, .bot, .bot, .bot, .bot, .bot], []⟩) ?_ ?_
        · refine XL_cons rfl (X_of_Y0 rfl (E_move (I lo2) rfl (by kernel_rfl))) ?_
          refine XL_cons rfl (X_of_Y0 rfl (E_move (I hi3) rfl (by kernel_rfl))) ?_
          refine XL_cons rfl (X_of_Y0 rfl (Y0_add64 (a := lo2) (b := hi3) rfl (by kernel_rfl) (by kernel_rfl))) ?_
          refine XL_cons rfl (X_of_Y0 rfl (Y0_add64 (a := w64 (lo2 + hi3)) (b := 1) rfl (by kernel_rfl) (by kernel_rfl))) ?_
          refine XL_cons rfl (X_of_Y0 rfl (Y0_quo64 (a := w64 ((w64 (lo2 + hi3)) + 1)) (b := 2) rfl (by kernel_rfl) (by kernel_rfl) (by decide))) ?_
          refine XL_cons rfl (X_of_Y0 rfl (E_assign (I (w64 (Int.tdiv (w64 ((w64 (lo2 + hi3)) + 1)) 2))) rfl (by kernel_rfl))) ?_
          refine XL_nil ?_
          subst hmid7
          kernel_rfl
        refine V_sreg [true, false, false, true, true, true, false, false, false, false, false, false, false, false, false, false, false, false, true, false, false, false, false] [] (s1 := ⟨[I vn1, .bot, .bot, I lo2, I hi3, I mid7, .bot, .bot, .bot, .bot, .bot, .bot, .bot, .bot, .bot, .bot, .bot, .bot, Bo (leI (w64 (mid7 * mid7)) vn1), .bot, .bot, .bot, .bot], []⟩) ?_ ?_
        · refine XL_cons rfl (X_of_Y0 rfl (E_move (I mid7) rfl (by kernel_rfl))) ?_
          refine XL_cons rfl (X_of_Y0 rfl (E_move (I mid7) rfl (by kernel_rfl))) ?_
          refine XL_cons rfl (X_of_Y0 rfl (Y0_mul64 (a := mid7) (b := mid7) rfl (by kernel_rfl) (by kernel_rfl))) ?_
          refine XL_cons rfl (X_of_Y0 rfl (E_move (I vn1) rfl (by kernel_rfl))) ?_
          refine XL_cons rfl (X_of_Y0 rfl (Y0_lew (k := .i64) (a := w64 (mid7 * mid7)) (b := vn1) rfl (by kernel_rfl) (by kernel_rfl))) ?_
          refine XL_nil ?_
          kernel_rfl
        refine V_cond rfl (fun hc8 => ?_) (fun hc8 => ?_)
        · have h := of_true h hc8
          refine V_reg [true, false, false, true, true, false, false, false, false, false, false, false, false, false, false, false, false, false, false, false, false, false, false] [] (s1 := ⟨[I vn1, .bot, .bot, I mid7, I hi3, .bot, .bot, .bot, .bot, .bot, .bot, .bot, .bot, .bot, .bot, .bot, .bot, .bot, .bot, .bot, .bot, .bot, .bot], []⟩) ?_ ?_
          · refine XL_cons rfl (X_of_Y0 rfl (E_move (I mid7) rfl (by kernel_rfl))) ?_
            refine XL_cons rfl (X_of_Y0 rfl (E_assign (I mid7) rfl (by kernel_rfl))) ?_
            refine XL_nil ?_
            kernel_rfl
          exact ⟨n, Nat.lt_succ_self n, _, _,  by rfl, h⟩
        · have h := of_false h hc8
          obtain ⟨hi9, hhi9, h⟩ := of_sI h
          refine V_reg [true, false, false, true, true, false, false, false, false, false, false, false, false, false, false, false, false, false, false, false, false, false, false] [] (s1 := ⟨[I vn1, .bot, .bot, I lo2, I hi9, .bot, .bot, .bot, .bot, .bot, .bot, .bot, .bot, .bot, .bot, .bot, .bot, .bot, .bot, .bot, .bot, .bot, .bot], []⟩) ?_ ?_
          · refine XL_cons rfl (X_of_Y0 rfl (E_move (I mid7) rfl (by kernel_rfl))) ?_
            refine XL_cons rfl (X_of_Y0 rfl (Y0_sub64 (a := mid7) (b := 1) rfl (by kernel_rfl) (by kernel_rfl))) ?_
            refine XL_cons rfl (X_of_Y0 rfl (E_assign (I (w64 (mid7 - 1))) rfl (by kernel_rfl))) ?_
            refine XL_nil ?_
            subst hhi9
            kernel_rfl
          exact ⟨n, Nat.lt_succ_self n, _, _,  by rfl, h⟩
      · have h := of_false h hc6
        refine V_exit ?_
        obtain rfl := some_inj h
        show St.keep _ _ _ = _
        rfl
  show V _ _ _ _
  refine V_sreg [false, false, true, false, false, false, false, false, false, false, false, false, false, false, false, false, false, false, false, false, false, false, false] [] (s1 := ⟨[.bot, .bot, I o5, .bot, .bot, .bot, .bot, .bot, .bot, .bot, .bot, .bot, .bot, .bot, .bot, .bot, .bot, .bot, .bot, .bot, .bot, .bot, .bot], []⟩) ?_ ?_
  · refine XL_cons rfl (X_of_Y0 rfl (E_move (I o5) rfl (by kernel_rfl))) ?_
    refine XL_cons rfl (X_of_Y0 rfl (E_assign (I o5) rfl (by kernel_rfl))) ?_
    refine XL_nil ?_
    kernel_rfl
  refine V_ret ?_
  obtain rfl := some_inj h
  show Post _ _ _ _ _
  exact ⟨.inr rfl, rfl, rfl, rfl⟩
theorem cf_spec_vaHas : ∀ args w, (callFunc 142 args).run Tryd.prog w = .ok (.enter 142 args) w := run_callFunc Tryd.func142 (by kernel_rfl) (by kernel_rfl)
set_option maxRecDepth 100000 in
set_option maxHeartbeats 400000 in
theorem s_spec_vaHas {l1 : List ((Int × Int))} {p2 : (Int × Int)} {r : Bool} (h : r_spec_vaHas l1 p2 = some r) : CallS Tryd.prog 142 [.c (.sl (l1.map c66)), .ag [Ti p2.1, Ti p2.2]] (Bo r) [] := by
  refine CallS_of_text (rs := [.t 4]) (vs := [.tmp 4]) Tryd.func142 rfl rfl (.cons rfl FitsL.nil) (by decide) 17 rfl ?_
  unfold r_spec_vaHas at h
  show V _ _ ⟨[.c (.sl (l1.map c66)), .ag [Ti p2.1, Ti p2.2], .bot, .bot, .bot, .bot, .bot, .bot, .bot, .bot, .bot, .bot, .bot, .bot, .bot, .bot, .bot], []⟩ _
  refine V_sreg [true, false, false, true, false, false, false, false, false, false, false, false, false, false, false, false, false] [24] (s1 := ⟨[.c (.sl (l1.map c66)), .bot, .bot, .pt 24 0, .bot, .bot, .bot, .bot, .bot, .bot, .bot, .bot, .bot, .bot, .bot, .bot, .bot], [(24, .box [Ti p2.1, Ti p2.2])]⟩) ?_ ?_
  · refine XL_cons rfl (X_of_Y1 rfl (Y1_box (cs := [Ti p2.1, Ti p2.2]) rfl (by kernel_rfl))) ?_
    refine XL_cons rfl (X_of_Y0 rfl (E_assign (Bo false) rfl (by kernel_rfl))) ?_
    refine XL_nil ?_
    kernel_rfl
  refine V_seq ?_
  refine V_sreg [false, false, false, true, false, false, false, true, true, true, false, false, false, false, false, false, false] [24] (s1 := ⟨[.bot, .bot, .bot, .pt 24 0, .bot, .bot, .bot, .c (.sl (l1.map c66)), I ((l1.length : Int)), I 0, .bot, .bot, .bot, .bot, .bot, .bot, .bot], [(24, .box [Ti p2.1, Ti p2.2])]⟩) ?_ ?_
  · refine XL_cons rfl (X_of_Y0 rfl (E_move (.c (.sl (l1.map c66))) rfl (by kernel_rfl))) ?_
    refine XL_cons rfl (X_of_Y0 rfl (Y0_lenM (c := c66) (xs := l1) Tryd.underlying62 rfl (by kernel_rfl))) ?_
    refine XL_cons rfl (X_of_Y0 rfl (E_move (I 0) rfl (by kernel_rfl))) ?_
    refine XL_nil ?_
    kernel_rfl
  obtain ⟨qo5, hLo5, hko5⟩ := of_bind h
  refine V_toS (q := qo5) (S := fun o5 => ⟨[.bot, .bot, .bot, .bot, .bot, .bot, .bot, .bot, .bot, .bot, .bot, .bot, .bot, .bot, .bot, .bot, .bot], []⟩) [false, false, false, false, false, false, false, false, false, false, false, false, false, false, false, false, false] [] ?_ ?_
  · refine V_block (V_loop (fun n s => ∃ (t3 : Int), s.keep [false, false, false, true, false, false, false, true, true, true, false, false, false, false, false, false, false] [24] = (⟨[.bot, .bot, .bot, .pt 24 0, .bot, .bot, .bot, .c (.sl (l1.map c66)), I ((l1.length : Int)), I t3, .bot, .bot, .bot, .bot, .bot, .bot, .bot], [(24, .box [Ti p2.1, Ti p2.2])]⟩ : St) ∧ r_spec_vaHas_L4 l1 p2 n t3 = some qo5) FU ⟨_,  by rfl, hLo5⟩ ?_)
    clear hLo5
    rintro n s ⟨t3, hs, h⟩
    refine V_keep _ _ hs ?_
    clear hs
    cases n with
    | zero => cases h
    | succ n =>
      rw [r_spec_vaHas_L4] at h
      refine V_sreg [false, false, false, true, false, false, false, true, true, true, true, false, false, false, false, false, false] [24] (s1 := ⟨[.bot, .bot, .bot, .pt 24 0, .bot, .bot, .bot, .c (.sl (l1.map c66)), I ((l1.length : Int)), I t3, Bo (ltI t3 ((l1.length : Int))), .bot, .bot, .bot, .bot, .bot, .bot], [(24, .box [Ti p2.1, Ti p2.2])]⟩) ?_ ?_
      · refine XL_cons rfl (X_of_Y0 rfl (Y0_ltw (k := .i64) (a := t3) (b := (l1.length : Int)) rfl (by kernel_rfl) (by kernel_rfl))) ?_
        refine XL_nil ?_
        kernel_rfl
      refine V_seq ?_
      refine V_cond rfl (fun hc6 => ?_) (fun hc6 => ?_)
      · have h := of_true h hc6
        refine V_skip ?_
        show V _ _ _ _
        refine V_seq ?_
        refine V_block ?_
        obtain ⟨e7, he7, h⟩ := of_bind h
        refine V_sreg [false, false, false, true, false, false, true, true, true, true, false, false, false, false, false, false, false] [48, 24] (s1 := ⟨[.bot, .bot, .bot, .pt 24 0, .bot, .bot, .pt 48 0, .c (.sl (l1.map c66)), I ((l1.length : Int)), I t3, .bot, .bot, .bot, .bot, .bot, .bot, .bot], [(48, .box [Ti e7.1, Ti e7.2]), (24, .box [Ti p2.1, Ti p2.2])]⟩) ?_ ?_
        · refine XL_cons rfl (X_of_Y0 rfl (Y0_idxM (c := c66) (xs := l1) (v := e7) (n := t3) Tryd.underlying62 sz66 rfl (by kernel_rfl) (by kernel_rfl) he7)) ?_
          refine XL_cons rfl (X_of_Y0 rfl (E_loadn (cs := [Ti e7.1, Ti e7.2]) [Ti e7.1, Ti e7.2] wd66 rfl (by kernel_rfl) (Nat.le_of_ble_eq_true rfl) (by kernel_rfl))) ?_
          refine XL_cons rfl (X_of_Y1 rfl (Y1_alloc (z := zv66) rfl zf66 rfl)) ?_
          refine XL_cons rfl (E_store (id := 48) (off := 0) (cs := [Ti 0, Ti 0]) (vc := [Ti e7.1, Ti e7.2]) [Ti e7.1, Ti e7.2] rfl rfl (by kernel_rfl) (by kernel_rfl) (by kernel_rfl) sz66 (Nat.le_of_ble_eq_true rfl) (by kernel_rfl)) ?_
          refine XL_nil ?_
          kernel_rfl
        refine V_sreg [false, false, false, true, false, false, false, true, true, true, false, false, false, false, false, true, false] [24] (s1 := ⟨[.bot, .bot, .bot, .pt 24 0, .bot, .bot, .bot, .c (.sl (l1.map c66)), I ((l1.length : Int)), I t3, .bot, .bot, .bot, .bot, .bot, Bo (((e7.1 == p2.1) && (e7.2 == p2.2))), .bot], [(24, .box [Ti p2.1, Ti p2.2])]⟩) ?_ ?_
        · refine XL_cons rfl (X_of_Y0 rfl (E_loadn (cs := [Ti e7.1, Ti e7.2]) [Ti e7.1, Ti e7.2] wd66 rfl (by kernel_rfl) (Nat.le_of_ble_eq_true rfl) (by kernel_rfl))) ?_
          refine XL_cons rfl (X_of_Y0 rfl (E_loadn (cs := [Ti p2.1, Ti p2.2]) [Ti p2.1, Ti p2.2] wd66 rfl (by kernel_rfl) (Nat.le_of_ble_eq_true rfl) (by kernel_rfl))) ?_
          refine XL_cons rfl (X_of_Y0 rfl (Y0_eqg2 (a0 := e7.1) (b0 := p2.1) (a1 := e7.2) (b1 := p2.2) eqg66 rfl (by kernel_rfl) (by kernel_rfl))) ?_
          refine XL_nil ?_
          kernel_rfl
        refine V_cond rfl (fun hc8 => ?_) (fun hc8 => ?_)
        · have h := of_true h hc8
          refine V_sreg [false, false, false, false, true, false, false, false, false, false, false, false, false, false, false, false, false] [] (s1 := ⟨[.bot, .bot, .bot, .bot, Bo true, .bot, .bot, .bot, .bot, .bot, .bot, .bot, .bot, .bot, .bot, .bot, .bot], []⟩) ?_ ?_
          · refine XL_cons rfl (X_of_Y0 rfl (E_assign (Bo true) rfl (by kernel_rfl))) ?_
            refine XL_nil ?_
            kernel_rfl
          refine V_ret ?_
          obtain rfl := some_inj h
          have h := hko5
          obtain rfl := some_inj h
          show Post _ _ _ _ _
          exact ⟨.inr rfl, rfl, rfl, rfl⟩
        · have h := of_false h hc8
          refine V_skip ?_
          show V _ _ _ _
          obtain ⟨t9, ht9, h⟩ := of_sI h
          refine V_reg [false, false, false, true, false, false, false, true, true, true, false, false, false, false, false, false, false] [24] (s1 := ⟨[.bot, .bot, .bot, .pt 24 0, .bot, .bot, .bot, .c (.sl (l1.map c66)), I ((l1.length : Int)), I t9, .bot, .bot, .bot, .bot, .bot, .bot, .bot], [(24, .box [Ti p2.1, Ti p2.2])]⟩) ?_ ?_
          · refine XL_cons rfl (X_of_Y0 rfl (Y0_add64 (a := t3) (b := 1) rfl (by kernel_rfl) (by kernel_rfl))) ?_
            refine XL_cons rfl (X_of_Y0 rfl (E_move (I (w64 (t3 + 1))) rfl (by kernel_rfl))) ?_
            refine XL_nil ?_
            subst ht9
            kernel_rfl
          exact ⟨n, Nat.lt_succ_self n, _,  by rfl, h⟩
      · have h := of_false h hc6
        refine V_exit ?_
        obtain rfl := some_inj h
        exact ⟨_, rfl, by rfl⟩
  rintro o5 rfl
  have h := hko5
  clear hko5
  show V _ _ _ _
  refine V_sreg [false, false, false, false, true, false, false, false, false, false, false, false, false, false, false, false, false] [] (s1 := ⟨[.bot, .bot, .bot, .bot, Bo false, .bot, .bot, .bot, .bot, .bot, .bot, .bot, .bot, .bot, .bot, .bot, .bot], []⟩) ?_ ?_
  · refine XL_cons rfl (X_of_Y0 rfl (E_assign (Bo false) rfl (by kernel_rfl))) ?_
    refine XL_nil ?_
    kernel_rfl
  refine V_ret ?_
  obtain rfl := some_inj h
  show Post _ _ _ _ _
  exact ⟨.inr rfl, rfl, rfl, rfl⟩
theorem cf_spec_vaPut : ∀ args w, (callFunc 143 args).run Tryd.prog w = .ok (.enter 143 args) w := run_callFunc Tryd.func143 (by kernel_rfl) (by kernel_rfl)
set_option maxRecDepth 100000 in
set_option maxHeartbeats 400000 in
theorem s_spec_vaPut {l1 : List ((Int × Int))} {p2 : (Int × Int)} {r : List ((Int × Int))} (h : r_spec_vaPut l1 p2 = some r) : CallS Tryd.prog 143 [.c (.sl (l1.map c66)), .ag [Ti p2.1, Ti p2.2]] (.ow 0) [(0, .arr 66 2 (r.map c66))] := by
  refine CallS_of_text (rs := [.t 4]) (vs := [.tmp 4]) Tryd.func143 rfl rfl (.cons rfl FitsL.nil) (by decide) 57 rfl ?_
  unfold r_spec_vaPut at h
  show V _ _ ⟨[.c (.sl (l1.map c66)), .ag [Ti p2.1, Ti p2.2], .bot, .bot, .bot, .bot, .bot, .bot, .bot, .bot, .bot, .bot, .bot, .bot, .bot, .bot, .bot, .bot, .bot, .bot, .bot, .bot, .bot, .bot, .bot, .bot, .bot, .bot, .bot, .bot, .bot, .bot, .bot, .bot, .bot, .bot, .bot, .bot, .bot, .bot, .bot, .bot, .bot, .bot, .bot, .bot, .bot, .bot, .bot, .bot, .bot, .bot, .bot, .bot, .bot, .bot, .bot], []⟩ _
  refine V_sreg [true, false, false, true, false, false, false, false, false, false, false, false, false, false, false, false, false, false, false, false, false, false, false, false, false, false, false, false, false, false, false, false, false, false, false, false, false, false, false, false, false, false, false, false, false, false, false, false, false, false, false, false, false, false, false, false, false] [24] (s1 := ⟨[.c (.sl (l1.map c66)), .bot, .bot, .pt 24 0, .bot, .bot, .bot, .bot, .bot, .bot, .bot, .bot, .bot, .bot, .bot, .bot, .bot, .bot, .bot, .bot, .bot, .bot, .bot, .bot, .bot, .bot, .bot, .bot, .bot, .bot, .bot, .bot, .bot, .bot, .bot, .bot, .bot, .bot, .bot, .bot, .bot, .bot, .bot, .bot, .bot, .bot, .bot, .bot, .bot, .bot, .bot, .bot, .bot, .bot, .bot, .bot, .bot], [(24, .box [Ti p2.1, Ti p2.2])]⟩) ?_ ?_
  · refine XL_cons rfl (X_of_Y1 rfl (Y1_box (cs := [Ti p2.1, Ti p2.2]) rfl (by kernel_rfl))) ?_
    refine XL_cons rfl (X_of_Y1 rfl (Y1_nil (e := 66) 2 (by decide) (.inl rfl))) ?_
    refine XL_nil ?_
    kernel_rfl
  refine V_sreg [true, false, false, true, false, true, false, false, false, false, false, false, false, false, false, false, false, false, false, false, false, false, false, false, false, false, false, false, false, false, false, false, false, false, false, false, false, false, false, false, false, false, false, false, false, false, false, false, false, false, false, false, false, false, false, false, false] [24] (s1 := ⟨[.c (.sl (l1.map c66)), .bot, .bot, .pt 24 0, .bot, I 0, .bot, .bot, .bot, .bot, .bot, .bot, .bot, .bot, .bot, .bot, .bot, .bot, .bot, .bot, .bot, .bot, .bot, .bot, .bot, .bot, .bot, .bot, .bot, .bot, .bot, .bot, .bot, .bot, .bot, .bot, .bot, .bot, .bot, .bot, .bot, .bot, .bot, .bot, .bot, .bot, .bot, .bot, .bot, .bot, .bot, .bot, .bot, .bot, .bot, .bot, .bot], [(24, .box [Ti p2.1, Ti p2.2])]⟩) ?_ ?_
  · refine XL_cons rfl (X_of_Y0 rfl (E_assign (I 0) rfl (by kernel_rfl))) ?_
    refine XL_nil ?_
    kernel_rfl
  refine V_seq ?_
  obtain ⟨o5, hLo5, h⟩ := of_bind h
  refine V_toK [true, false, false, true, false, true, false, false, false, false, false, false, false, false, false, false, false, false, false, false, false, false, false, false, false, false, false, false, false, false, false, false, false, false, false, false, false, false, false, false, false, false, false, false, false, false, false, false, false, false, false, false, false, false, false, false, false] [24] (s1 := ⟨[.c (.sl (l1.map c66)), .bot, .bot, .pt 24 0, .bot, I o5, .bot, .bot, .bot, .bot, .bot, .bot, .bot, .bot, .bot, .bot, .bot, .bot, .bot, .bot, .bot, .bot, .bot, .bot, .bot, .bot, .bot, .bot, .bot, .bot, .bot, .bot, .bot, .bot, .bot, .bot, .bot, .bot, .bot, .bot, .bot, .bot, .bot, .bot, .bot, .bot, .bot, .bot, .bot, .bot, .bot, .bot, .bot, .bot, .bot, .bot, .bot], [(24, .box [Ti p2.1, Ti p2.2])]⟩) ?_ ?_
  · clear h
    refine V_block (V_loop (fun n s => ∃ (k3 : Int), s.keep [true, false, false, true, false, true, false, false, false, false, false, false, false, false, false, false, false, false, false, false, false, false, false, false, false, false, false, false, false, false, false, false, false, false, false, false, false, false, false, false, false, false, false, false, false, false, false, false, false, false, false, false, false, false, false, false, false] [24] = (⟨[.c (.sl (l1.map c66)), .bot, .bot, .pt 24 0, .bot, I k3, .bot, .bot, .bot, .bot, .bot, .bot, .bot, .bot, .bot, .bot, .bot, .bot, .bot, .bot, .bot, .bot, .bot, .bot, .bot, .bot, .bot, .bot, .bot, .bot, .bot, .bot, .bot, .bot, .bot, .bot, .bot, .bot, .bot, .bot, .bot, .bot, .bot, .bot, .bot, .bot, .bot, .bot, .bot, .bot, .bot, .bot, .bot, .bot, .bot, .bot, .bot], [(24, .box [Ti p2.1, Ti p2.2])]⟩ : St) ∧ r_spec_vaPut_L4 l1 p2 n k3 = some o5) FU ⟨_,  by rfl, hLo5⟩ ?_)
    clear hLo5
    rintro n s ⟨k3, hs, h⟩
    refine V_keep _ _ hs ?_
    clear hs
    cases n with
    | zero => cases h
    | succ n =>
      rw [r_spec_vaPut_L4] at h
      refine V_seq ?_
      obtain ⟨b14, hb14, h⟩ := of_bind h
      refine V_sdreg [0, 0, 2, 7, 15, 31, 31, 127, 255, 511, 31, 1055, 4095, 8191, 16383, 16383, 65535, 131071, 262143, 16383, 540671, 2097151, 4194303, 8388607, 8388607, 33554431, 67108863, 134217727, 8388607, 276824063, 1073741823, 2147483647, 4294967295, 8589934591] 34 [[.z, .b, .b, .z, .z, .z, .z, .z, .z, .z, .z, .z, .z, .z, .z, .z, .z, .z, .z, .z, .z, .z, .z, .z, .z, .z, .z, .z, .z, .z, .z, .z, .z, .z], [.b, .z, .z, .z, .z, .z, .z, .z, .z, .z, .z, .z, .z, .z, .z, .z, .z, .z, .z, .z, .z, .z, .z, .z, .z, .z, .z, .z, .z, .z, .z, .z, .z, .z], [.b, .a, .z, .z, .z, .z, .z, .z, .z, .z, .z, .z, .z, .z, .z, .z, .z, .z, .z, .z, .z, .z, .z, .z, .z, .z, .z, .z, .z, .z, .z, .z, .z, .z], [.a, .a, .a, .z, .z, .z, .z, .z, .z, .z, .z, .z, .z, .z, .z, .z, .z, .z, .z, .z, .z, .z, .z, .z, .z, .z, .z, .z, .z, .z, .z, .z, .z, .z], [.a, .a, .a, .a, .z, .z, .z, .z, .z, .z, .z, .z, .z, .z, .z, .z, .z, .z, .z, .z, .z, .z, .z, .z, .z, .z, .z, .z, .z, .z, .z, .z, .z, .z], [.a, .a, .a, .a, .a, .z, .b, .z, .z, .z, .b, .b, .z, .z, .z, .z, .z, .z, .z, .z, .z, .z, .z, .z, .z, .z, .z, .z, .z, .z, .z, .z, .z, .z], [.a, .a, .a, .a, .a, .b, .z, .z, .z, .z, .b, .b, .z, .z, .z, .z, .z, .z, .z, .z, .z, .z, .z, .z, .z, .z, .z, .z, .z, .z, .z, .z, .z, .z], [.a, .a, .a, .a, .a, .a, .a, .z, .z, .z, .b, .b, .z, .z, .z, .z, .z, .z, .z, .z, .z, .z, .z, .z, .z, .z, .z, .z, .z, .z, .z, .z, .z, .z], [.a, .a, .a, .a, .a, .a, .a, .a, .z, .z, .b, .b, .z, .z, .z, .z, .z, .z, .z, .z, .z, .z, .z, .z, .z, .z, .z, .z, .z, .z, .z, .z, .z, .z], [.a, .a, .a, .a, .a, .a, .a, .a, .a, .z, .b, .b, .z, .z, .z, .z, .z, .z, .z, .z, .z, .z, .z, .z, .z, .z, .z, .z, .z, .z, .z, .z, .z, .z], [.a, .a, .a, .a, .a, .b, .b, .b, .b, .b, .z, .z, .z, .z, .z, .z, .z, .z, .z, .z, .z, .z, .z, .z, .z, .z, .z, .z, .z, .z, .z, .z, .z, .z], [.a, .a, .a, .a, .a, .b, .b, .b, .b, .b, .a, .z, .z, .z, .z, .z, .z, .z, .z, .z, .z, .z, .z, .z, .z, .z, .z, .z, .z, .z, .z, .z, .z, .z], [.a, .a, .a, .a, .a, .a, .a, .a, .a, .a, .a, .a, .z, .z, .z, .z, .z, .z, .z, .z, .z, .z, .z, .z, .z, .z, .z, .z, .z, .z, .z, .z, .z, .z], [.a, .a, .a, .a, .a, .a, .a, .a, .a, .a, .a, .a, .a, .z, .z, .z, .z, .z, .z, .z, .z, .z, .z, .z, .z, .z, .z, .z, .z, .z, .z, .z, .z, .z], [.a, .a, .a, .a, .a, .a, .a, .a, .a, .a, .a, .a, .a, .a, .z, .b, .z, .z, .z, .b, .b, .z, .z, .z, .z, .z, .z, .z, .z, .z, .z, .z, .z, .z], [.a, .a, .a, .a, .a, .a, .a, .a, .a, .a, .a, .a, .a, .a, .b, .z, .z, .z, .z, .b, .b, .z, .z, .z, .z, .z, .z, .z, .z, .z, .z, .z, .z, .z], [.a, .a, .a, .a, .a, .a, .a, .a, .a, .a, .a, .a, .a, .a, .a, .a, .z, .z, .z, .b, .b, .z, .z, .z, .z, .z, .z, .z, .z, .z, .z, .z, .z, .z], [.a, .a, .a, .a, .a, .a, .a, .a, .a, .a, .a, .a, .a, .a, .a, .a, .a, .z, .z, .b, .b, .z, .z, .z, .z, .z, .z, .z, .z, .z, .z, .z, .z, .z], [.a, .a, .a, .a, .a, .a, .a, .a, .a, .a, .a, .a, .a, .a, .a, .a, .a, .a, .z, .b, .b, .z, .z, .z, .z, .z, .z, .z, .z, .z, .z, .z, .z, .z], [.a, .a, .a, .a, .a, .a, .a, .a, .a, .a, .a, .a, .a, .a, .b, .b, .b, .b, .b, .z, .z, .z, .z, .z, .z, .z, .z, .z, .z, .z, .z, .z, .z, .z], [.a, .a, .a, .a, .a, .a, .a, .a, .a, .a, .a, .a, .a, .a, .b, .b, .b, .b, .b, .a, .z, .z, .z, .z, .z, .z, .z, .z, .z, .z, .z, .z, .z, .z], [.a, .a, .a, .a, .a, .a, .a, .a, .a, .a, .a, .a, .a, .a, .a, .a, .a, .a, .a, .a, .a, .z, .z, .z, .z, .z, .z, .z, .z, .z, .z, .z, .z, .z], [.a, .a, .a, .a, .a, .a, .a, .a, .a, .a, .a, .a, .a, .a, .a, .a, .a, .a, .a, .a, .a, .a, .z, .z, .z, .z, .z, .z, .z, .z, .z, .z, .z, .z], [.a, .a, .a, .a, .a, .a, .a, .a, .a, .a, .a, .a, .a, .a, .a, .a, .a, .a, .a, .a, .a, .a, .a, .z, .b, .z, .z, .z, .b, .b, .z, .z, .z, .z], [.a, .a, .a, .a, .a, .a, .a, .a, .a, .a, .a, .a, .a, .a, .a, .a, .a, .a, .a, .a, .a, .a, .a, .b, .z, .z, .z, .z, .b, .b, .z, .z, .z, .z], [.a, .a, .a, .a, .a, .a, .a, .a, .a, .a, .a, .a, .a, .a, .a, .a, .a, .a, .a, .a, .a, .a, .a, .a, .a, .z, .z, .z, .b, .b, .z, .z, .z, .z], [.a, .a, .a, .a, .a, .a, .a, .a, .a, .a, .a, .a, .a, .a, .a, .a, .a, .a, .a, .a, .a, .a, .a, .a, .a, .a, .z, .z, .b, .b, .z, .z, .z, .z], [.a, .a, .a, .a, .a, .a, .a, .a, .a, .a, .a, .a, .a, .a, .a, .a, .a, .a, .a, .a, .a, .a, .a, .a, .a, .a, .a, .z, .b, .b, .z, .z, .z, .z], [.a, .a, .a, .a, .a, .a, .a, .a, .a, .a, .a, .a, .a, .a, .a, .a, .a, .a, .a, .a, .a, .a, .a, .b, .b, .b, .b, .b, .z, .z, .z, .z, .z, .z], [.a, .a, .a, .a, .a, .a, .a, .a, .a, .a, .a, .a, .a, .a, .a, .a, .a, .a, .a, .a, .a, .a, .a, .b, .b, .b, .b, .b, .a, .z, .z, .z, .z, .z], [.a, .a, .a, .a, .a, .a, .a, .a, .a, .a, .a, .a, .a, .a, .a, .a, .a, .a, .a, .a, .a, .a, .a, .a, .a, .a, .a, .a, .a, .a, .z, .z, .z, .z], [.a, .a, .a, .a, .a, .a, .a, .a, .a, .a, .a, .a, .a, .a, .a, .a, .a, .a, .a, .a, .a, .a, .a, .a, .a, .a, .a, .a, .a, .a, .a, .z, .z, .z], [.a, .a, .a, .a, .a, .a, .a, .a, .a, .a, .a, .a, .a, .a, .a, .a, .a, .a, .a, .a, .a, .a, .a, .a, .a, .a, .a, .a, .a, .a, .a, .a, .z, .z], [.a, .a, .a, .a, .a, .a, .a, .a, .a, .a, .a, .a, .a, .a, .a, .a, .a, .a, .a, .a, .a, .a, .a, .a, .a, .a, .a, .a, .a, .a, .a, .a, .a, .z]] [true, false, false, true, false, true, false, false, false, false, false, false, false, false, false, false, false, false, false, false, false, false, false, false, false, false, false, false, false, false, false, false, false, false, false, false, false, false, false, false, true, false, false, false, false, false, false, false, false, false, false, false, false, false, false, false, false] [24] (s1 := ⟨[.c (.sl (l1.map c66)), .bot, .bot, .pt 24 0, .bot, I k3, .bot, .bot, .bot, .bot, .bot, .bot, .bot, .bot, .bot, .bot, .bot, .bot, .bot, .bot, .bot, .bot, .bot, .bot, .bot, .bot, .bot, .bot, .bot, .bot, .bot, .bot, .bot, .bot, .bot, .bot, .bot, .bot, .bot, .bot, Bo b14, .bot, .bot, .bot, .bot, .bot, .bot, .bot, .bot, .bot, .bot, .bot, .bot, .bot, .bot, .bot, .bot], [(24, .box [Ti p2.1, Ti p2.2])]⟩) (by kernel_rfl) (by kernel_rfl) ?_ ?_
      · refine DE_0 0 (I k3) (by kernel_rfl) rfl rfl rfl (gsat_none rfl) (by kernel_rfl) (E_move (I k3) rfl (by kernel_rfl)) 7 rfl ?_
        refine DE_0 1 (.c (.sl (l1.map c66))) (by kernel_rfl) rfl rfl rfl (gsat_none rfl) (by kernel_rfl) (E_move (.c (.sl (l1.map c66))) rfl (by kernel_rfl)) 8 rfl ?_
        refine DE_0 2 (I ((l1.length : Int))) (by kernel_rfl) rfl rfl rfl (gsat_none rfl) (by kernel_rfl) (Y0_lenM (c := c66) (xs := l1) Tryd.underlying62 rfl (by kernel_rfl)) 9 rfl ?_
        refine DE_0 3 (Bo (ltI k3 ((l1.length : Int)))) (by kernel_rfl) rfl rfl rfl (gsat_none rfl) (by kernel_rfl) (Y0_ltw (k := .i64) (a := k3) (b := (l1.length : Int)) rfl (by kernel_rfl) (by kernel_rfl)) 10 rfl ?_
        refine DE_0 4 (Bo (ltI k3 ((l1.length : Int)))) (by kernel_rfl) rfl rfl rfl (gsat_none rfl) (by kernel_rfl) (E_move (Bo (ltI k3 ((l1.length : Int)))) rfl (by kernel_rfl)) 11 rfl ?_
        refine DL_split (ltI k3 ((l1.length : Int))) (fun hc6 => ?_) (fun hc6 => ?_)
        · have hb14 := of_true hb14 hc6
          obtain ⟨e7, he7, hb14⟩ := of_bind hb14
          obtain ⟨b13, hb13, hb14⟩ := of_bind hb14
          have hb14 := some_inj hb14
          refine DE_0 5 (.c (.sl (l1.map c66))) (by kernel_rfl) rfl rfl rfl (gsat_C (ltI k3 ((l1.length : Int))) rfl rfl (by kernel_rfl) hc6) (by kernel_rfl) (E_move (.c (.sl (l1.map c66))) rfl (by kernel_rfl)) 12 rfl ?_
          refine DE_0 6 (I k3) (by kernel_rfl) rfl rfl rfl (gsat_C (ltI k3 ((l1.length : Int))) rfl rfl (by kernel_rfl) hc6) (by kernel_rfl) (E_move (I k3) rfl (by kernel_rfl)) 13 rfl ?_
          refine DE_0 7 (.pe [Ti e7.1, Ti e7.2]) (by kernel_rfl) rfl rfl rfl (gsat_C (ltI k3 ((l1.length : Int))) rfl rfl (by kernel_rfl) hc6) (by kernel_rfl) (Y0_idxM (c := c66) (xs := l1) (v := e7) (n := k3) Tryd.underlying62 sz66 rfl (by kernel_rfl) (by kernel_rfl) he7) 14 rfl ?_
          refine DE_0 8 (.pe [Ti e7.1, Ti e7.2]) (by kernel_rfl) rfl rfl rfl (gsat_C (ltI k3 ((l1.length : Int))) rfl rfl (by kernel_rfl) hc6) (by kernel_rfl) (E_field (.pe [Ti e7.1, Ti e7.2]) Tryd.underlying66 rfl sz3 rfl (by kernel_rfl) (by intro hh; cases hh)) 15 rfl ?_
          refine DE_0 9 (I e7.1) (by kernel_rfl) rfl rfl rfl (gsat_C (ltI k3 ((l1.length : Int))) rfl rfl (by kernel_rfl) hc6) (by kernel_rfl) (Y0_load1 (c := Ti e7.1) (cs := [Ti e7.2]) sc3 rfl (by kernel_rfl)) 16 rfl ?_
          refine DE_0 10 (.pt 24 0) (by kernel_rfl) rfl rfl rfl (gsat_C (ltI k3 ((l1.length : Int))) rfl rfl (by kernel_rfl) hc6) (by kernel_rfl) (E_field (.pt 24 0) Tryd.underlying66 rfl sz3 rfl (by kernel_rfl) (by intro hh; cases hh)) 17 rfl ?_
          refine DE_0 11 (I p2.1) (by kernel_rfl) rfl rfl rfl (gsat_C (ltI k3 ((l1.length : Int))) rfl rfl (by kernel_rfl) hc6) (by kernel_rfl) (Y0_load1 (c := Ti p2.1) (cs := [Ti p2.2]) sc3 rfl (by kernel_rfl)) 18 rfl ?_
          refine DE_0 12 (Bo (ltI e7.1 p2.1)) (by kernel_rfl) rfl rfl rfl (gsat_C (ltI k3 ((l1.length : Int))) rfl rfl (by kernel_rfl) hc6) (by kernel_rfl) (Y0_ltw (k := .i64) (a := e7.1) (b := p2.1) rfl (by kernel_rfl) (by kernel_rfl)) 19 rfl ?_
          refine DE_0 13 (Bo (ltI e7.1 p2.1)) (by kernel_rfl) rfl rfl rfl (gsat_C (ltI k3 ((l1.length : Int))) rfl rfl (by kernel_rfl) hc6) (by kernel_rfl) (E_move (Bo (ltI e7.1 p2.1)) rfl (by kernel_rfl)) 20 rfl ?_
          refine DL_split (ltI e7.1 p2.1) (fun hc8 => ?_) (fun hc8 => ?_)
          · have hb13 := some_inj (of_true hb13 hc8)
            refine DE_t 14 (by kernel_rfl) rfl rfl rfl (gun_F (ltI e7.1 p2.1) rfl rfl (by kernel_rfl) hc8) 21 rfl ?_
            refine DE_t 15 (by kernel_rfl) rfl rfl rfl (gun_F (ltI e7.1 p2.1) rfl rfl (by kernel_rfl) hc8) 22 rfl ?_
            refine DE_t 16 (by kernel_rfl) rfl rfl rfl (gun_F (ltI e7.1 p2.1) rfl rfl (by kernel_rfl) hc8) 23 rfl ?_
            refine DE_t 17 (by kernel_rfl) rfl rfl rfl (gun_F (ltI e7.1 p2.1) rfl rfl (by kernel_rfl) hc8) 24 rfl ?_
            refine DE_t 18 (by kernel_rfl) rfl rfl rfl (gun_F (ltI e7.1 p2.1) rfl rfl (by kernel_rfl) hc8) 25 rfl ?_
            refine DE_t 19 (by kernel_rfl) rfl rfl rfl (gun_F (ltI e7.1 p2.1) rfl rfl (by kernel_rfl) hc8) 26 rfl ?_
            refine DE_t 20 (by kernel_rfl) rfl rfl rfl (gun_F (ltI e7.1 p2.1) rfl rfl (by kernel_rfl) hc8) 27 rfl ?_
            refine DE_t 21 (by kernel_rfl) rfl rfl rfl (gun_F (ltI e7.1 p2.1) rfl rfl (by kernel_rfl) hc8) 28 rfl ?_
            refine DE_t 22 (by kernel_rfl) rfl rfl rfl (gun_F (ltI e7.1 p2.1) rfl rfl (by kernel_rfl) hc8) 29 rfl ?_
            refine DE_t 23 (by kernel_rfl) rfl rfl rfl (gun_tn rfl rfl (by kernel_rfl)) 30 rfl ?_
            refine DE_t 24 (by kernel_rfl) rfl rfl rfl (gun_tn rfl rfl (by kernel_rfl)) 31 rfl ?_
            refine DE_t 25 (by kernel_rfl) rfl rfl rfl (gun_tn rfl rfl (by kernel_rfl)) 32 rfl ?_
            refine DE_t 26 (by kernel_rfl) rfl rfl rfl (gun_tn rfl rfl (by kernel_rfl)) 33 rfl ?_
            refine DE_t 27 (by kernel_rfl) rfl rfl rfl (gun_tn rfl rfl (by kernel_rfl)) 34 rfl ?_
            refine DE_t 28 (by kernel_rfl) rfl rfl rfl (gun_tn rfl rfl (by kernel_rfl)) 35 rfl ?_
            refine DE_t 29 (by kernel_rfl) rfl rfl rfl (gun_tn rfl rfl (by kernel_rfl)) 36 rfl ?_
            refine DE_t 30 (by kernel_rfl) rfl rfl rfl (gun_tn rfl rfl (by kernel_rfl)) 37 rfl ?_
            refine DE_t 31 (by kernel_rfl) rfl rfl rfl (gun_F (ltI e7.1 p2.1) rfl rfl (by kernel_rfl) hc8) 38 rfl ?_
            refine DE_0 32 (Bo (b13)) (by kernel_rfl) rfl rfl rfl (gsat_C (ltI k3 ((l1.length : Int))) rfl rfl (by kernel_rfl) hc6) (by kernel_rfl) (Y0_pickTe (b := ltI e7.1 p2.1) (p := true) rfl (by kernel_rfl) hc8 (by kernel_rfl) hb13) 39 rfl ?_
            refine DE_0 33 (Bo (b14)) (by kernel_rfl) rfl rfl rfl (gsat_none rfl) (by kernel_rfl) (Y0_pickTe (b := ltI k3 ((l1.length : Int))) (p := b13) rfl (by kernel_rfl) hc6 (by kernel_rfl) hb14) 40 rfl ?_
            refine DL_nil (by kernel_rfl) ?_
            refine XL_nil ?_
            kernel_rfl
          · have hb13 := of_false hb13 hc8
            obtain ⟨e9, he9, hb13⟩ := of_bind hb13
            obtain ⟨b12, hb12, hb13⟩ := of_bind hb13
            have hb13 := some_inj hb13
            refine DE_0 14 (.c (.sl (l1.map c66))) (by kernel_rfl) rfl rfl rfl (gsat_C (ltI e7.1 p2.1) rfl rfl (by kernel_rfl) hc8) (by kernel_rfl) (E_move (.c (.sl (l1.map c66))) rfl (by kernel_rfl)) 21 rfl ?_
            refine DE_0 15 (I k3) (by kernel_rfl) rfl rfl rfl (gsat_C (ltI e7.1 p2.1) rfl rfl (by kernel_rfl) hc8) (by kernel_rfl) (E_move (I k3) rfl (by kernel_rfl)) 22 rfl ?_
            refine DE_0 16 (.pe [Ti e9.1, Ti e9.2]) (by kernel_rfl) rfl rfl rfl (gsat_C (ltI e7.1 p2.1) rfl rfl (by kernel_rfl) hc8) (by kernel_rfl) (Y0_idxM (c := c66) (xs := l1) (v := e9) (n := k3) Tryd.underlying62 sz66 rfl (by kernel_rfl) (by kernel_rfl) he9) 23 rfl ?_
            refine DE_0 17 (.pe [Ti e9.1, Ti e9.2]) (by kernel_rfl) rfl rfl rfl (gsat_C (ltI e7.1 p2.1) rfl rfl (by kernel_rfl) hc8) (by kernel_rfl) (E_field (.pe [Ti e9.1, Ti e9.2]) Tryd.underlying66 rfl sz3 rfl (by kernel_rfl) (by intro hh; cases hh)) 24 rfl ?_
            refine DE_0 18 (I e9.1) (by kernel_rfl) rfl rfl rfl (gsat_C (ltI e7.1 p2.1) rfl rfl (by kernel_rfl) hc8) (by kernel_rfl) (Y0_load1 (c := Ti e9.1) (cs := [Ti e9.2]) sc3 rfl (by kernel_rfl)) 25 rfl ?_
            refine DE_0 19 (.pt 24 0) (by kernel_rfl) rfl rfl rfl (gsat_C (ltI e7.1 p2.1) rfl rfl (by kernel_rfl) hc8) (by kernel_rfl) (E_field (.pt 24 0) Tryd.underlying66 rfl sz3 rfl (by kernel_rfl) (by intro hh; cases hh)) 26 rfl ?_
            refine DE_0 20 (I p2.1) (by kernel_rfl) rfl rfl rfl (gsat_C (ltI e7.1 p2.1) rfl rfl (by kernel_rfl) hc8) (by kernel_rfl) (Y0_load1 (c := Ti p2.1) (cs := [Ti p2.2]) sc3 rfl (by kernel_rfl)) 27 rfl ?_
            refine DE_0 21 (Bo (eqI e9.1 p2.1)) (by kernel_rfl) rfl rfl rfl (gsat_C (ltI e7.1 p2.1) rfl rfl (by kernel_rfl) hc8) (by kernel_rfl) (Y0_eqw (k := .i64) (a := e9.1) (b := p2.1) rfl (by kernel_rfl) (by kernel_rfl)) 28 rfl ?_
            refine DE_0 22 (Bo (eqI e9.1 p2.1)) (by kernel_rfl) rfl rfl rfl (gsat_C (ltI e7.1 p2.1) rfl rfl (by kernel_rfl) hc8) (by kernel_rfl) (E_move (Bo (eqI e9.1 p2.1)) rfl (by kernel_rfl)) 29 rfl ?_
            refine DL_split (eqI e9.1 p2.1) (fun hc10 => ?_) (fun hc10 => ?_)
            · have hb12 := of_true hb12 hc10
              obtain ⟨e11, he11, hb12⟩ := of_bind hb12
              have hb12 := some_inj hb12
              refine DE_0 23 (.c (.sl (l1.map c66))) (by kernel_rfl) rfl rfl rfl (gsat_C (eqI e9.1 p2.1) rfl rfl (by kernel_rfl) hc10) (by kernel_rfl) (E_move (.c (.sl (l1.map c66))) rfl (by kernel_rfl)) 30 rfl ?_
              refine DE_0 24 (I k3) (by kernel_rfl) rfl rfl rfl (gsat_C (eqI e9.1 p2.1) rfl rfl (by kernel_rfl) hc10) (by kernel_rfl) (E_move (I k3) rfl (by kernel_rfl)) 31 rfl ?_
              refine DE_0 25 (.pe [Ti e11.1, Ti e11.2]) (by kernel_rfl) rfl rfl rfl (gsat_C (eqI e9.1 p2.1) rfl rfl (by kernel_rfl) hc10) (by kernel_rfl) (Y0_idxM (c := c66) (xs := l1) (v := e11) (n := k3) Tryd.underlying62 sz66 rfl (by kernel_rfl) (by kernel_rfl) he11) 32 rfl ?_
              refine DE_0 26 (.pe [Ti e11.2]) (by kernel_rfl) rfl rfl rfl (gsat_C (eqI e9.1 p2.1) rfl rfl (by kernel_rfl) hc10) (by kernel_rfl) (E_field (.pe [Ti e11.2]) Tryd.underlying66 rfl sz3 rfl (by kernel_rfl) (by intro hh; cases hh)) 33 rfl ?_
              refine DE_0 27 (I e11.2) (by kernel_rfl) rfl rfl rfl (gsat_C (eqI e9.1 p2.1) rfl rfl (by kernel_rfl) hc10) (by kernel_rfl) (Y0_load1 (c := Ti e11.2) (cs := []) sc3 rfl (by kernel_rfl)) 34 rfl ?_
              refine DE_0 28 (.pt 24 1) (by kernel_rfl) rfl rfl rfl (gsat_C (eqI e9.1 p2.1) rfl rfl (by kernel_rfl) hc10) (by kernel_rfl) (E_field (.pt 24 1) Tryd.underlying66 rfl sz3 rfl (by kernel_rfl) (by intro hh; cases hh)) 35 rfl ?_
              refine DE_0 29 (I p2.2) (by kernel_rfl) rfl rfl rfl (gsat_C (eqI e9.1 p2.1) rfl rfl (by kernel_rfl) hc10) (by kernel_rfl) (Y0_load1 (c := Ti p2.2) (cs := []) sc3 rfl (by kernel_rfl)) 36 rfl ?_
              refine DE_0 30 (Bo (ltI e11.2 p2.2)) (by kernel_rfl) rfl rfl rfl (gsat_C (eqI e9.1 p2.1) rfl rfl (by kernel_rfl) hc10) (by kernel_rfl) (Y0_ltw (k := .i64) (a := e11.2) (b := p2.2) rfl (by kernel_rfl) (by kernel_rfl)) 37 rfl ?_
              refine DE_0 31 (Bo (b12)) (by kernel_rfl) rfl rfl rfl (gsat_C (ltI e7.1 p2.1) rfl rfl (by kernel_rfl) hc8) (by kernel_rfl) (Y0_pickTe (b := eqI e9.1 p2.1) (p := ltI e11.2 p2.2) rfl (by kernel_rfl) hc10 (by kernel_rfl) hb12) 38 rfl ?_
              refine DE_0 32 (Bo (b13)) (by kernel_rfl) rfl rfl rfl (gsat_C (ltI k3 ((l1.length : Int))) rfl rfl (by kernel_rfl) hc6) (by kernel_rfl) (Y0_pickFe (b := ltI e7.1 p2.1) (p := b12) rfl (by kernel_rfl) hc8 (by kernel_rfl) hb13) 39 rfl ?_
              refine DE_0 33 (Bo (b14)) (by kernel_rfl) rfl rfl rfl (gsat_none rfl) (by kernel_rfl) (Y0_pickTe (b := ltI k3 ((l1.length : Int))) (p := b13) rfl (by kernel_rfl) hc6 (by kernel_rfl) hb14) 40 rfl ?_
              refine DL_nil (by kernel_rfl) ?_
              refine XL_nil ?_
              kernel_rfl
            · have hb12 := some_inj (of_false hb12 hc10)
              refine DE_t 23 (by kernel_rfl) rfl rfl rfl (gun_T (eqI e9.1 p2.1) rfl rfl (by kernel_rfl) hc10) 30 rfl ?_
              refine DE_t 24 (by kernel_rfl) rfl rfl rfl (gun_T (eqI e9.1 p2.1) rfl rfl (by kernel_rfl) hc10) 31 rfl ?_
              refine DE_t 25 (by kernel_rfl) rfl rfl rfl (gun_T (eqI e9.1 p2.1) rfl rfl (by kernel_rfl) hc10) 32 rfl ?_
              refine DE_t 26 (by kernel_rfl) rfl rfl rfl (gun_T (eqI e9.1 p2.1) rfl rfl (by kernel_rfl) hc10) 33 rfl ?_
              refine DE_t 27 (by kernel_rfl) rfl rfl rfl (gun_T (eqI e9.1 p2.1) rfl rfl (by kernel_rfl) hc10) 34 rfl ?_
              refine DE_t 28 (by kernel_rfl) rfl rfl rfl (gun_T (eqI e9.1 p2.1) rfl rfl (by kernel_rfl) hc10) 35 rfl ?_
              refine DE_t 29 (by kernel_rfl) rfl rfl rfl (gun_T (eqI e9.1 p2.1) rfl rfl (by kernel_rfl) hc10) 36 rfl ?_
              refine DE_t 30 (by kernel_rfl) rfl rfl rfl (gun_T (eqI e9.1 p2.1) rfl rfl (by kernel_rfl) hc10) 37 rfl ?_
              refine DE_0 31 (Bo (b12)) (by kernel_rfl) rfl rfl rfl (gsat_C (ltI e7.1 p2.1) rfl rfl (by kernel_rfl) hc8) (by kernel_rfl) (Y0_pickFe (b := eqI e9.1 p2.1) (p := false) rfl (by kernel_rfl) hc10 (by kernel_rfl) hb12) 38 rfl ?_
              refine DE_0 32 (Bo (b13)) (by kernel_rfl) rfl rfl rfl (gsat_C (ltI k3 ((l1.length : Int))) rfl rfl (by kernel_rfl) hc6) (by kernel_rfl) (Y0_pickFe (b := ltI e7.1 p2.1) (p := b12) rfl (by kernel_rfl) hc8 (by kernel_rfl) hb13) 39 rfl ?_
              refine DE_0 33 (Bo (b14)) (by kernel_rfl) rfl rfl rfl (gsat_none rfl) (by kernel_rfl) (Y0_pickTe (b := ltI k3 ((l1.length : Int))) (p := b13) rfl (by kernel_rfl) hc6 (by kernel_rfl) hb14) 40 rfl ?_
              refine DL_nil (by kernel_rfl) ?_
              refine XL_nil ?_
              kernel_rfl
        · have hb14 := some_inj (of_false hb14 hc6)
          refine DE_t 5 (by kernel_rfl) rfl rfl rfl (gun_T (ltI k3 ((l1.length : Int))) rfl rfl (by kernel_rfl) hc6) 12 rfl ?_
          refine DE_t 6 (by kernel_rfl) rfl rfl rfl (gun_T (ltI k3 ((l1.length : Int))) rfl rfl (by kernel_rfl) hc6) 13 rfl ?_
          refine DE_t 7 (by kernel_rfl) rfl rfl rfl (gun_T (ltI k3 ((l1.length : Int))) rfl rfl (by kernel_rfl) hc6) 14 rfl ?_
          refine DE_t 8 (by kernel_rfl) rfl rfl rfl (gun_T (ltI k3 ((l1.length : Int))) rfl rfl (by kernel_rfl) hc6) 15 rfl ?_
          refine DE_t 9 (by kernel_rfl) rfl rfl rfl (gun_T (ltI k3 ((l1.length : Int))) rfl rfl (by kernel_rfl) hc6) 16 rfl ?_
          refine DE_t 10 (by kernel_rfl) rfl rfl rfl (gun_T (ltI k3 ((l1.length : Int))) rfl rfl (by kernel_rfl) hc6) 17 rfl ?_
          refine DE_t 11 (by kernel_rfl) rfl rfl rfl (gun_T (ltI k3 ((l1.length : Int))) rfl rfl (by kernel_rfl) hc6) 18 rfl ?_
          refine DE_t 12 (by kernel_rfl) rfl rfl rfl (gun_T (ltI k3 ((l1.length : Int))) rfl rfl (by kernel_rfl) hc6) 19 rfl ?_
          refine DE_t 13 (by kernel_rfl) rfl rfl rfl (gun_T (ltI k3 ((l1.length : Int))) rfl rfl (by kernel_rfl) hc6) 20 rfl ?_
          refine DE_t 14 (by kernel_rfl) rfl rfl rfl (gun_tn rfl rfl (by kernel_rfl)) 21 rfl ?_
          refine DE_t 15 (by kernel_rfl) rfl rfl rfl (gun_tn rfl rfl (by kernel_rfl)) 22 rfl ?_
          refine DE_t 16 (by kernel_rfl) rfl rfl rfl (gun_tn rfl rfl (by kernel_rfl)) 23 rfl ?_
          refine DE_t 17 (by kernel_rfl) rfl rfl rfl (gun_tn rfl rfl (by kernel_rfl)) 24 rfl ?_
          refine DE_t 18 (by kernel_rfl) rfl rfl rfl (gun_tn rfl rfl (by kernel_rfl)) 25 rfl ?_
          refine DE_t 19 (by kernel_rfl) rfl rfl rfl (gun_tn rfl rfl (by kernel_rfl)) 26 rfl ?_
          refine DE_t 20 (by kernel_rfl) rfl rfl rfl (gun_tn rfl rfl (by kernel_rfl)) 27 rfl ?_
          refine DE_t 21 (by kernel_rfl) rfl rfl rfl (gun_tn rfl rfl (by kernel_rfl)) 28 rfl ?_
          refine DE_t 22 (by kernel_rfl) rfl rfl rfl (gun_tn rfl rfl (by kernel_rfl)) 29 rfl ?_
          refine DE_t 23 (by kernel_rfl) rfl rfl rfl (gun_tn rfl rfl (by kernel_rfl)) 30 rfl ?_
          refine DE_t 24 (by kernel_rfl) rfl rfl rfl (gun_tn rfl rfl (by kernel_rfl)) 31 rfl ?_
          refine DE_t 25 (by kernel_rfl) rfl rfl rfl (gun_tn rfl rfl (by kernel_rfl)) 32 rfl ?_
          refine DE_t 26 (by kernel_rfl) rfl rfl rfl (gun_tn rfl rfl (by kernel_rfl)) 33 rfl ?_
          refine DE_t 27 (by kernel_rfl) rfl rfl rfl (gun_tn rfl rfl (by kernel_rfl)) 34 rfl ?_
          refine DE_t 28 (by kernel_rfl) rfl rfl rfl (gun_tn rfl rfl (by kernel_rfl)) 35 rfl ?_
          refine DE_t 29 (by kernel_rfl) rfl rfl rfl (gun_tn rfl rfl (by kernel_rfl)) 36 rfl ?_
          refine DE_t 30 (by kernel_rfl) rfl rfl rfl (gun_tn rfl rfl (by kernel_rfl)) 37 rfl ?_
          refine DE_t 31 (by kernel_rfl) rfl rfl rfl (gun_tn rfl rfl (by kernel_rfl)) 38 rfl ?_
          refine DE_t 32 (by kernel_rfl) rfl rfl rfl (gun_T (ltI k3 ((l1.length : Int))) rfl rfl (by kernel_rfl) hc6) 39 rfl ?_
          refine DE_0 33 (Bo (b14)) (by kernel_rfl) rfl rfl rfl (gsat_none rfl) (by kernel_rfl) (Y0_pickFe (b := ltI k3 ((l1.length : Int))) (p := false) rfl (by kernel_rfl) hc6 (by kernel_rfl) hb14) 40 rfl ?_
          refine DL_nil (by kernel_rfl) ?_
          refine XL_nil ?_
          kernel_rfl
      refine V_cond rfl (fun hc15 => ?_) (fun hc15 => ?_)
      · have h := of_true h hc15
        refine V_skip ?_
        show V _ _ _ _
        refine V_block ?_
        obtain ⟨k16, hk16, h⟩ := of_sI h
        refine V_reg [true, false, false, true, false, true, false, false, false, false, false, false, false, false, false, false, false, false, false, false, false, false, false, false, false, false, false, false, false, false, false, false, false, false, false, false, false, false, false, false, false, false, false, false, false, false, false, false, false, false, false, false, false, false, false, false, false] [24] (s1 := ⟨[.c (.sl (l1.map c66)), .bot, .bot, .pt 24 0, .bot, I k16, .bot, .bot, .bot, .bot, .bot, .bot, .bot, .bot, .bot, .bot, .bot, .bot, .bot, .bot, .bot, .bot, .bot, .bot, .bot, .bot, .bot, .bot, .bot, .bot, .bot, .bot, .bot, .bot, .bot, .bot, .bot, .bot, .bot, .bot, .bot, .bot, .bot, .bot, .bot, .bot, .bot, .bot, .bot, .bot, .bot, .bot, .bot, .bot, .bot, .bot, .bot], [(24, .box [Ti p2.1, Ti p2.2])]⟩) ?_ ?_
        · refine XL_cons rfl (X_of_Y0 rfl (E_move (I k3) rfl (by kernel_rfl))) ?_
          refine XL_cons rfl (X_of_Y0 rfl (Y0_add64 (a := k3) (b := 1) rfl (by kernel_rfl) (by kernel_rfl))) ?_
          refine XL_cons rfl (X_of_Y0 rfl (E_assign (I (w64 (k3 + 1))) rfl (by kernel_rfl))) ?_
          refine XL_nil ?_
          subst hk16
          kernel_rfl
        exact ⟨n, Nat.lt_succ_self n, _,  by rfl, h⟩
      · have h := of_false h hc15
        refine V_exit ?_
        obtain rfl := some_inj h
        show St.keep _ _ _ = _
        rfl
  show V _ _ _ _
  obtain ⟨u17, hu17, h⟩ := of_bind h
  obtain ⟨u18, hu18, h⟩ := of_bind h
  refine V_sreg [true, false, false, true, false, true, true, false, false, false, false, false, false, false, false, false, false, false, false, false, false, false, false, false, false, false, false, false, false, false, false, false, false, false, false, false, false, false, false, false, false, false, false, false, false, false, false, false, false, false, false, false, false, false, false, false, false] [344, 24] (s1 := ⟨[.c (.sl (l1.map c66)), .bot, .bot, .pt 24 0, .bot, I o5, .ow 344, .bot, .bot, .bot, .bot, .bot, .bot, .bot, .bot, .bot, .bot, .bot, .bot, .bot, .bot, .bot, .bot, .bot, .bot, .bot, .bot, .bot, .bot, .bot, .bot, .bot, .bot, .bot, .bot, .bot, .bot, .bot, .bot, .bot, .bot, .bot, .bot, .bot, .bot, .bot, .bot, .bot, .bot, .bot, .bot, .bot, .bot, .bot, .bot, .bot, .bot], [(344, .arr 66 2 (((([] : List ((Int × Int)))) ++ (subl l1 0 o5)).map c66)), (24, .box [Ti p2.1, Ti p2.2])]⟩) ?_ ?_
  · refine XL_cons rfl (X_of_Y1 rfl (Y1_bslice0 Tryd.underlying62 sz66 (by decide) rfl rfl)) ?_
    refine XL_cons rfl (X_of_Y0 rfl (E_move (.c (.sl (l1.map c66))) rfl (by kernel_rfl))) ?_
    refine XL_cons rfl (X_of_Y0 rfl (E_move (I o5) rfl (by kernel_rfl))) ?_
    refine XL_cons rfl (X_of_Y0 rfl (Y0_slice (c := c66) (xs := l1) (l := 0) (h := o5) Tryd.underlying62 sz66 (fun _ => rfl) rfl (by kernel_rfl) (fun y hy => by cases hy) (fun _ => rfl) (fun y hy => by cases hy; exact ⟨.i64, (by kernel_rfl)⟩) (fun hh => by cases hh) (slc_some hu17))) ?_
    refine XL_cons rfl (X_appendA (c := c66) (xs := ([] : List ((Int × Int)))) (ys := subl l1 0 o5) (id := 344) (z := zv66) rfl rfl Tryd.underlying62 izb66 rfl (by kernel_rfl) (by kernel_rfl) (by kernel_rfl) (fun _ => rfl) (room_some hu18) (by decide)) ?_
    refine XL_cons rfl (X_of_Y0 rfl (E_assign (.ow 344) rfl (by kernel_rfl))) ?_
    refine XL_nil ?_
    kernel_rfl
  obtain ⟨u19, hu19, h⟩ := of_bind h
  refine V_sreg [true, false, false, false, false, true, true, false, false, false, false, false, false, false, false, false, false, false, false, false, false, false, false, false, false, false, false, false, false, false, false, false, false, false, false, false, false, false, false, false, false, false, false, false, false, false, false, false, false, false, false, false, false, false, false, false, false] [344] (s1 := ⟨[.c (.sl (l1.map c66)), .bot, .bot, .bot, .bot, I o5, .ow 344, .bot, .bot, .bot, .bot, .bot, .bot, .bot, .bot, .bot, .bot, .bot, .bot, .bot, .bot, .bot, .bot, .bot, .bot, .bot, .bot, .bot, .bot, .bot, .bot, .bot, .bot, .bot, .bot, .bot, .bot, .bot, .bot, .bot, .bot, .bot, .bot, .bot, .bot, .bot, .bot, .bot, .bot, .bot, .bot, .bot, .bot, .bot, .bot, .bot, .bot], [(344, .arr 66 2 ((((([] : List ((Int × Int)))) ++ (subl l1 0 o5)) ++ ([p2])).map c66))]⟩) ?_ ?_
  · refine XL_cons rfl (X_of_Y0 rfl (E_move (.ow 344) rfl (by kernel_rfl))) ?_
    refine XL_cons rfl (X_of_Y0 rfl (E_loadn (cs := [Ti p2.1, Ti p2.2]) [Ti p2.1, Ti p2.2] wd66 rfl (by kernel_rfl) (Nat.le_of_ble_eq_true rfl) (by kernel_rfl))) ?_
    refine XL_cons rfl (X_of_Y1 rfl (Y1_bslice (z := zv66) (els := [p2].map c66) Tryd.underlying62 iz66 rfl (by decide) rfl (by kernel_rfl) rfl (by simp [c66]) (by decide) (by decide))) ?_
    refine XL_cons rfl (X_appendM (c := c66) (xs := (([] : List ((Int × Int)))) ++ (subl l1 0 o5)) (ys := [p2]) (id := 344) (z := zv66) rfl rfl Tryd.underlying62 izb66 rfl (by kernel_rfl) (by kernel_rfl) (by kernel_rfl) (fun _ => rfl) (by simp) (room_some hu19) (by decide)) ?_
    refine XL_cons rfl (X_of_Y0 rfl (E_assign (.ow 344) rfl (by kernel_rfl))) ?_
    refine XL_nil ?_
    kernel_rfl
  obtain ⟨u20, hu20, h⟩ := of_bind h
  obtain ⟨u21, hu21, h⟩ := of_bind h
  obtain ⟨l22, hl22, h⟩ := of_bind h
  have hl22 := some_inj hl22
  refine V_sreg [false, false, false, false, true, false, false, false, false, false, false, false, false, false, false, false, false, false, false, false, false, false, false, false, false, false, false, false, false, false, false, false, false, false, false, false, false, false, false, false, false, false, false, false, false, false, false, false, false, false, false, false, false, false, false, false, false] [344] (s1 := ⟨[.bot, .bot, .bot, .bot, .ow 344, .bot, .bot, .bot, .bot, .bot, .bot, .bot, .bot, .bot, .bot, .bot, .bot, .bot, .bot, .bot, .bot, .bot, .bot, .bot, .bot, .bot, .bot, .bot, .bot, .bot, .bot, .bot, .bot, .bot, .bot, .bot, .bot, .bot, .bot, .bot, .bot, .bot, .bot, .bot, .bot, .bot, .bot, .bot, .bot, .bot, .bot, .bot, .bot, .bot, .bot, .bot, .bot], [(344, .arr 66 2 (l22.map c66))]⟩) ?_ ?_
  · refine XL_cons rfl (X_of_Y0 rfl (E_move (.ow 344) rfl (by kernel_rfl))) ?_
    refine XL_cons rfl (X_of_Y0 rfl (E_move (.c (.sl (l1.map c66))) rfl (by kernel_rfl))) ?_
    refine XL_cons rfl (X_of_Y0 rfl (E_move (I o5) rfl (by kernel_rfl))) ?_
    refine XL_cons rfl (X_of_Y0 rfl (Y0_slice (c := c66) (xs := l1) (l := o5) (h := (l1.length : Int)) Tryd.underlying62 sz66 (fun _ => rfl) rfl (by kernel_rfl) (fun y hy => by cases hy; exact ⟨.i64, (by kernel_rfl)⟩) (fun hh => by cases hh) (fun y hy => by cases hy) (fun _ => rfl) (slc_some hu20))) ?_
    refine XL_cons rfl (X_appendA (c := c66) (xs := ((([] : List ((Int × Int)))) ++ (subl l1 0 o5)) ++ ([p2])) (ys := subl l1 o5 ((l1.length : Int))) (id := 344) (z := zv66) rfl rfl Tryd.underlying62 izb66 rfl (by kernel_rfl) (by kernel_rfl) (by kernel_rfl) (fun _ => rfl) (room_some hu21) (by decide)) ?_
    refine XL_cons rfl (X_of_Y0 rfl (E_assign (.ow 344) rfl (by kernel_rfl))) ?_
    refine XL_nil ?_
    subst hl22
    kernel_rfl
  refine V_ret ?_
  obtain rfl := some_inj h
  show Post _ _ _ _ _
  exact ⟨.inr rfl, rfl, rfl, rfl⟩
theorem cf_spec_vaAt : ∀ args w, (callFunc 96 args).run Tryd.prog w = .ok (.enter 96 args) w := run_callFunc Tryd.func96 (by kernel_rfl) (by kernel_rfl)
set_option maxRecDepth 100000 in
set_option maxHeartbeats 400000 in
theorem s_spec_vaAt {f1 : (Int × Int × Int)} {vn2 : Int} {r : List ((Int × Int))} (h : r_spec_vaAt f1 vn2 = some r) : CallS Tryd.prog 96 [.ag [Ti f1.1, Ti f1.2.1, Ti f1.2.2], I vn2] (.c (.sl (r.map c66))) [] := by
  refine CallS_of_text (rs := [.t 4]) (vs := [.tmp 4]) Tryd.func96 rfl rfl (.cons rfl FitsL.nil) (by decide) 108 rfl ?_
  unfold r_spec_vaAt at h
  show V _ _ ⟨[.ag [Ti f1.1, Ti f1.2.1, Ti f1.2.2], I vn2, .bot, .bot, .bot, .bot, .bot, .bot, .bot, .bot, .bot, .bot, .bot, .bot, .bot, .bot, .bot, .bot, .bot, .bot, .bot, .bot, .bot, .bot, .bot, .bot, .bot, .bot, .bot, .bot, .bot, .bot, .bot, .bot, .bot, .bot, .bot, .bot, .bot, .bot, .bot, .bot, .bot, .bot, .bot, .bot, .bot, .bot, .bot, .bot, .bot, .bot, .bot, .bot, .bot, .bot, .bot, .bot, .bot, .bot, .bot, .bot, .bot, .bot, .bot, .bot, .bot, .bot, .bot, .bot, .bot, .bot, .bot, .bot, .bot, .bot, .bot, .bot, .bot, .bot, .bot, .bot, .bot, .bot, .bot, .bot, .bot, .bot, .bot, .bot, .bot, .bot, .bot, .bot, .bot, .bot, .bot, .bot, .bot, .bot, .bot, .bot, .bot, .bot, .bot, .bot, .bot, .bot], []⟩ _
  refine V_sreg [false, true, true, false, false, false, false, false, false, false, false, false, false, false, false, false, false, false, false, false, false, false, false, false, false, false, false, false, false, false, false, false, false, false, false, false, false, false, false, false, false, false, false, false, false, false, false, false, false, false, false, false, false, false, false, false, false, false, false, false, false, false, false, false, false, false, false, false, false, false, false, false, false, false, false, false, false, false, false, false, false, false, false, false, false, false, false, false, false, false, false, false, false, false, false, false, false, false, false, false, false, false, false, false, false, false, false, false] [16] (s1 := ⟨[.bot, I vn2, .pt 16 0, .bot, .bot, .bot, .bot, .bot, .bot, .bot, .bot, .bot, .bot, .bot, .bot, .bot, .bot, .bot, .bot, .bot, .bot, .bot, .bot, .bot, .bot, .bot, .bot, .bot, .bot, .bot, .bot, .bot, .bot, .bot, .bot, .bot, .bot, .bot, .bot, .bot, .bot, .bot, .bot, .bot, .bot, .bot, .bot, .bot, .bot, .bot, .bot, .bot, .bot, .bot, .bot, .bot, .bot, .bot, .bot, .bot, .bot, .bot, .bot, .bot, .bot, .bot, .bot, .bot, .bot, .bot, .bot, .bot, .bot, .bot, .bot, .bot, .bot, .bot, .bot, .bot, .bot, .bot, .bot, .bot, .bot, .bot, .bot, .bot, .bot, .bot, .bot, .bot, .bot, .bot, .bot, .bot, .bot, .bot, .bot, .bot, .bot, .bot, .bot, .bot, .bot, .bot, .bot, .bot], [(16, .box [Ti f1.1, Ti f1.2.1, Ti f1.2.2])]⟩) ?_ ?_
  · refine XL_cons rfl (X_of_Y1 rfl (Y1_box (cs := [Ti f1.1, Ti f1.2.1, Ti f1.2.2]) rfl (by kernel_rfl))) ?_
    refine XL_cons rfl (X_of_Y1 rfl (Y1_nil (e := 66) 2 (by decide) (.inl rfl))) ?_
    refine XL_nil ?_
    kernel_rfl
  obtain ⟨y3, hy3, h⟩ := of_bind h
  refine V_sreg [false, true, true, false, false, true, false, false, false, false, false, false, false, false, false, false, false, false, false, false, false, false, false, false, false, false, false, false, false, false, false, false, false, false, false, false, false, false, false, false, false, false, false, false, false, false, false, false, false, false, false, false, false, false, false, false, false, false, false, false, false, false, false, false, false, false, false, false, false, false, false, false, false, false, false, false, false, false, false, false, false, false, false, false, false, false, false, false, false, false, false, false, false, false, false, false, false, false, false, false, false, false, false, false, false, false, false, false] [16] (s1 := ⟨[.bot, I vn2, .pt 16 0, .bot, .bot, I y3, .bot, .bot, .bot, .bot, .bot, .bot, .bot, .bot, .bot, .bot, .bot, .bot, .bot, .bot, .bot, .bot, .bot, .bot, .bot, .bot, .bot, .bot, .bot, .bot, .bot, .bot, .bot, .bot, .bot, .bot, .bot, .bot, .bot, .bot, .bot, .bot, .bot, .bot, .bot, .bot, .bot, .bot, .bot, .bot, .bot, .bot, .bot, .bot, .bot, .bot, .bot, .bot, .bot, .bot, .bot, .bot, .bot, .bot, .bot, .bot, .bot, .bot, .bot, .bot, .bot, .bot, .bot, .bot, .bot, .bot, .bot, .bot, .bot, .bot, .bot, .bot, .bot, .bot, .bot, .bot, .bot, .bot, .bot, .bot, .bot, .bot, .bot, .bot, .bot, .bot, .bot, .bot, .bot, .bot, .bot, .bot, .bot, .bot, .bot, .bot, .bot, .bot], [(16, .box [Ti f1.1, Ti f1.2.1, Ti f1.2.2])]⟩) ?_ ?_
  · refine XL_cons rfl (X_of_Y0 rfl (E_loadn (cs := [Ti f1.1, Ti f1.2.1, Ti f1.2.2]) [Ti f1.1, Ti f1.2.1, Ti f1.2.2] wd33 rfl (by kernel_rfl) (Nat.le_of_ble_eq_true rfl) (by kernel_rfl))) ?_
    refine XL_cons rfl (X_of_Y1 rfl (Y1_call (s_spec_foDisc hy3) cf_spec_foDisc rfl (by kernel_rfl))) ?_
    refine XL_cons rfl (X_of_Y0 rfl (E_assign (I y3) rfl (by kernel_rfl))) ?_
    refine XL_nil ?_
    kernel_rfl
  refine V_sreg [false, true, true, false, false, true, true, false, false, false, false, false, false, false, false, false, false, false, false, false, false, false, false, false, false, false, false, false, false, false, false, false, false, false, false, false, false, false, false, false, false, false, false, false, false, false, false, false, false, false, false, false, false, false, false, false, false, false, false, false, false, false, false, false, false, false, false, false, false, false, false, false, false, false, false, false, false, false, false, false, false, false, false, false, false, false, false, false, false, false, false, false, false, false, false, false, false, false, false, false, false, false, false, false, false, false, false, false] [48, 16] (s1 := ⟨[.bot, I vn2, .pt 16 0, .bot, .bot, I y3, .ow 48, .bot, .bot, .bot, .bot, .bot, .bot, .bot, .bot, .bot, .bot, .bot, .bot, .bot, .bot, .bot, .bot, .bot, .bot, .bot, .bot, .bot, .bot, .bot, .bot, .bot, .bot, .bot, .bot, .bot, .bot, .bot, .bot, .bot, .bot, .bot, .bot, .bot, .bot, .bot, .bot, .bot, .bot, .bot, .bot, .bot, .bot, .bot, .bot, .bot, .bot, .bot, .bot, .bot, .bot, .bot, .bot, .bot, .bot, .bot, .bot, .bot, .bot, .bot, .bot, .bot, .bot, .bot, .bot, .bot, .bot, .bot, .bot, .bot, .bot, .bot, .bot, .bot, .bot, .bot, .bot, .bot, .bot, .bot, .bot, .bot, .bot, .bot, .bot, .bot, .bot, .bot, .bot, .bot, .bot, .bot, .bot, .bot, .bot, .bot, .bot, .bot], [(48, .arr 66 2 ((([] : List ((Int × Int)))).map c66)), (16, .box [Ti f1.1, Ti f1.2.1, Ti f1.2.2])]⟩) ?_ ?_
  · refine XL_cons rfl (X_of_Y1 rfl (Y1_nil (e := 66) 2 (by decide) (.inl rfl))) ?_
    refine XL_nil ?_
    kernel_rfl
  refine V_seq ?_
  refine V_sreg [false, true, true, false, false, true, true, true, false, false, false, false, false, false, false, false, false, false, false, false, false, false, false, false, false, false, false, false, false, false, false, false, false, false, false, false, false, false, false, false, false, false, false, false, false, false, false, false, false, false, false, false, false, false, false, false, false, false, false, false, false, false, false, false, false, false, false, false, false, false, false, false, false, false, false, false, false, false, false, false, false, false, false, false, false, false, false, false, false, false, false, false, false, false, false, false, false, false, false, false, false, false, false, false, false, false, false, false] [48, 16] (s1 := ⟨[.bot, I vn2, .pt 16 0, .bot, .bot, I y3, .ow 48, I 0, .bot, .bot, .bot, .bot, .bot, .bot, .bot, .bot, .bot, .bot, .bot, .bot, .bot, .bot, .bot, .bot, .bot, .bot, .bot, .bot, .bot, .bot, .bot, .bot, .bot, .bot, .bot, .bot, .bot, .bot, .bot, .bot, .bot, .bot, .bot, .bot, .bot, .bot, .bot, .bot, .bot, .bot, .bot, .bot, .bot, .bot, .bot, .bot, .bot, .bot, .bot, .bot, .bot, .bot, .bot, .bot, .bot, .bot, .bot, .bot, .bot, .bot, .bot, .bot, .bot, .bot, .bot, .bot, .bot, .bot, .bot, .bot, .bot, .bot, .bot, .bot, .bot, .bot, .bot, .bot, .bot, .bot, .bot, .bot, .bot, .bot, .bot, .bot, .bot, .bot, .bot, .bot, .bot, .bot, .bot, .bot, .bot, .bot, .bot, .bot], [(48, .arr 66 2 ((([] : List ((Int × Int)))).map c66)), (16, .box [Ti f1.1, Ti f1.2.1, Ti f1.2.2])]⟩) ?_ ?_
  · refine XL_cons rfl (X_of_Y0 rfl (E_assign (I 0) rfl (by kernel_rfl))) ?_
    refine XL_nil ?_
    kernel_rfl
  refine V_freeze 48 (T := 66) (sz := 2) (els := (([] : List ((Int × Int)))).map c66) (s1 := ⟨[.bot, I vn2, .pt 16 0, .bot, .bot, I y3, .c (.sl ((([] : List ((Int × Int)))).map c66)), I 0, .bot, .bot, .bot, .bot, .bot, .bot, .bot, .bot, .bot, .bot, .bot, .bot, .bot, .bot, .bot, .bot, .bot, .bot, .bot, .bot, .bot, .bot, .bot, .bot, .bot, .bot, .bot, .bot, .bot, .bot, .bot, .bot, .bot, .bot, .bot, .bot, .bot, .bot, .bot, .bot, .bot, .bot, .bot, .bot, .bot, .bot, .bot, .bot, .bot, .bot, .bot, .bot, .bot, .bot, .bot, .bot, .bot, .bot, .bot, .bot, .bot, .bot, .bot, .bot, .bot, .bot, .bot, .bot, .bot, .bot, .bot, .bot, .bot, .bot, .bot, .bot, .bot, .bot, .bot, .bot, .bot, .bot, .bot, .bot, .bot, .bot, .bot, .bot, .bot, .bot, .bot, .bot, .bot, .bot, .bot, .bot, .bot, .bot, .bot, .bot], [(16, .box [Ti f1.1, Ti f1.2.1, Ti f1.2.2])]⟩) (by kernel_rfl) (by kernel_rfl) ?_
  obtain ⟨o7, hLo7, h⟩ := of_bind h
  refine V_toK [false, false, false, false, false, false, true, false, false, false, false, false, false, false, false, false, false, false, false, false, false, false, false, false, false, false, false, false, false, false, false, false, false, false, false, false, false, false, false, false, false, false, false, false, false, false, false, false, false, false, false, false, false, false, false, false, false, false, false, false, false, false, false, false, false, false, false, false, false, false, false, false, false, false, false, false, false, false, false, false, false, false, false, false, false, false, false, false, false, false, false, false, false, false, false, false, false, false, false, false, false, false, false, false, false, false, false, false] [] (s1 := ⟨[.bot, .bot, .bot, .bot, .bot, .bot, .c (.sl (o7.map c66)), .bot, .bot, .bot, .bot, .bot, .bot, .bot, .bot, .bot, .bot, .bot, .bot, .bot, .bot, .bot, .bot, .bot, .bot, .bot, .bot, .bot, .bot, .bot, .bot, .bot, .bot, .bot, .bot, .bot, .bot, .bot, .bot, .bot, .bot, .bot, .bot, .bot, .bot, .bot, .bot, .bot, .bot, .bot, .bot, .bot, .bot, .bot, .bot, .bot, .bot, .bot, .bot, .bot, .bot, .bot, .bot, .bot, .bot, .bot, .bot, .bot, .bot, .bot, .bot, .bot, .bot, .bot, .bot, .bot, .bot, .bot, .bot, .bot, .bot, .bot, .bot, .bot, .bot, .bot, .bot, .bot, .bot, .bot, .bot, .bot, .bot, .bot, .bot, .bot, .bot, .bot, .bot, .bot, .bot, .bot, .bot, .bot, .bot, .bot, .bot, .bot], []⟩) ?_ ?_
  · clear h
    refine V_block (V_loop (fun n s => ∃ (y4 : Int) (out5 : List ((Int × Int))), s.keep [false, true, true, false, false, true, true, true, false, false, false, false, false, false, false, false, false, false, false, false, false, false, false, false, false, false, false, false, false, false, false, false, false, false, false, false, false, false, false, false, false, false, false, false, false, false, false, false, false, false, false, false, false, false, false, false, false, false, false, false, false, false, false, false, false, false, false, false, false, false, false, false, false, false, false, false, false, false, false, false, false, false, false, false, false, false, false, false, false, false, false, false, false, false, false, false, false, false, false, false, false, false, false, false, false, false, false, false] [16] = (⟨[.bot, I vn2, .pt 16 0, .bot, .bot, I y3, .c (.sl (out5.map c66)), I y4, .bot, .bot, .bot, .bot, .bot, .bot, .bot, .bot, .bot, .bot, .bot, .bot, .bot, .bot, .bot, .bot, .bot, .bot, .bot, .bot, .bot, .bot, .bot, .bot, .bot, .bot, .bot, .bot, .bot, .bot, .bot, .bot, .bot, .bot, .bot, .bot, .bot, .bot, .bot, .bot, .bot, .bot, .bot, .bot, .bot, .bot, .bot, .bot, .bot, .bot, .bot, .bot, .bot, .bot, .bot, .bot, .bot, .bot, .bot, .bot, .bot, .bot, .bot, .bot, .bot, .bot, .bot, .bot, .bot, .bot, .bot, .bot, .bot, .bot, .bot, .bot, .bot, .bot, .bot, .bot, .bot, .bot, .bot, .bot, .bot, .bot, .bot, .bot, .bot, .bot, .bot, .bot, .bot, .bot, .bot, .bot, .bot, .bot, .bot, .bot], [(16, .box [Ti f1.1, Ti f1.2.1, Ti f1.2.2])]⟩ : St) ∧ r_spec_vaAt_L6 f1 vn2 y3 n y4 out5 = some o7) FU ⟨_, _,  by rfl, hLo7⟩ ?_)
    clear hLo7
    rintro n s ⟨y4, out5, hs, h⟩
    refine V_keep _ _ hs ?_
    clear hs
    cases n with
    | zero => cases h
    | succ n =>
      rw [r_spec_vaAt_L6] at h
      refine V_seq ?_
      obtain ⟨t8, ht8, h⟩ := of_bind h
      have ht8 := some_inj ht8
      refine V_sreg [false, true, true, false, false, true, true, true, false, false, false, false, false, false, false, false, false, false, false, false, false, false, false, false, false, false, false, true, false, false, false, false, false, false, false, false, false, false, false, false, false, false, false, false, false, false, false, false, false, false, false, false, false, false, false, false, false, false, false, false, false, false, false, false, false, false, false, false, false, false, false, false, false, false, false, false, false, false, false, false, false, false, false, false, false, false, false, false, false, false, false, false, false, false, false, false, false, false, false, false, false, false, false, false, false, false, false, false] [16] (s1 := ⟨[.bot, I vn2, .pt 16 0, .bot, .bot, I y3, .c (.sl (out5.map c66)), I y4, .bot, .bot, .bot, .bot, .bot, .bot, .bot, .bot, .bot, .bot, .bot, .bot, .bot, .bot, .bot, .bot, .bot, .bot, .bot, Bo t8, .bot, .bot, .bot, .bot, .bot, .bot, .bot, .bot, .bot, .bot, .bot, .bot, .bot, .bot, .bot, .bot, .bot, .bot, .bot, .bot, .bot, .bot, .bot, .bot, .bot, .bot, .bot, .bot, .bot, .bot, .bot, .bot, .bot, .bot, .bot, .bot, .bot, .bot, .bot, .bot, .bot, .bot, .bot, .bot, .bot, .bot, .bot, .bot, .bot, .bot, .bot, .bot, .bot, .bot, .bot, .bot, .bot, .bot, .bot, .bot, .bot, .bot, .bot, .bot, .bot, .bot, .bot, .bot, .bot, .bot, .bot, .bot, .bot, .bot, .bot, .bot, .bot, .bot, .bot, .bot], [(16, .box [Ti f1.1, Ti f1.2.1, Ti f1.2.2])]⟩) ?_ ?_
      · refine XL_cons rfl (X_of_Y0 rfl (E_move (I y3) rfl (by kernel_rfl))) ?_
        refine XL_cons rfl (X_of_Y0 rfl (Y0_neg64 (a := y3) rfl (by kernel_rfl))) ?_
        refine XL_cons rfl (X_of_Y0 rfl (E_move (I y4) rfl (by kernel_rfl))) ?_
        refine XL_cons rfl (X_of_Y0 rfl (Y0_mul64 (a := w64 (0 - y3)) (b := y4) rfl (by kernel_rfl) (by kernel_rfl))) ?_
        refine XL_cons rfl (X_of_Y0 rfl (E_move (I y4) rfl (by kernel_rfl))) ?_
        refine XL_cons rfl (X_of_Y0 rfl (Y0_mul64 (a := w64 ((w64 (0 - y3)) * y4)) (b := y4) rfl (by kernel_rfl) (by kernel_rfl))) ?_
        refine XL_cons rfl (X_of_Y0 rfl (E_field (.pt 16 0) Tryd.underlying33 rfl sz3 rfl (by kernel_rfl) (by intro hh; cases hh))) ?_
        refine XL_cons rfl (X_of_Y0 rfl (Y0_load1 (c := Ti f1.1) (cs := [Ti f1.2.1, Ti f1.2.2]) sc3 rfl (by kernel_rfl))) ?_
        refine XL_cons rfl (X_of_Y0 rfl (Y0_mul64 (a := 4) (b := f1.1) rfl (by kernel_rfl) (by kernel_rfl))) ?_
        refine XL_cons rfl (X_of_Y0 rfl (E_move (I vn2) rfl (by kernel_rfl))) ?_
        refine XL_cons rfl (X_of_Y0 rfl (Y0_mul64 (a := w64 (4 * f1.1)) (b := vn2) rfl (by kernel_rfl) (by kernel_rfl))) ?_
        refine XL_cons rfl (X_of_Y0 rfl (Y0_lew (k := .i64) (a := w64 ((w64 ((w64 (0 - y3)) * y4)) * y4)) (b := w64 ((w64 (4 * f1.1)) * vn2)) rfl (by kernel_rfl) (by kernel_rfl))) ?_
        refine XL_nil ?_
        subst ht8
        kernel_rfl
      refine V_cond rfl (fun hc9 => ?_) (fun hc9 => ?_)
      · have h := of_true h hc9
        refine V_skip ?_
        show V _ _ _ _
        refine V_seq ?_
        refine V_block ?_
        obtain ⟨y10, hy10, h⟩ := of_bind h
        refine V_sreg [false, true, true, false, false, true, true, true, true, false, false, false, false, false, false, false, false, false, false, false, false, false, false, false, false, false, false, false, false, false, false, false, false, false, false, false, false, false, false, false, false, false, false, false, false, false, false, false, false, false, false, false, false, false, false, false, false, false, false, false, false, false, false, false, false, false, false, false, false, false, false, false, false, false, false, false, false, false, false, false, false, false, false, false, false, false, false, false, false, false, false, false, false, false, false, false, false, false, false, false, false, false, false, false, false, false, false, false] [16] (s1 := ⟨[.bot, I vn2, .pt 16 0, .bot, .bot, I y3, .c (.sl (out5.map c66)), I y4, I y10, .bot, .bot, .bot, .bot, .bot, .bot, .bot, .bot, .bot, .bot, .bot, .bot, .bot, .bot, .bot, .bot, .bot, .bot, .bot, .bot, .bot, .bot, .bot, .bot, .bot, .bot, .bot, .bot, .bot, .bot, .bot, .bot, .bot, .bot, .bot, .bot, .bot, .bot, .bot, .bot, .bot, .bot, .bot, .bot, .bot, .bot, .bot, .bot, .bot, .bot, .bot, .bot, .bot, .bot, .bot, .bot, .bot, .bot, .bot, .bot, .bot, .bot, .bot, .bot, .bot, .bot, .bot, .bot, .bot, .bot, .bot, .bot, .bot, .bot, .bot, .bot, .bot, .bot, .bot, .bot, .bot, .bot, .bot, .bot, .bot, .bot, .bot, .bot, .bot, .bot, .bot, .bot, .bot, .bot, .bot, .bot, .bot, .bot, .bot], [(16, .box [Ti f1.1, Ti f1.2.1, Ti f1.2.2])]⟩) ?_ ?_
        · refine XL_cons rfl (X_of_Y0 rfl (E_move (I y3) rfl (by kernel_rfl))) ?_
          refine XL_cons rfl (X_of_Y0 rfl (E_move (I y4) rfl (by kernel_rfl))) ?_
          refine XL_cons rfl (X_of_Y0 rfl (Y0_mul64 (a := y3) (b := y4) rfl (by kernel_rfl) (by kernel_rfl))) ?_
          refine XL_cons rfl (X_of_Y0 rfl (E_move (I y4) rfl (by kernel_rfl))) ?_
          refine XL_cons rfl (X_of_Y0 rfl (Y0_mul64 (a := w64 (y3 * y4)) (b := y4) rfl (by kernel_rfl) (by kernel_rfl))) ?_
          refine XL_cons rfl (X_of_Y0 rfl (E_field (.pt 16 0) Tryd.underlying33 rfl sz3 rfl (by kernel_rfl) (by intro hh; cases hh))) ?_
          refine XL_cons rfl (X_of_Y0 rfl (Y0_load1 (c := Ti f1.1) (cs := [Ti f1.2.1, Ti f1.2.2]) sc3 rfl (by kernel_rfl))) ?_
          refine XL_cons rfl (X_of_Y0 rfl (Y0_mul64 (a := 4) (b := f1.1) rfl (by kernel_rfl) (by kernel_rfl))) ?_
          refine XL_cons rfl (X_of_Y0 rfl (E_move (I vn2) rfl (by kernel_rfl))) ?_
          refine XL_cons rfl (X_of_Y0 rfl (Y0_mul64 (a := w64 (4 * f1.1)) (b := vn2) rfl (by kernel_rfl) (by kernel_rfl))) ?_
          refine XL_cons rfl (X_of_Y0 rfl (Y0_add64 (a := w64 ((w64 (y3 * y4)) * y4)) (b := w64 ((w64 (4 * f1.1)) * vn2)) rfl (by kernel_rfl) (by kernel_rfl))) ?_
          refine XL_cons rfl (X_of_Y1 rfl (Y1_call (s_spec_nuRoot hy10) cf_spec_nuRoot rfl (by kernel_rfl))) ?_
          refine XL_cons rfl (X_of_Y0 rfl (E_assign (I y10) rfl (by kernel_rfl))) ?_
          refine XL_nil ?_
          kernel_rfl
        refine V_seq ?_
        obtain ⟨t11, ht11, h⟩ := of_bind h
        have ht11 := some_inj ht11
        refine V_sreg [false, true, true, false, false, true, true, true, true, false, false, false, false, false, false, false, false, false, false, false, false, false, false, false, false, false, false, false, false, false, false, false, false, false, false, false, false, false, false, false, false, false, false, false, false, false, false, false, false, false, false, false, false, false, false, false, true, false, false, false, false, false, false, false, false, false, false, false, false, false, false, false, false, false, false, false, false, false, false, false, false, false, false, false, false, false, false, false, false, false, false, false, false, false, false, false, false, false, false, false, false, false, false, false, false, false, false, false] [16] (s1 := ⟨[.bot, I vn2, .pt 16 0, .bot, .bot, I y3, .c (.sl (out5.map c66)), I y4, I y10, .bot, .bot, .bot, .bot, .bot, .bot, .bot, .bot, .bot, .bot, .bot, .bot, .bot, .bot, .bot, .bot, .bot, .bot, .bot, .bot, .bot, .bot, .bot, .bot, .bot, .bot, .bot, .bot, .bot, .bot, .bot, .bot, .bot, .bot, .bot, .bot, .bot, .bot, .bot, .bot, .bot, .bot, .bot, .bot, .bot, .bot, .bot, Bo t11, .bot, .bot, .bot, .bot, .bot, .bot, .bot, .bot, .bot, .bot, .bot, .bot, .bot, .bot, .bot, .bot, .bot, .bot, .bot, .bot, .bot, .bot, .bot, .bot, .bot, .bot, .bot, .bot, .bot, .bot, .bot, .bot, .bot, .bot, .bot, .bot, .bot, .bot, .bot, .bot, .bot, .bot, .bot, .bot, .bot, .bot, .bot, .bot, .bot, .bot, .bot], [(16, .box [Ti f1.1, Ti f1.2.1, Ti f1.2.2])]⟩) ?_ ?_
        · refine XL_cons rfl (X_of_Y0 rfl (E_move (I y10) rfl (by kernel_rfl))) ?_
          refine XL_cons rfl (X_of_Y0 rfl (E_move (I y10) rfl (by kernel_rfl))) ?_
          refine XL_cons rfl (X_of_Y0 rfl (Y0_mul64 (a := y10) (b := y10) rfl (by kernel_rfl) (by kernel_rfl))) ?_
          refine XL_cons rfl (X_of_Y0 rfl (E_move (I y3) rfl (by kernel_rfl))) ?_
          refine XL_cons rfl (X_of_Y0 rfl (E_move (I y4) rfl (by kernel_rfl))) ?_
          refine XL_cons rfl (X_of_Y0 rfl (Y0_mul64 (a := y3) (b := y4) rfl (by kernel_rfl) (by kernel_rfl))) ?_
          refine XL_cons rfl (X_of_Y0 rfl (E_move (I y4) rfl (by kernel_rfl))) ?_
          refine XL_cons rfl (X_of_Y0 rfl (Y0_mul64 (a := w64 (y3 * y4)) (b := y4) rfl (by kernel_rfl) (by kernel_rfl))) ?_
          refine XL_cons rfl (X_of_Y0 rfl (E_field (.pt 16 0) Tryd.underlying33 rfl sz3 rfl (by kernel_rfl) (by intro hh; cases hh))) ?_
          refine XL_cons rfl (X_of_Y0 rfl (Y0_load1 (c := Ti f1.1) (cs := [Ti f1.2.1, Ti f1.2.2]) sc3 rfl (by kernel_rfl))) ?_
          refine XL_cons rfl (X_of_Y0 rfl (Y0_mul64 (a := 4) (b := f1.1) rfl (by kernel_rfl) (by kernel_rfl))) ?_
          refine XL_cons rfl (X_of_Y0 rfl (E_move (I vn2) rfl (by kernel_rfl))) ?_
          refine XL_cons rfl (X_of_Y0 rfl (Y0_mul64 (a := w64 (4 * f1.1)) (b := vn2) rfl (by kernel_rfl) (by kernel_rfl))) ?_
          refine XL_cons rfl (X_of_Y0 rfl (Y0_add64 (a := w64 ((w64 (y3 * y4)) * y4)) (b := w64 ((w64 (4 * f1.1)) * vn2)) rfl (by kernel_rfl) (by kernel_rfl))) ?_
          refine XL_cons rfl (X_of_Y0 rfl (Y0_new (k := .i64) (a := w64 (y10 * y10)) (b := w64 ((w64 ((w64 (y3 * y4)) * y4)) + (w64 ((w64 (4 * f1.1)) * vn2)))) rfl (by kernel_rfl) (by kernel_rfl))) ?_
          refine XL_nil ?_
          subst ht11
          kernel_rfl
        refine V_cond rfl (fun hc12 => ?_) (fun hc12 => ?_)
        · have h := of_true h hc12
          refine V_exit ?_
          show V _ _ _ _
          obtain ⟨y13, hy13, h⟩ := of_sI h
          refine V_reg [false, true, true, false, false, true, true, true, false, false, false, false, false, false, false, false, false, false, false, false, false, false, false, false, false, false, false, false, false, false, false, false, false, false, false, false, false, false, false, false, false, false, false, false, false, false, false, false, false, false, false, false, false, false, false, false, false, false, false, false, false, false, false, false, false, false, false, false, false, false, false, false, false, false, false, false, false, false, false, false, false, false, false, false, false, false, false, false, false, false, false, false, false, false, false, false, false, false, false, false, false, false, false, false, false, false, false, false] [16] (s1 := ⟨[.bot, I vn2, .pt 16 0, .bot, .bot, I y3, .c (.sl (out5.map c66)), I y13, .bot, .bot, .bot, .bot, .bot, .bot, .bot, .bot, .bot, .bot, .bot, .bot, .bot, .bot, .bot, .bot, .bot, .bot, .bot, .bot, .bot, .bot, .bot, .bot, .bot, .bot, .bot, .bot, .bot, .bot, .bot, .bot, .bot, .bot, .bot, .bot, .bot, .bot, .bot, .bot, .bot, .bot, .bot, .bot, .bot, .bot, .bot, .bot, .bot, .bot, .bot, .bot, .bot, .bot, .bot, .bot, .bot, .bot, .bot, .bot, .bot, .bot, .bot, .bot, .bot, .bot, .bot, .bot, .bot, .bot, .bot, .bot, .bot, .bot, .bot, .bot, .bot, .bot, .bot, .bot, .bot, .bot, .bot, .bot, .bot, .bot, .bot, .bot, .bot, .bot, .bot, .bot, .bot, .bot, .bot, .bot, .bot, .bot, .bot, .bot], [(16, .box [Ti f1.1, Ti f1.2.1, Ti f1.2.2])]⟩) ?_ ?_
          · refine XL_cons rfl (X_of_Y0 rfl (E_move (I y4) rfl (by kernel_rfl))) ?_
            refine XL_cons rfl (X_of_Y0 rfl (Y0_add64 (a := y4) (b := 1) rfl (by kernel_rfl) (by kernel_rfl))) ?_
            refine XL_cons rfl (X_of_Y0 rfl (E_assign (I (w64 (y4 + 1))) rfl (by kernel_rfl))) ?_
            refine XL_nil ?_
            subst hy13
            kernel_rfl
          exact ⟨n, Nat.lt_succ_self n, _, _,  by rfl, h⟩
        · have h := of_false h hc12
          refine V_skip ?_
          show V _ _ _ _
          obtain ⟨t14, ht14, h⟩ := of_sI h
          refine V_sreg [false, true, true, false, false, true, true, true, true, false, false, false, false, false, false, false, false, false, false, false, false, false, false, false, false, false, false, false, false, false, false, false, false, false, false, false, false, false, false, false, false, false, false, false, false, false, false, false, false, false, false, false, false, false, false, false, false, false, false, false, true, true, true, false, false, false, false, false, false, false, false, false, false, false, false, false, false, false, false, false, false, false, false, false, false, false, false, false, false, false, false, false, false, false, false, false, false, false, false, false, false, false, false, false, false, false, false, false] [480, 16] (s1 := ⟨[.bot, I vn2, .pt 16 0, .bot, .bot, I y3, .c (.sl (out5.map c66)), I y4, I y10, .bot, .bot, .bot, .bot, .bot, .bot, .bot, .bot, .bot, .bot, .bot, .bot, .bot, .bot, .bot, .bot, .bot, .bot, .bot, .bot, .bot, .bot, .bot, .bot, .bot, .bot, .bot, .bot, .bot, .bot, .bot, .bot, .bot, .bot, .bot, .bot, .bot, .bot, .bot, .bot, .bot, .bot, .bot, .bot, .bot, .bot, .bot, .bot, .bot, .bot, .bot, .ow 480, I t14, I 0, .bot, .bot, .bot, .bot, .bot, .bot, .bot, .bot, .bot, .bot, .bot, .bot, .bot, .bot, .bot, .bot, .bot, .bot, .bot, .bot, .bot, .bot, .bot, .bot, .bot, .bot, .bot, .bot, .bot, .bot, .bot, .bot, .bot, .bot, .bot, .bot, .bot, .bot, .bot, .bot, .bot, .bot, .bot, .bot, .bot], [(480, .arr 3 1 (([y4, w64 (0 - y4)]).map c3)), (16, .box [Ti f1.1, Ti f1.2.1, Ti f1.2.2])]⟩) ?_ ?_
          · refine XL_cons rfl (X_of_Y0 rfl (E_move (I y4) rfl (by kernel_rfl))) ?_
            refine XL_cons rfl (X_of_Y0 rfl (E_move (I y4) rfl (by kernel_rfl))) ?_
            refine XL_cons rfl (X_of_Y0 rfl (Y0_neg64 (a := y4) rfl (by kernel_rfl))) ?_
            refine XL_cons rfl (X_of_Y1 rfl (Y1_bslice (z := zv3) (els := [y4, w64 (0 - y4)].map c3) Tryd.underlying43 iz3 rfl (by decide) rfl (by kernel_rfl) rfl (by simp [c3]) (by decide) (by decide))) ?_
            refine XL_cons rfl (X_of_Y0 rfl (Y0_lenM (c := c3) (xs := [y4, w64 (0 - y4)]) Tryd.underlying43 rfl (by kernel_rfl))) ?_
            refine XL_cons rfl (X_of_Y0 rfl (E_move (I 0) rfl (by kernel_rfl))) ?_
            refine XL_nil ?_
            subst ht14
            kernel_rfl
          obtain ⟨o18, hLo18, h⟩ := of_bind h
          refine V_toK [false, true, true, false, false, true, true, true, false, false, false, false, false, false, false, false, false, false, false, false, false, false, false, false, false, false, false, false, false, false, false, false, false, false, false, false, false, false, false, false, false, false, false, false, false, false, false, false, false, false, false, false, false, false, false, false, false, false, false, false, false, false, false, false, false, false, false, false, false, false, false, false, false, false, false, false, false, false, false, false, false, false, false, false, false, false, false, false, false, false, false, false, false, false, false, false, false, false, false, false, false, false, false, false, false, false, false, false] [16] (s1 := ⟨[.bot, I vn2, .pt 16 0, .bot, .bot, I y3, .c (.sl (o18.map c66)), I y4, .bot, .bot, .bot, .bot, .bot, .bot, .bot, .bot, .bot, .bot, .bot, .bot, .bot, .bot, .bot, .bot, .bot, .bot, .bot, .bot, .bot, .bot, .bot, .bot, .bot, .bot, .bot, .bot, .bot, .bot, .bot, .bot, .bot, .bot, .bot, .bot, .bot, .bot, .bot, .bot, .bot, .bot, .bot, .bot, .bot, .bot, .bot, .bot, .bot, .bot, .bot, .bot, .bot, .bot, .bot, .bot, .bot, .bot, .bot, .bot, .bot, .bot, .bot, .bot, .bot, .bot, .bot, .bot, .bot, .bot, .bot, .bot, .bot, .bot, .bot, .bot, .bot, .bot, .bot, .bot, .bot, .bot, .bot, .bot, .bot, .bot, .bot, .bot, .bot, .bot, .bot, .bot, .bot, .bot, .bot, .bot, .bot, .bot, .bot, .bot], [(16, .box [Ti f1.1, Ti f1.2.1, Ti f1.2.2])]⟩) ?_ ?_
          · clear h
            refine V_block (V_loop (fun n s => ∃ (out15 : List ((Int × Int))) (t16 : Int), s.keep [false, true, true, false, false, true, true, true, true, false, false, false, false, false, false, false, false, false, false, false, false, false, false, false, false, false, false, false, false, false, false, false, false, false, false, false, false, false, false, false, false, false, false, false, false, false, false, false, false, false, false, false, false, false, false, false, false, false, false, false, true, true, true, false, false, false, false, false, false, false, false, false, false, false, false, false, false, false, false, false, false, false, false, false, false, false, false, false, false, false, false, false, false, false, false, false, false, false, false, false, false, false, false, false, false, false, false, false] [480, 16] = (⟨[.bot, I vn2, .pt 16 0, .bot, .bot, I y3, .c (.sl (out15.map c66)), I y4, I y10, .bot, .bot, .bot, .bot, .bot, .bot, .bot, .bot, .bot, .bot, .bot, .bot, .bot, .bot, .bot, .bot, .bot, .bot, .bot, .bot, .bot, .bot, .bot, .bot, .bot, .bot, .bot, .bot, .bot, .bot, .bot, .bot, .bot, .bot, .bot, .bot, .bot, .bot, .bot, .bot, .bot, .bot, .bot, .bot, .bot, .bot, .bot, .bot, .bot, .bot, .bot, .ow 480, I t14, I t16, .bot, .bot, .bot, .bot, .bot, .bot, .bot, .bot, .bot, .bot, .bot, .bot, .bot, .bot, .bot, .bot, .bot, .bot, .bot, .bot, .bot, .bot, .bot, .bot, .bot, .bot, .bot, .bot, .bot, .bot, .bot, .bot, .bot, .bot, .bot, .bot, .bot, .bot, .bot, .bot, .bot, .bot, .bot, .bot, .bot], [(480, .arr 3 1 (([y4, w64 (0 - y4)]).map c3)), (16, .box [Ti f1.1, Ti f1.2.1, Ti f1.2.2])]⟩ : St) ∧ r_spec_vaAt_L17 f1 t14 vn2 y10 y3 y4 n out15 t16 = some o18) FU ⟨_, _,  by rfl, hLo18⟩ ?_)
            clear hLo18
            rintro n s ⟨out15, t16, hs, h⟩
            refine V_keep _ _ hs ?_
            clear hs
            cases n with
            | zero => cases h
            | succ n =>
              rw [r_spec_vaAt_L17] at h
              refine V_sreg [false, true, true, false, false, true, true, true, true, false, false, false, false, false, false, false, false, false, false, false, false, false, false, false, false, false, false, false, false, false, false, false, false, false, false, false, false, false, false, false, false, false, false, false, false, false, false, false, false, false, false, false, false, false, false, false, false, false, false, false, true, true, true, true, false, false, false, false, false, false, false, false, false, false, false, false, false, false, false, false, false, false, false, false, false, false, false, false, false, false, false, false, false, false, false, false, false, false, false, false, false, false, false, false, false, false, false, false] [480, 16] (s1 := ⟨[.bot, I vn2, .pt 16 0, .bot, .bot, I y3, .c (.sl (out15.map c66)), I y4, I y10, .bot, .bot, .bot, .bot, .bot, .bot, .bot, .bot, .bot, .bot, .bot, .bot, .bot, .bot, .bot, .bot, .bot, .bot, .bot, .bot, .bot, .bot, .bot, .bot, .bot, .bot, .bot, .bot, .bot, .bot, .bot, .bot, .bot, .bot, .bot, .bot, .bot, .bot, .bot, .bot, .bot, .bot, .bot, .bot, .bot, .bot, .bot, .bot, .bot, .bot, .bot, .ow 480, I t14, I t16, Bo (ltI t16 t14), .bot, .bot, .bot, .bot, .bot, .bot, .bot, .bot, .bot, .bot, .bot, .bot, .bot, .bot, .bot, .bot, .bot, .bot, .bot, .bot, .bot, .bot, .bot, .bot, .bot, .bot, .bot, .bot, .bot, .bot, .bot, .bot, .bot, .bot, .bot, .bot, .bot, .bot, .bot, .bot, .bot, .bot, .bot, .bot], [(480, .arr 3 1 (([y4, w64 (0 - y4)]).map c3)), (16, .box [Ti f1.1, Ti f1.2.1, Ti f1.2.2])]⟩) ?_ ?_
              · refine XL_cons rfl (X_of_Y0 rfl (Y0_ltw (k := .i64) (a := t16) (b := t14) rfl (by kernel_rfl) (by kernel_rfl))) ?_
                refine XL_nil ?_
                kernel_rfl
              refine V_seq ?_
              refine V_cond rfl (fun hc19 => ?_) (fun hc19 => ?_)
              · have h := of_true h hc19
                refine V_skip ?_
                show V _ _ _ _
                refine V_seq ?_
                refine V_block ?_
                obtain ⟨e20, he20, h⟩ := of_bind h
                obtain ⟨e21, he21, h⟩ := of_bind h
                refine V_sreg [false, true, true, false, false, true, true, true, true, false, true, false, false, false, false, false, false, false, false, false, false, false, false, false, false, false, false, false, false, false, false, false, false, false, false, false, false, false, false, false, false, false, false, false, false, false, false, false, false, false, false, false, false, false, false, false, false, false, false, false, true, true, true, false, false, false, false, false, false, false, false, false, false, false, false, false, false, false, false, false, false, false, false, false, false, false, false, false, false, false, false, false, false, false, false, false, false, false, false, false, false, false, false, false, false, false, false, false] [480, 16] (s1 := ⟨[.bot, I vn2, .pt 16 0, .bot, .bot, I y3, .c (.sl (out15.map c66)), I y4, I y10, .bot, I e21, .bot, .bot, .bot, .bot, .bot, .bot, .bot, .bot, .bot, .bot, .bot, .bot, .bot, .bot, .bot, .bot, .bot, .bot, .bot, .bot, .bot, .bot, .bot, .bot, .bot, .bot, .bot, .bot, .bot, .bot, .bot, .bot, .bot, .bot, .bot, .bot, .bot, .bot, .bot, .bot, .bot, .bot, .bot, .bot, .bot, .bot, .bot, .bot, .bot, .ow 480, I t14, I t16, .bot, .bot, .bot, .bot, .bot, .bot, .bot, .bot, .bot, .bot, .bot, .bot, .bot, .bot, .bot, .bot, .bot, .bot, .bot, .bot, .bot, .bot, .bot, .bot, .bot, .bot, .bot, .bot, .bot, .bot, .bot, .bot, .bot, .bot, .bot, .bot, .bot, .bot, .bot, .bot, .bot, .bot, .bot, .bot, .bot], [(480, .arr 3 1 (([y4, w64 (0 - y4)]).map c3)), (16, .box [Ti f1.1, Ti f1.2.1, Ti f1.2.2])]⟩) ?_ ?_
                · refine XL_cons rfl (X_of_Y0 rfl (Y0_idxoM (c := c3) (xs := [y4, w64 (0 - y4)]) (v := e20) (id := 480) (T := 3) (sz := 1) (n := t16) Tryd.underlying43 sz3 rfl (by kernel_rfl) (by kernel_rfl) (by kernel_rfl) he20)) ?_
                  refine XL_cons rfl (X_of_Y0 rfl (Y0_loado1 (c := c3) (xs := [y4, w64 (0 - y4)]) (v := e21) (id := 480) (sz := 1) (T := 3) (off := 0) (n := t16) (d := Ti e21) (ds := []) sc3 rfl (by kernel_rfl) (by kernel_rfl) he21 (by kernel_rfl))) ?_
                  refine XL_cons rfl (X_of_Y0 rfl (E_assign (I e21) rfl (by kernel_rfl))) ?_
                  refine XL_nil ?_
                  kernel_rfl
                obtain ⟨t22, ht22, h⟩ := of_sI h
                refine V_sreg [false, true, true, false, false, true, true, true, true, false, true, false, false, false, false, false, false, false, false, false, false, false, false, false, false, false, false, false, false, false, false, false, false, false, false, false, false, false, false, false, false, false, false, false, false, false, false, false, false, false, false, false, false, false, false, false, false, false, false, false, true, true, true, false, false, false, false, false, false, true, true, true, false, false, false, false, false, false, false, false, false, false, false, false, false, false, false, false, false, false, false, false, false, false, false, false, false, false, false, false, false, false, false, false, false, false, false, false] [552, 480, 16] (s1 := ⟨[.bot, I vn2, .pt 16 0, .bot, .bot, I y3, .c (.sl (out15.map c66)), I y4, I y10, .bot, I e21, .bot, .bot, .bot, .bot, .bot, .bot, .bot, .bot, .bot, .bot, .bot, .bot, .bot, .bot, .bot, .bot, .bot, .bot, .bot, .bot, .bot, .bot, .bot, .bot, .bot, .bot, .bot, .bot, .bot, .bot, .bot, .bot, .bot, .bot, .bot, .bot, .bot, .bot, .bot, .bot, .bot, .bot, .bot, .bot, .bot, .bot, .bot, .bot, .bot, .ow 480, I t14, I t16, .bot, .bot, .bot, .bot, .bot, .bot, .ow 552, I t22, I 0, .bot, .bot, .bot, .bot, .bot, .bot, .bot, .bot, .bot, .bot, .bot, .bot, .bot, .bot, .bot, .bot, .bot, .bot, .bot, .bot, .bot, .bot, .bot, .bot, .bot, .bot, .bot, .bot, .bot, .bot, .bot, .bot, .bot, .bot, .bot, .bot], [(552, .arr 3 1 (([y10, w64 (0 - y10)]).map c3)), (480, .arr 3 1 (([y4, w64 (0 - y4)]).map c3)), (16, .box [Ti f1.1, Ti f1.2.1, Ti f1.2.2])]⟩) ?_ ?_
                · refine XL_cons rfl (X_of_Y0 rfl (E_move (I y10) rfl (by kernel_rfl))) ?_
                  refine XL_cons rfl (X_of_Y0 rfl (E_move (I y10) rfl (by kernel_rfl))) ?_
                  refine XL_cons rfl (X_of_Y0 rfl (Y0_neg64 (a := y10) rfl (by kernel_rfl))) ?_
                  refine XL_cons rfl (X_of_Y1 rfl (Y1_bslice (z := zv3) (els := [y10, w64 (0 - y10)].map c3) Tryd.underlying43 iz3 rfl (by decide) rfl (by kernel_rfl) rfl (by simp [c3]) (by decide) (by decide))) ?_
                  refine XL_cons rfl (X_of_Y0 rfl (Y0_lenM (c := c3) (xs := [y10, w64 (0 - y10)]) Tryd.underlying43 rfl (by kernel_rfl))) ?_
                  refine XL_cons rfl (X_of_Y0 rfl (E_move (I 0) rfl (by kernel_rfl))) ?_
                  refine XL_nil ?_
                  subst ht22
                  kernel_rfl
                obtain ⟨o26, hLo26, h⟩ := of_bind h
                refine V_toK [false, true, true, false, false, true, true, true, true, false, false, false, false, false, false, false, false, false, false, false, false, false, false, false, false, false, false, false, false, false, false, false, false, false, false, false, false, false, false, false, false, false, false, false, false, false, false, false, false, false, false, false, false, false, false, false, false, false, false, false, true, true, true, false, false, false, false, false, false, false, false, false, false, false, false, false, false, false, false, false, false, false, false, false, false, false, false, false, false, false, false, false, false, false, false, false, false, false, false, false, false, false, false, false, false, false, false, false] [480, 16] (s1 := ⟨[.bot, I vn2, .pt 16 0, .bot, .bot, I y3, .c (.sl (o26.map c66)), I y4, I y10, .bot, .bot, .bot, .bot, .bot, .bot, .bot, .bot, .bot, .bot, .bot, .bot, .bot, .bot, .bot, .bot, .bot, .bot, .bot, .bot, .bot, .bot, .bot, .bot, .bot, .bot, .bot, .bot, .bot, .bot, .bot, .bot, .bot, .bot, .bot, .bot, .bot, .bot, .bot, .bot, .bot, .bot, .bot, .bot, .bot, .bot, .bot, .bot, .bot, .bot, .bot, .ow 480, I t14, I t16, .bot, .bot, .bot, .bot, .bot, .bot, .bot, .bot, .bot, .bot, .bot, .bot, .bot, .bot, .bot, .bot, .bot, .bot, .bot, .bot, .bot, .bot, .bot, .bot, .bot, .bot, .bot, .bot, .bot, .bot, .bot, .bot, .bot, .bot, .bot, .bot, .bot, .bot, .bot, .bot, .bot, .bot, .bot, .bot, .bot], [(480, .arr 3 1 (([y4, w64 (0 - y4)]).map c3)), (16, .box [Ti f1.1, Ti f1.2.1, Ti f1.2.2])]⟩) ?_ ?_
                · clear h
                  refine V_block (V_loop (fun n s => ∃ (out23 : List ((Int × Int))) (t24 : Int), s.keep [false, true, true, false, false, true, true, true, true, false, true, false, false, false, false, false, false, false, false, false, false, false, false, false, false, false, false, false, false, false, false, false, false, false, false, false, false, false, false, false, false, false, false, false, false, false, false, false, false, false, false, false, false, false, false, false, false, false, false, false, true, true, true, false, false, false, false, false, false, true, true, true, false, false, false, false, false, false, false, false, false, false, false, false, false, false, false, false, false, false, false, false, false, false, false, false, false, false, false, false, false, false, false, false, false, false, false, false] [552, 480, 16] = (⟨[.bot, I vn2, .pt 16 0, .bot, .bot, I y3, .c (.sl (out23.map c66)), I y4, I y10, .bot, I e21, .bot, .bot, .bot, .bot, .bot, .bot, .bot, .bot, .bot, .bot, .bot, .bot, .bot, .bot, .bot, .bot, .bot, .bot, .bot, .bot, .bot, .bot, .bot, .bot, .bot, .bot, .bot, .bot, .bot, .bot, .bot, .bot, .bot, .bot, .bot, .bot, .bot, .bot, .bot, .bot, .bot, .bot, .bot, .bot, .bot, .bot, .bot, .bot, .bot, .ow 480, I t14, I t16, .bot, .bot, .bot, .bot, .bot, .bot, .ow 552, I t22, I t24, .bot, .bot, .bot, .bot, .bot, .bot, .bot, .bot, .bot, .bot, .bot, .bot, .bot, .bot, .bot, .bot, .bot, .bot, .bot, .bot, .bot, .bot, .bot, .bot, .bot, .bot, .bot, .bot, .bot, .bot, .bot, .bot, .bot, .bot, .bot, .bot], [(552, .arr 3 1 (([y10, w64 (0 - y10)]).map c3)), (480, .arr 3 1 (([y4, w64 (0 - y4)]).map c3)), (16, .box [Ti f1.1, Ti f1.2.1, Ti f1.2.2])]⟩ : St) ∧ r_spec_vaAt_L25 e21 f1 t14 t16 t22 vn2 y10 y3 y4 n out23 t24 = some o26) FU ⟨_, _,  by rfl, hLo26⟩ ?_)
                  clear hLo26
                  rintro n s ⟨out23, t24, hs, h⟩
                  refine V_keep _ _ hs ?_
                  clear hs
                  cases n with
                  | zero => cases h
                  | succ n =>
                    rw [r_spec_vaAt_L25] at h
                    refine V_sreg [false, true, true, false, false, true, true, true, true, false, true, false, false, false, false, false, false, false, false, false, false, false, false, false, false, false, false, false, false, false, false, false, false, false, false, false, false, false, false, false, false, false, false, false, false, false, false, false, false, false, false, false, false, false, false, false, false, false, false, false, true, true, true, false, false, false, false, false, false, true, true, true, true, false, false, false, false, false, false, false, false, false, false, false, false, false, false, false, false, false, false, false, false, false, false, false, false, false, false, false, false, false, false, false, false, false, false, false] [552, 480, 16] (s1 := ⟨[.bot, I vn2, .pt 16 0, .bot, .bot, I y3, .c (.sl (out23.map c66)), I y4, I y10, .bot, I e21, .bot, .bot, .bot, .bot, .bot, .bot, .bot, .bot, .bot, .bot, .bot, .bot, .bot, .bot, .bot, .bot, .bot, .bot, .bot, .bot, .bot, .bot, .bot, .bot, .bot, .bot, .bot, .bot, .bot, .bot, .bot, .bot, .bot, .bot, .bot, .bot, .bot, .bot, .bot, .bot, .bot, .bot, .bot, .bot, .bot, .bot, .bot, .bot, .bot, .ow 480, I t14, I t16, .bot, .bot, .bot, .bot, .bot, .bot, .ow 552, I t22, I t24, Bo (ltI t24 t22), .bot, .bot, .bot, .bot, .bot, .bot, .bot, .bot, .bot, .bot, .bot, .bot, .bot, .bot, .bot, .bot, .bot, .bot, .bot, .bot, .bot, .bot, .bot, .bot, .bot, .bot, .bot, .bot, .bot, .bot, .bot, .bot, .bot, .bot, .bot], [(552, .arr 3 1 (([y10, w64 (0 - y10)]).map c3)), (480, .arr 3 1 (([y4, w64 (0 - y4)]).map c3)), (16, .box [Ti f1.1, Ti f1.2.1, Ti f1.2.2])]⟩) ?_ ?_
                    · refine XL_cons rfl (X_of_Y0 rfl (Y0_ltw (k := .i64) (a := t24) (b := t22) rfl (by kernel_rfl) (by kernel_rfl))) ?_
                      refine XL_nil ?_
                      kernel_rfl
                    refine V_seq ?_
                    refine V_cond rfl (fun hc27 => ?_) (fun hc27 => ?_)
                    · have h := of_true h hc27
                      refine V_skip ?_
                      show V _ _ _ _
                      refine V_seq ?_
                      refine V_block ?_
                      obtain ⟨e28, he28, h⟩ := of_bind h
                      obtain ⟨e29, he29, h⟩ := of_bind h
                      refine V_sreg [false, true, true, false, false, true, true, true, true, false, true, false, true, false, false, false, false, false, false, false, false, false, false, false, false, false, false, false, false, false, false, false, false, false, false, false, false, false, false, false, false, false, false, false, false, false, false, false, false, false, false, false, false, false, false, false, false, false, false, false, true, true, true, false, false, false, false, false, false, true, true, true, false, false, false, false, false, false, false, false, false, false, false, false, false, false, false, false, false, false, false, false, false, false, false, false, false, false, false, false, false, false, false, false, false, false, false, false] [552, 480, 16] (s1 := ⟨[.bot, I vn2, .pt 16 0, .bot, .bot, I y3, .c (.sl (out23.map c66)), I y4, I y10, .bot, I e21, .bot, I e29, .bot, .bot, .bot, .bot, .bot, .bot, .bot, .bot, .bot, .bot, .bot, .bot, .bot, .bot, .bot, .bot, .bot, .bot, .bot, .bot, .bot, .bot, .bot, .bot, .bot, .bot, .bot, .bot, .bot, .bot, .bot, .bot, .bot, .bot, .bot, .bot, .bot, .bot, .bot, .bot, .bot, .bot, .bot, .bot, .bot, .bot, .bot, .ow 480, I t14, I t16, .bot, .bot, .bot, .bot, .bot, .bot, .ow 552, I t22, I t24, .bot, .bot, .bot, .bot, .bot, .bot, .bot, .bot, .bot, .bot, .bot, .bot, .bot, .bot, .bot, .bot, .bot, .bot, .bot, .bot, .bot, .bot, .bot, .bot, .bot, .bot, .bot, .bot, .bot, .bot, .bot, .bot, .bot, .bot, .bot, .bot], [(552, .arr 3 1 (([y10, w64 (0 - y10)]).map c3)), (480, .arr 3 1 (([y4, w64 (0 - y4)]).map c3)), (16, .box [Ti f1.1, Ti f1.2.1, Ti f1.2.2])]⟩) ?_ ?_
                      · refine XL_cons rfl (X_of_Y0 rfl (Y0_idxoM (c := c3) (xs := [y10, w64 (0 - y10)]) (v := e28) (id := 552) (T := 3) (sz := 1) (n := t24) Tryd.underlying43 sz3 rfl (by kernel_rfl) (by kernel_rfl) (by kernel_rfl) he28)) ?_
                        refine XL_cons rfl (X_of_Y0 rfl (Y0_loado1 (c := c3) (xs := [y10, w64 (0 - y10)]) (v := e29) (id := 552) (sz := 1) (T := 3) (off := 0) (n := t24) (d := Ti e29) (ds := []) sc3 rfl (by kernel_rfl) (by kernel_rfl) he29 (by kernel_rfl))) ?_
                        refine XL_cons rfl (X_of_Y0 rfl (E_assign (I e29) rfl (by kernel_rfl))) ?_
                        refine XL_nil ?_
                        kernel_rfl
                      obtain ⟨z30, hz30, h⟩ := of_bind h
                      obtain ⟨t31, ht31, h⟩ := of_bind h
                      have ht31 := some_inj ht31
                      refine V_sreg [false, true, true, false, false, true, true, true, true, false, true, false, true, false, false, false, false, false, false, false, false, false, false, false, false, false, false, false, false, false, false, false, false, false, false, false, false, false, false, false, false, false, false, false, false, false, false, false, false, false, false, false, false, false, false, false, false, false, false, false, true, true, true, false, false, false, false, false, false, true, true, true, false, false, false, false, false, false, false, false, false, false, false, false, false, true, false, false, false, false, false, false, false, false, false, false, false, false, false, false, false, false, false, false, false, false, false, false] [552, 480, 16] (s1 := ⟨[.bot, I vn2, .pt 16 0, .bot, .bot, I y3, .c (.sl (out23.map c66)), I y4, I y10, .bot, I e21, .bot, I e29, .bot, .bot, .bot, .bot, .bot, .bot, .bot, .bot, .bot, .bot, .bot, .bot, .bot, .bot, .bot, .bot, .bot, .bot, .bot, .bot, .bot, .bot, .bot, .bot, .bot, .bot, .bot, .bot, .bot, .bot, .bot, .bot, .bot, .bot, .bot, .bot, .bot, .bot, .bot, .bot, .bot, .bot, .bot, .bot, .bot, .bot, .bot, .ow 480, I t14, I t16, .bot, .bot, .bot, .bot, .bot, .bot, .ow 552, I t22, I t24, .bot, .bot, .bot, .bot, .bot, .bot, .bot, .bot, .bot, .bot, .bot, .bot, .bot, Bo t31, .bot, .bot, .bot, .bot, .bot, .bot, .bot, .bot, .bot, .bot, .bot, .bot, .bot, .bot, .bot, .bot, .bot, .bot, .bot, .bot, .bot, .bot], [(552, .arr 3 1 (([y10, w64 (0 - y10)]).map c3)), (480, .arr 3 1 (([y4, w64 (0 - y4)]).map c3)), (16, .box [Ti f1.1, Ti f1.2.1, Ti f1.2.2])]⟩) ?_ ?_
                      · refine XL_cons rfl (X_of_Y0 rfl (E_move (I e29) rfl (by kernel_rfl))) ?_
                        refine XL_cons rfl (X_of_Y0 rfl (E_field (.pt 16 1) Tryd.underlying33 rfl sz3 rfl (by kernel_rfl) (by intro hh; cases hh))) ?_
                        refine XL_cons rfl (X_of_Y0 rfl (Y0_load1 (c := Ti f1.2.1) (cs := [Ti f1.2.2]) sc3 rfl (by kernel_rfl))) ?_
                        refine XL_cons rfl (X_of_Y0 rfl (E_move (I e21) rfl (by kernel_rfl))) ?_
                        refine XL_cons rfl (X_of_Y0 rfl (Y0_mul64 (a := f1.2.1) (b := e21) rfl (by kernel_rfl) (by kernel_rfl))) ?_
                        refine XL_cons rfl (X_of_Y0 rfl (Y0_sub64 (a := e29) (b := w64 (f1.2.1 * e21)) rfl (by kernel_rfl) (by kernel_rfl))) ?_
                        refine XL_cons rfl (X_of_Y0 rfl (E_field (.pt 16 0) Tryd.underlying33 rfl sz3 rfl (by kernel_rfl) (by intro hh; cases hh))) ?_
                        refine XL_cons rfl (X_of_Y0 rfl (Y0_load1 (c := Ti f1.1) (cs := [Ti f1.2.1, Ti f1.2.2]) sc3 rfl (by kernel_rfl))) ?_
                        refine XL_cons rfl (X_of_Y0 rfl (Y0_mul64 (a := 2) (b := f1.1) rfl (by kernel_rfl) (by kernel_rfl))) ?_
                        refine XL_cons rfl (X_of_Y0 rfl (Y0_rem (k := .i64) (a := w64 (e29 - (w64 (f1.2.1 * e21)))) (b := w64 (2 * f1.1)) rfl (by kernel_rfl) (by kernel_rfl) (nz_some hz30))) ?_
                        refine XL_cons rfl (X_of_Y0 rfl (Y0_eqw (k := .i64) (a := Int.tmod (w64 (e29 - (w64 (f1.2.1 * e21)))) (w64 (2 * f1.1))) (b := 0) rfl (by kernel_rfl) (by kernel_rfl))) ?_
                        refine XL_nil ?_
                        subst ht31
                        kernel_rfl
                      refine V_cond rfl (fun hc32 => ?_) (fun hc32 => ?_)
                      · have h := of_true h hc32
                        obtain ⟨z33, hz33, h⟩ := of_bind h
                        obtain ⟨f34, hf34, h⟩ := of_sI h
                        refine V_sreg [false, true, true, false, false, true, true, true, true, false, true, false, false, true, false, false, false, false, false, false, false, false, false, false, false, false, false, false, false, false, false, false, false, false, false, false, false, false, false, false, false, false, false, false, false, false, false, false, false, false, false, false, false, false, false, false, false, false, false, false, true, true, true, false, false, false, false, false, false, true, true, true, false, false, false, false, false, false, false, false, false, false, false, false, false, false, false, false, false, false, false, false, false, false, false, false, false, false, false, false, false, false, false, false, false, false, false, false] [104, 552, 480, 16] (s1 := ⟨[.bot, I vn2, .pt 16 0, .bot, .bot, I y3, .c (.sl (out23.map c66)), I y4, I y10, .bot, I e21, .bot, .bot, .pt 104 0, .bot, .bot, .bot, .bot, .bot, .bot, .bot, .bot, .bot, .bot, .bot, .bot, .bot, .bot, .bot, .bot, .bot, .bot, .bot, .bot, .bot, .bot, .bot, .bot, .bot, .bot, .bot, .bot, .bot, .bot, .bot, .bot, .bot, .bot, .bot, .bot, .bot, .bot, .bot, .bot, .bot, .bot, .bot, .bot, .bot, .bot, .ow 480, I t14, I t16, .bot, .bot, .bot, .bot, .bot, .bot, .ow 552, I t22, I t24, .bot, .bot, .bot, .bot, .bot, .bot, .bot, .bot, .bot, .bot, .bot, .bot, .bot, .bot, .bot, .bot, .bot, .bot, .bot, .bot, .bot, .bot, .bot, .bot, .bot, .bot, .bot, .bot, .bot, .bot, .bot, .bot, .bot, .bot, .bot, .bot], [(104, .box [Ti f34, Ti e21]), (552, .arr 3 1 (([y10, w64 (0 - y10)]).map c3)), (480, .arr 3 1 (([y4, w64 (0 - y4)]).map c3)), (16, .box [Ti f1.1, Ti f1.2.1, Ti f1.2.2])]⟩) ?_ ?_
                        · refine XL_cons rfl (X_of_Y0 rfl (E_move (I e29) rfl (by kernel_rfl))) ?_
                          refine XL_cons rfl (X_of_Y0 rfl (E_field (.pt 16 1) Tryd.underlying33 rfl sz3 rfl (by kernel_rfl) (by intro hh; cases hh))) ?_
                          refine XL_cons rfl (X_of_Y0 rfl (Y0_load1 (c := Ti f1.2.1) (cs := [Ti f1.2.2]) sc3 rfl (by kernel_rfl))) ?_
                          refine XL_cons rfl (X_of_Y0 rfl (E_move (I e21) rfl (by kernel_rfl))) ?_
                          refine XL_cons rfl (X_of_Y0 rfl (Y0_mul64 (a := f1.2.1) (b := e21) rfl (by kernel_rfl) (by kernel_rfl))) ?_
                          refine XL_cons rfl (X_of_Y0 rfl (Y0_sub64 (a := e29) (b := w64 (f1.2.1 * e21)) rfl (by kernel_rfl) (by kernel_rfl))) ?_
                          refine XL_cons rfl (X_of_Y0 rfl (E_field (.pt 16 0) Tryd.underlying33 rfl sz3 rfl (by kernel_rfl) (by intro hh; cases hh))) ?_
                          refine XL_cons rfl (X_of_Y0 rfl (Y0_load1 (c := Ti f1.1) (cs := [Ti f1.2.1, Ti f1.2.2]) sc3 rfl (by kernel_rfl))) ?_
                          refine XL_cons rfl (X_of_Y0 rfl (Y0_mul64 (a := 2) (b := f1.1) rfl (by kernel_rfl) (by kernel_rfl))) ?_
                          refine XL_cons rfl (X_of_Y0 rfl (Y0_quo64 (a := w64 (e29 - (w64 (f1.2.1 * e21)))) (b := w64 (2 * f1.1)) rfl (by kernel_rfl) (by kernel_rfl) (nz_some hz33))) ?_
                          refine XL_cons rfl (X_of_Y0 rfl (E_move (I e21) rfl (by kernel_rfl))) ?_
                          refine XL_cons rfl (X_of_Y0 rfl (Y0_build (cs := [Ti (w64 (Int.tdiv (w64 (e29 - (w64 (f1.2.1 * e21)))) (w64 (2 * f1.1)))), Ti e21]) pl66 bt66 rfl rfl (by kernel_rfl))) ?_
                          refine XL_cons rfl (X_of_Y1 rfl (Y1_alloc (z := zv66) rfl zf66 rfl)) ?_
                          refine XL_cons rfl (E_store (id := 104) (off := 0) (cs := [Ti 0, Ti 0]) (vc := [Ti (w64 (Int.tdiv (w64 (e29 - (w64 (f1.2.1 * e21)))) (w64 (2 * f1.1)))), Ti e21]) [Ti (w64 (Int.tdiv (w64 (e29 - (w64 (f1.2.1 * e21)))) (w64 (2 * f1.1)))), Ti e21] rfl rfl (by kernel_rfl) (by kernel_rfl) (by kernel_rfl) sz66 (Nat.le_of_ble_eq_true rfl) (by kernel_rfl)) ?_
                          refine XL_nil ?_
                          subst hf34
                          kernel_rfl
                        obtain ⟨y35, hy35, h⟩ := of_bind h
                        refine V_sreg [false, true, true, false, false, true, true, true, true, false, true, false, false, true, false, false, false, false, false, false, false, false, false, false, false, false, false, false, false, false, false, false, false, false, false, false, false, false, false, false, false, false, false, false, false, false, false, false, false, false, false, false, false, false, false, false, false, false, false, false, true, true, true, false, false, false, false, false, false, true, true, true, false, false, false, false, false, false, false, false, false, false, false, false, false, false, false, false, false, false, false, false, false, false, false, false, false, false, false, false, false, true, false, false, false, false, false, false] [104, 552, 480, 16] (s1 := ⟨[.bot, I vn2, .pt 16 0, .bot, .bot, I y3, .c (.sl (out23.map c66)), I y4, I y10, .bot, I e21, .bot, .bot, .pt 104 0, .bot, .bot, .bot, .bot, .bot, .bot, .bot, .bot, .bot, .bot, .bot, .bot, .bot, .bot, .bot, .bot, .bot, .bot, .bot, .bot, .bot, .bot, .bot, .bot, .bot, .bot, .bot, .bot, .bot, .bot, .bot, .bot, .bot, .bot, .bot, .bot, .bot, .bot, .bot, .bot, .bot, .bot, .bot, .bot, .bot, .bot, .ow 480, I t14, I t16, .bot, .bot, .bot, .bot, .bot, .bot, .ow 552, I t22, I t24, .bot, .bot, .bot, .bot, .bot, .bot, .bot, .bot, .bot, .bot, .bot, .bot, .bot, .bot, .bot, .bot, .bot, .bot, .bot, .bot, .bot, .bot, .bot, .bot, .bot, .bot, .bot, .bot, .bot, Bo (!y35), .bot, .bot, .bot, .bot, .bot, .bot], [(104, .box [Ti f34, Ti e21]), (552, .arr 3 1 (([y10, w64 (0 - y10)]).map c3)), (480, .arr 3 1 (([y4, w64 (0 - y4)]).map c3)), (16, .box [Ti f1.1, Ti f1.2.1, Ti f1.2.2])]⟩) ?_ ?_
                        · refine XL_cons rfl (X_of_Y0 rfl (E_move (.c (.sl (out23.map c66))) rfl (by kernel_rfl))) ?_
                          refine XL_cons rfl (X_of_Y0 rfl (E_loadn (cs := [Ti f34, Ti e21]) [Ti f34, Ti e21] wd66 rfl (by kernel_rfl) (Nat.le_of_ble_eq_true rfl) (by kernel_rfl))) ?_
                          refine XL_cons rfl (X_of_Y1 rfl (Y1_call (s_spec_vaHas hy35) cf_spec_vaHas rfl (by kernel_rfl))) ?_
                          refine XL_cons rfl (X_of_Y0 rfl (Y0_not (b := y35) rfl (by kernel_rfl))) ?_
                          refine XL_nil ?_
                          kernel_rfl
                        refine V_cond rfl (fun hc36 => ?_) (fun hc36 => ?_)
                        · have h := of_true h hc36
                          obtain ⟨y37, hy37, h⟩ := of_bind h
                          refine V_post_frz 832 (T := 66) (sz := 2) (els := y37.map c66) (s1 := ⟨[.bot, I vn2, .pt 16 0, .bot, .bot, I y3, .ow 832, I y4, I y10, .bot, I e21, .bot, .bot, .bot, .bot, .bot, .bot, .bot, .bot, .bot, .bot, .bot, .bot, .bot, .bot, .bot, .bot, .bot, .bot, .bot, .bot, .bot, .bot, .bot, .bot, .bot, .bot, .bot, .bot, .bot, .bot, .bot, .bot, .bot, .bot, .bot, .bot, .bot, .bot, .bot, .bot, .bot, .bot, .bot, .bot, .bot, .bot, .bot, .bot, .bot, .ow 480, I t14, I t16, .bot, .bot, .bot, .bot, .bot, .bot, .ow 552, I t22, I t24, .bot, .bot, .bot, .bot, .bot, .bot, .bot, .bot, .bot, .bot, .bot, .bot, .bot, .bot, .bot, .bot, .bot, .bot, .bot, .bot, .bot, .bot, .bot, .bot, .bot, .bot, .bot, .bot, .bot, .bot, .bot, .bot, .bot, .bot, .bot, .bot], [(832, .arr 66 2 (y37.map c66)), (552, .arr 3 1 (([y10, w64 (0 - y10)]).map c3)), (480, .arr 3 1 (([y4, w64 (0 - y4)]).map c3)), (16, .box [Ti f1.1, Ti f1.2.1, Ti f1.2.2])]⟩) (s2 := ⟨[.bot, I vn2, .pt 16 0, .bot, .bot, I y3, .c (.sl (y37.map c66)), I y4, I y10, .bot, I e21, .bot, .bot, .bot, .bot, .bot, .bot, .bot, .bot, .bot, .bot, .bot, .bot, .bot, .bot, .bot, .bot, .bot, .bot, .bot, .bot, .bot, .bot, .bot, .bot, .bot, .bot, .bot, .bot, .bot, .bot, .bot, .bot, .bot, .bot, .bot, .bot, .bot, .bot, .bot, .bot, .bot, .bot, .bot, .bot, .bot, .bot, .bot, .bot, .bot, .ow 480, I t14, I t16, .bot, .bot, .bot, .bot, .bot, .bot, .ow 552, I t22, I t24, .bot, .bot, .bot, .bot, .bot, .bot, .bot, .bot, .bot, .bot, .bot, .bot, .bot, .bot, .bot, .bot, .bot, .bot, .bot, .bot, .bot, .bot, .bot, .bot, .bot, .bot, .bot, .bot, .bot, .bot, .bot, .bot, .bot, .bot, .bot, .bot], [(552, .arr 3 1 (([y10, w64 (0 - y10)]).map c3)), (480, .arr 3 1 (([y4, w64 (0 - y4)]).map c3)), (16, .box [Ti f1.1, Ti f1.2.1, Ti f1.2.2])]⟩) (by kernel_rfl) (by kernel_rfl) ?_ ?_
                          · refine V_reg [false, true, true, false, false, true, true, true, true, false, true, false, false, false, false, false, false, false, false, false, false, false, false, false, false, false, false, false, false, false, false, false, false, false, false, false, false, false, false, false, false, false, false, false, false, false, false, false, false, false, false, false, false, false, false, false, false, false, false, false, true, true, true, false, false, false, false, false, false, true, true, true, false, false, false, false, false, false, false, false, false, false, false, false, false, false, false, false, false, false, false, false, false, false, false, false, false, false, false, false, false, false, false, false, false, false, false, false] [832, 552, 480, 16] (s1 := ⟨[.bot, I vn2, .pt 16 0, .bot, .bot, I y3, .ow 832, I y4, I y10, .bot, I e21, .bot, .bot, .bot, .bot, .bot, .bot, .bot, .bot, .bot, .bot, .bot, .bot, .bot, .bot, .bot, .bot, .bot, .bot, .bot, .bot, .bot, .bot, .bot, .bot, .bot, .bot, .bot, .bot, .bot, .bot, .bot, .bot, .bot, .bot, .bot, .bot, .bot, .bot, .bot, .bot, .bot, .bot, .bot, .bot, .bot, .bot, .bot, .bot, .bot, .ow 480, I t14, I t16, .bot, .bot, .bot, .bot, .bot, .bot, .ow 552, I t22, I t24, .bot, .bot, .bot, .bot, .bot, .bot, .bot, .bot, .bot, .bot, .bot, .bot, .bot, .bot, .bot, .bot, .bot, .bot, .bot, .bot, .bot, .bot, .bot, .bot, .bot, .bot, .bot, .bot, .bot, .bot, .bot, .bot, .bot, .bot, .bot, .bot], [(832, .arr 66 2 (y37.map c66)), (552, .arr 3 1 (([y10, w64 (0 - y10)]).map c3)), (480, .arr 3 1 (([y4, w64 (0 - y4)]).map c3)), (16, .box [Ti f1.1, Ti f1.2.1, Ti f1.2.2])]⟩) ?_ ?_
                            · refine XL_cons rfl (X_of_Y0 rfl (E_move (.c (.sl (out23.map c66))) rfl (by kernel_rfl))) ?_
                              refine XL_cons rfl (X_of_Y0 rfl (E_loadn (cs := [Ti f34, Ti e21]) [Ti f34, Ti e21] wd66 rfl (by kernel_rfl) (Nat.le_of_ble_eq_true rfl) (by kernel_rfl))) ?_
                              refine XL_cons rfl (X_of_Y1 rfl (Y1_call (s_spec_vaPut hy37) cf_spec_vaPut rfl (by kernel_rfl))) ?_
                              refine XL_cons rfl (X_of_Y0 rfl (E_assign (.ow 832) rfl (by kernel_rfl))) ?_
                              refine XL_nil ?_
                              kernel_rfl
                            exact ⟨rfl, rfl⟩
                          show V _ _ _ _
                          obtain ⟨t38, ht38, h⟩ := of_sI h
                          refine V_reg [false, true, true, false, false, true, true, true, true, false, true, false, false, false, false, false, false, false, false, false, false, false, false, false, false, false, false, false, false, false, false, false, false, false, false, false, false, false, false, false, false, false, false, false, false, false, false, false, false, false, false, false, false, false, false, false, false, false, false, false, true, true, true, false, false, false, false, false, false, true, true, true, false, false, false, false, false, false, false, false, false, false, false, false, false, false, false, false, false, false, false, false, false, false, false, false, false, false, false, false, false, false, false, false, false, false, false, false] [552, 480, 16] (s1 := ⟨[.bot, I vn2, .pt 16 0, .bot, .bot, I y3, .c (.sl (y37.map c66)), I y4, I y10, .bot, I e21, .bot, .bot, .bot, .bot, .bot, .bot, .bot, .bot, .bot, .bot, .bot, .bot, .bot, .bot, .bot, .bot, .bot, .bot, .bot, .bot, .bot, .bot, .bot, .bot, .bot, .bot, .bot, .bot, .bot, .bot, .bot, .bot, .bot, .bot, .bot, .bot, .bot, .bot, .bot, .bot, .bot, .bot, .bot, .bot, .bot, .bot, .bot, .bot, .bot, .ow 480, I t14, I t16, .bot, .bot, .bot, .bot, .bot, .bot, .ow 552, I t22, I t38, .bot, .bot, .bot, .bot, .bot, .bot, .bot, .bot, .bot, .bot, .bot, .bot, .bot, .bot, .bot, .bot, .bot, .bot, .bot, .bot, .bot, .bot, .bot, .bot, .bot, .bot, .bot, .bot, .bot, .bot, .bot, .bot, .bot, .bot, .bot, .bot], [(552, .arr 3 1 (([y10, w64 (0 - y10)]).map c3)), (480, .arr 3 1 (([y4, w64 (0 - y4)]).map c3)), (16, .box [Ti f1.1, Ti f1.2.1, Ti f1.2.2])]⟩) ?_ ?_
                          · refine XL_cons rfl (X_of_Y0 rfl (Y0_add64 (a := t24) (b := 1) rfl (by kernel_rfl) (by kernel_rfl))) ?_
                            refine XL_cons rfl (X_of_Y0 rfl (E_move (I (w64 (t24 + 1))) rfl (by kernel_rfl))) ?_
                            refine XL_nil ?_
                            subst ht38
                            kernel_rfl
                          exact ⟨n, Nat.lt_succ_self n, _, _,  by rfl, h⟩
                        · have h := of_false h hc36
                          refine V_skip ?_
                          show V _ _ _ _
                          obtain ⟨t39, ht39, h⟩ := of_sI h
                          refine V_reg [false, true, true, false, false, true, true, true, true, false, true, false, false, false, false, false, false, false, false, false, false, false, false, false, false, false, false, false, false, false, false, false, false, false, false, false, false, false, false, false, false, false, false, false, false, false, false, false, false, false, false, false, false, false, false, false, false, false, false, false, true, true, true, false, false, false, false, false, false, true, true, true, false, false, false, false, false, false, false, false, false, false, false, false, false, false, false, false, false, false, false, false, false, false, false, false, false, false, false, false, false, false, false, false, false, false, false, false] [552, 480, 16] (s1 := ⟨[.bot, I vn2, .pt 16 0, .bot, .bot, I y3, .c (.sl (out23.map c66)), I y4, I y10, .bot, I e21, .bot, .bot, .bot, .bot, .bot, .bot, .bot, .bot, .bot, .bot, .bot, .bot, .bot, .bot, .bot, .bot, .bot, .bot, .bot, .bot, .bot, .bot, .bot, .bot, .bot, .bot, .bot, .bot, .bot, .bot, .bot, .bot, .bot, .bot, .bot, .bot, .bot, .bot, .bot, .bot, .bot, .bot, .bot, .bot, .bot, .bot, .bot, .bot, .bot, .ow 480, I t14, I t16, .bot, .bot, .bot, .bot, .bot, .bot, .ow 552, I t22, I t39, .bot, .bot, .bot, .bot, .bot, .bot, .bot, .bot, .bot, .bot, .bot, .bot, .bot, .bot, .bot, .bot, .bot, .bot, .bot, .bot, .bot, .bot, .bot, .bot, .bot, .bot, .bot, .bot, .bot, .bot, .bot, .bot, .bot, .bot, .bot, .bot], [(552, .arr 3 1 (([y10, w64 (0 - y10)]).map c3)), (480, .arr 3 1 (([y4, w64 (0 - y4)]).map c3)), (16, .box [Ti f1.1, Ti f1.2.1, Ti f1.2.2])]⟩) ?_ ?_
                          · refine XL_cons rfl (X_of_Y0 rfl (Y0_add64 (a := t24) (b := 1) rfl (by kernel_rfl) (by kernel_rfl))) ?_
                            refine XL_cons rfl (X_of_Y0 rfl (E_move (I (w64 (t24 + 1))) rfl (by kernel_rfl))) ?_
                            refine XL_nil ?_
                            subst ht39
                            kernel_rfl
                          exact ⟨n, Nat.lt_succ_self n, _, _,  by rfl, h⟩
                      · have h := of_false h hc32
                        refine V_skip ?_
                        show V _ _ _ _
                        obtain ⟨t40, ht40, h⟩ := of_sI h
                        refine V_reg [false, true, true, false, false, true, true, true, true, false, true, false, false, false, false, false, false, false, false, false, false, false, false, false, false, false, false, false, false, false, false, false, false, false, false, false, false, false, false, false, false, false, false, false, false, false, false, false, false, false, false, false, false, false, false, false, false, false, false, false, true, true, true, false, false, false, false, false, false, true, true, true, false, false, false, false, false, false, false, false, false, false, false, false, false, false, false, false, false, false, false, false, false, false, false, false, false, false, false, false, false, false, false, false, false, false, false, false] [552, 480, 16] (s1 := ⟨[.bot, I vn2, .pt 16 0, .bot, .bot, I y3, .c (.sl (out23.map c66)), I y4, I y10, .bot, I e21, .bot, .bot, .bot, .bot, .bot, .bot, .bot, .bot, .bot, .bot, .bot, .bot, .bot, .bot, .bot, .bot, .bot, .bot, .bot, .bot, .bot, .bot, .bot, .bot, .bot, .bot, .bot, .bot, .bot, .bot, .bot, .bot, .bot, .bot, .bot, .bot, .bot, .bot, .bot, .bot, .bot, .bot, .bot, .bot, .bot, .bot, .bot, .bot, .bot, .ow 480, I t14, I t16, .bot, .bot, .bot, .bot, .bot, .bot, .ow 552, I t22, I t40, .bot, .bot, .bot, .bot, .bot, .bot, .bot, .bot, .bot, .bot, .bot, .bot, .bot, .bot, .bot, .bot, .bot, .bot, .bot, .bot, .bot, .bot, .bot, .bot, .bot, .bot, .bot, .bot, .bot, .bot, .bot, .bot, .bot, .bot, .bot, .bot], [(552, .arr 3 1 (([y10, w64 (0 - y10)]).map c3)), (480, .arr 3 1 (([y4, w64 (0 - y4)]).map c3)), (16, .box [Ti f1.1, Ti f1.2.1, Ti f1.2.2])]⟩) ?_ ?_
                        · refine XL_cons rfl (X_of_Y0 rfl (Y0_add64 (a := t24) (b := 1) rfl (by kernel_rfl) (by kernel_rfl))) ?_
                          refine XL_cons rfl (X_of_Y0 rfl (E_move (I (w64 (t24 + 1))) rfl (by kernel_rfl))) ?_
                          refine XL_nil ?_
                          subst ht40
                          kernel_rfl
                        exact ⟨n, Nat.lt_succ_self n, _, _,  by rfl, h⟩
                    · have h := of_false h hc27
                      refine V_exit ?_
                      obtain rfl := some_inj h
                      show St.keep _ _ _ = _
                      rfl
                show V _ _ _ _
                obtain ⟨t41, ht41, h⟩ := of_sI h
                refine V_reg [false, true, true, false, false, true, true, true, true, false, false, false, false, false, false, false, false, false, false, false, false, false, false, false, false, false, false, false, false, false, false, false, false, false, false, false, false, false, false, false, false, false, false, false, false, false, false, false, false, false, false, false, false, false, false, false, false, false, false, false, true, true, true, false, false, false, false, false, false, false, false, false, false, false, false, false, false, false, false, false, false, false, false, false, false, false, false, false, false, false, false, false, false, false, false, false, false, false, false, false, false, false, false, false, false, false, false, false] [480, 16] (s1 := ⟨[.bot, I vn2, .pt 16 0, .bot, .bot, I y3, .c (.sl (o26.map c66)), I y4, I y10, .bot, .bot, .bot, .bot, .bot, .bot, .bot, .bot, .bot, .bot, .bot, .bot, .bot, .bot, .bot, .bot, .bot, .bot, .bot, .bot, .bot, .bot, .bot, .bot, .bot, .bot, .bot, .bot, .bot, .bot, .bot, .bot, .bot, .bot, .bot, .bot, .bot, .bot, .bot, .bot, .bot, .bot, .bot, .bot, .bot, .bot, .bot, .bot, .bot, .bot, .bot, .ow 480, I t14, I t41, .bot, .bot, .bot, .bot, .bot, .bot, .bot, .bot, .bot, .bot, .bot, .bot, .bot, .bot, .bot, .bot, .bot, .bot, .bot, .bot, .bot, .bot, .bot, .bot, .bot, .bot, .bot, .bot, .bot, .bot, .bot, .bot, .bot, .bot, .bot, .bot, .bot, .bot, .bot, .bot, .bot, .bot, .bot, .bot, .bot], [(480, .arr 3 1 (([y4, w64 (0 - y4)]).map c3)), (16, .box [Ti f1.1, Ti f1.2.1, Ti f1.2.2])]⟩) ?_ ?_
                · refine XL_cons rfl (X_of_Y0 rfl (Y0_add64 (a := t16) (b := 1) rfl (by kernel_rfl) (by kernel_rfl))) ?_
                  refine XL_cons rfl (X_of_Y0 rfl (E_move (I (w64 (t16 + 1))) rfl (by kernel_rfl))) ?_
                  refine XL_nil ?_
                  subst ht41
                  kernel_rfl
                exact ⟨n, Nat.lt_succ_self n, _, _,  by rfl, h⟩
              · have h := of_false h hc19
                refine V_exit ?_
                obtain rfl := some_inj h
                show St.keep _ _ _ = _
                rfl
          show V _ _ _ _
          obtain ⟨y42, hy42, h⟩ := of_sI h
          refine V_reg [false, true, true, false, false, true, true, true, false, false, false, false, false, false, false, false, false, false, false, false, false, false, false, false, false, false, false, false, false, false, false, false, false, false, false, false, false, false, false, false, false, false, false, false, false, false, false, false, false, false, false, false, false, false, false, false, false, false, false, false, false, false, false, false, false, false, false, false, false, false, false, false, false, false, false, false, false, false, false, false, false, false, false, false, false, false, false, false, false, false, false, false, false, false, false, false, false, false, false, false, false, false, false, false, false, false, false, false] [16] (s1 := ⟨[.bot, I vn2, .pt 16 0, .bot, .bot, I y3, .c (.sl (o18.map c66)), I y42, .bot, .bot, .bot, .bot, .bot, .bot, .bot, .bot, .bot, .bot, .bot, .bot, .bot, .bot, .bot, .bot, .bot, .bot, .bot, .bot, .bot, .bot, .bot, .bot, .bot, .bot, .bot, .bot, .bot, .bot, .bot, .bot, .bot, .bot, .bot, .bot, .bot, .bot, .bot, .bot, .bot, .bot, .bot, .bot, .bot, .bot, .bot, .bot, .bot, .bot, .bot, .bot, .bot, .bot, .bot, .bot, .bot, .bot, .bot, .bot, .bot, .bot, .bot, .bot, .bot, .bot, .bot, .bot, .bot, .bot, .bot, .bot, .bot, .bot, .bot, .bot, .bot, .bot, .bot, .bot, .bot, .bot, .bot, .bot, .bot, .bot, .bot, .bot, .bot, .bot, .bot, .bot, .bot, .bot, .bot, .bot, .bot, .bot, .bot, .bot], [(16, .box [Ti f1.1, Ti f1.2.1, Ti f1.2.2])]⟩) ?_ ?_
          · refine XL_cons rfl (X_of_Y0 rfl (E_move (I y4) rfl (by kernel_rfl))) ?_
            refine XL_cons rfl (X_of_Y0 rfl (Y0_add64 (a := y4) (b := 1) rfl (by kernel_rfl) (by kernel_rfl))) ?_
            refine XL_cons rfl (X_of_Y0 rfl (E_assign (I (w64 (y4 + 1))) rfl (by kernel_rfl))) ?_
            refine XL_nil ?_
            subst hy42
            kernel_rfl
          exact ⟨n, Nat.lt_succ_self n, _, _,  by rfl, h⟩
      · have h := of_false h hc9
        refine V_exit ?_
        obtain rfl := some_inj h
        show St.keep _ _ _ = _
        rfl
  show V _ _ _ _
  refine V_sreg [false, false, false, false, true, false, false, false, false, false, false, false, false, false, false, false, false, false, false, false, false, false, false, false, false, false, false, false, false, false, false, false, false, false, false, false, false, false, false, false, false, false, false, false, false, false, false, false, false, false, false, false, false, false, false, false, false, false, false, false, false, false, false, false, false, false, false, false, false, false, false, false, false, false, false, false, false, false, false, false, false, false, false, false, false, false, false, false, false, false, false, false, false, false, false, false, false, false, false, false, false, false, false, false, false, false, false, false] [] (s1 := ⟨[.bot, .bot, .bot, .bot, .c (.sl (o7.map c66)), .bot, .bot, .bot, .bot, .bot, .bot, .bot, .bot, .bot, .bot, .bot, .bot, .bot, .bot, .bot, .bot, .bot, .bot, .bot, .bot, .bot, .bot, .bot, .bot, .bot, .bot, .bot, .bot, .bot, .bot, .bot, .bot, .bot, .bot, .bot, .bot, .bot, .bot, .bot, .bot, .bot, .bot, .bot, .bot, .bot, .bot, .bot, .bot, .bot, .bot, .bot, .bot, .bot, .bot, .bot, .bot, .bot, .bot, .bot, .bot, .bot, .bot, .bot, .bot, .bot, .bot, .bot, .bot, .bot, .bot, .bot, .bot, .bot, .bot, .bot, .bot, .bot, .bot, .bot, .bot, .bot, .bot, .bot, .bot, .bot, .bot, .bot, .bot, .bot, .bot, .bot, .bot, .bot, .bot, .bot, .bot, .bot, .bot, .bot, .bot, .bot, .bot, .bot], []⟩) ?_ ?_
  · refine XL_cons rfl (X_of_Y0 rfl (E_move (.c (.sl (o7.map c66))) rfl (by kernel_rfl))) ?_
    refine XL_cons rfl (X_of_Y0 rfl (E_assign (.c (.sl (o7.map c66))) rfl (by kernel_rfl))) ?_
    refine XL_nil ?_
    kernel_rfl
  refine V_ret ?_
  obtain rfl := some_inj h
  show Post _ _ _ _ _
  exact ⟨.inr rfl, rfl, rfl, rfl⟩
theorem cf_spec_l1Most : ∀ args w, (callFunc 177 args).run Tryd.prog w = .ok (.enter 177 args) w := run_callFunc Tryd.func177 (by kernel_rfl) (by kernel_rfl)
set_option maxRecDepth 100000 in
set_option maxHeartbeats 400000 in
theorem s_spec_l1Most {a1 : Int} {b2 : Int} {r : Int} (h : r_spec_l1Most a1 b2 = some r) : CallS Tryd.prog 177 [I a1, I b2] (I r) [] := by
  refine CallS_of_text (rs := [.t 4]) (vs := [.tmp 4]) Tryd.func177 rfl rfl (.cons rfl FitsL.nil) (by decide) 10 rfl ?_
  unfold r_spec_l1Most at h
  show V _ _ ⟨[I a1, I b2, .bot, .bot, .bot, .bot, .bot, .bot, .bot, .bot], []⟩ _
  refine V_sreg [true, true, false, false, false, false, false, false, false, false] [] (s1 := ⟨[I a1, I b2, .bot, .bot, .bot, .bot, .bot, .bot, .bot, .bot], []⟩) ?_ ?_
  · refine XL_cons rfl (X_of_Y0 rfl (E_assign (I 0) rfl (by kernel_rfl))) ?_
    refine XL_nil ?_
    kernel_rfl
  refine V_seq ?_
  refine V_sreg [true, true, false, false, false, false, false, true, false, false] [] (s1 := ⟨[I a1, I b2, .bot, .bot, .bot, .bot, .bot, Bo (ltI b2 a1), .bot, .bot], []⟩) ?_ ?_
  · refine XL_cons rfl (X_of_Y0 rfl (E_move (I a1) rfl (by kernel_rfl))) ?_
    refine XL_cons rfl (X_of_Y0 rfl (E_move (I b2) rfl (by kernel_rfl))) ?_
    refine XL_cons rfl (X_of_Y0 rfl (Y0_gtw (k := .i64) (a := a1) (b := b2) rfl (by kernel_rfl) (by kernel_rfl))) ?_
    refine XL_nil ?_
    kernel_rfl
  refine V_cond rfl (fun hc3 => ?_) (fun hc3 => ?_)
  · have h := of_true h hc3
    refine V_sreg [false, false, false, false, true, false, false, false, false, false] [] (s1 := ⟨[.bot, .bot, .bot, .bot, I a1, .bot, .bot, .bot, .bot, .bot], []⟩) ?_ ?_
    · refine XL_cons rfl (X_of_Y0 rfl (E_move (I a1) rfl (by kernel_rfl))) ?_
      refine XL_cons rfl (X_of_Y0 rfl (E_assign (I a1) rfl (by kernel_rfl))) ?_
      refine XL_nil ?_
      kernel_rfl
    refine V_ret ?_
    obtain rfl := some_inj h
    show Post _ _ _ _ _
    exact ⟨.inr rfl, rfl, rfl, rfl⟩
  · have h := of_false h hc3
    refine V_skip ?_
    show V _ _ _ _
    refine V_sreg [false, false, false, false, true, false, false, false, false, false] [] (s1 := ⟨[.bot, .bot, .bot, .bot, I b2, .bot, .bot, .bot, .bot, .bot], []⟩) ?_ ?_
    · refine XL_cons rfl (X_of_Y0 rfl (E_move (I b2) rfl (by kernel_rfl))) ?_
      refine XL_cons rfl (X_of_Y0 rfl (E_assign (I b2) rfl (by kernel_rfl))) ?_
      refine XL_nil ?_
      kernel_rfl
    refine V_ret ?_
    obtain rfl := some_inj h
    show Post _ _ _ _ _
    exact ⟨.inr rfl, rfl, rfl, rfl⟩
theorem cf_spec_l1Abs : ∀ args w, (callFunc 151 args).run Tryd.prog w = .ok (.enter 151 args) w := run_callFunc Tryd.func151 (by kernel_rfl) (by kernel_rfl)
set_option maxRecDepth 100000 in
set_option maxHeartbeats 400000 in
theorem s_spec_l1Abs {vn1 : Int} {r : Int} (h : r_spec_l1Abs vn1 = some r) : CallS Tryd.prog 151 [I vn1] (I r) [] := by
  refine CallS_of_text (rs := [.t 2]) (vs := [.tmp 2]) Tryd.func151 rfl rfl (.cons rfl FitsL.nil) (by decide) 7 rfl ?_
  unfold r_spec_l1Abs at h
  show V _ _ ⟨[I vn1, .bot, .bot, .bot, .bot, .bot, .bot], []⟩ _
  refine V_sreg [true, false, false, false, false, false, false] [] (s1 := ⟨[I vn1, .bot, .bot, .bot, .bot, .bot, .bot], []⟩) ?_ ?_
  · refine XL_cons rfl (X_of_Y0 rfl (E_assign (I 0) rfl (by kernel_rfl))) ?_
    refine XL_nil ?_
    kernel_rfl
  obtain ⟨y2, hy2, h⟩ := of_bind h
  refine V_sreg [false, false, true, false, false, false, false] [] (s1 := ⟨[.bot, .bot, I y2, .bot, .bot, .bot, .bot], []⟩) ?_ ?_
  · refine XL_cons rfl (X_of_Y0 rfl (E_move (I vn1) rfl (by kernel_rfl))) ?_
    refine XL_cons rfl (X_of_Y0 rfl (E_move (I vn1) rfl (by kernel_rfl))) ?_
    refine XL_cons rfl (X_of_Y0 rfl (Y0_neg64 (a := vn1) rfl (by kernel_rfl))) ?_
    refine XL_cons rfl (X_of_Y1 rfl (Y1_call (s_spec_l1Most hy2) cf_spec_l1Most rfl (by kernel_rfl))) ?_
    refine XL_cons rfl (X_of_Y0 rfl (E_assign (I y2) rfl (by kernel_rfl))) ?_
    refine XL_nil ?_
    kernel_rfl
  refine V_ret ?_
  obtain rfl := some_inj h
  show Post _ _ _ _ _
  exact ⟨.inr rfl, rfl, rfl, rfl⟩
theorem cf_spec_nuGcd : ∀ args w, (callFunc 140 args).run Tryd.prog w = .ok (.enter 140 args) w := run_callFunc Tryd.func140 (by kernel_rfl) (by kernel_rfl)
set_option maxRecDepth 100000 in
set_option maxHeartbeats 400000 in
theorem s_spec_nuGcd {a1 : Int} {b2 : Int} {r : Int} (h : r_spec_nuGcd a1 b2 = some r) : CallS Tryd.prog 140 [I a1, I b2] (I r) [] := by
  refine CallS_of_text (rs := [.t 4]) (vs := [.tmp 4]) Tryd.func140 rfl rfl (.cons rfl FitsL.nil) (by decide) 16 rfl ?_
  unfold r_spec_nuGcd at h
  show V _ _ ⟨[I a1, I b2, .bot, .bot, .bot, .bot, .bot, .bot, .bot, .bot, .bot, .bot, .bot, .bot, .bot, .bot], []⟩ _
  refine V_sreg [true, true, false, false, false, false, false, false, false, false, false, false, false, false, false, false] [] (s1 := ⟨[I a1, I b2, .bot, .bot, .bot, .bot, .bot, .bot, .bot, .bot, .bot, .bot, .bot, .bot, .bot, .bot], []⟩) ?_ ?_
  · refine XL_cons rfl (X_of_Y0 rfl (E_assign (I 0) rfl (by kernel_rfl))) ?_
    refine XL_nil ?_
    kernel_rfl
  obtain ⟨y3, hy3, h⟩ := of_bind h
  obtain ⟨y4, hy4, h⟩ := of_bind h
  refine V_sreg [true, true, false, false, false, false, false, false, false, false, false, false, false, false, false, false] [] (s1 := ⟨[I y3, I y4, .bot, .bot, .bot, .bot, .bot, .bot, .bot, .bot, .bot, .bot, .bot, .bot, .bot, .bot], []⟩) ?_ ?_
  · refine XL_cons rfl (X_of_Y0 rfl (E_move (I a1) rfl (by kernel_rfl))) ?_
    refine XL_cons rfl (X_of_Y1 rfl (Y1_call (s_spec_l1Abs hy3) cf_spec_l1Abs rfl (by kernel_rfl))) ?_
    refine XL_cons rfl (X_of_Y0 rfl (E_move (I b2) rfl (by kernel_rfl))) ?_
    refine XL_cons rfl (X_of_Y1 rfl (Y1_call (s_spec_l1Abs hy4) cf_spec_l1Abs rfl (by kernel_rfl))) ?_
    refine XL_cons rfl (X_of_Y0 rfl (E_assign (I y3) rfl (by kernel_rfl))) ?_
    refine XL_cons rfl (X_of_Y0 rfl (E_assign (I y4) rfl (by kernel_rfl))) ?_
    refine XL_nil ?_
    kernel_rfl
  refine V_seq ?_
  obtain ⟨o8, hLo8, h⟩ := of_bind h
  refine V_toK [true, false, false, false, false, false, false, false, false, false, false, false, false, false, false, false] [] (s1 := ⟨[I o8, .bot, .bot, .bot, .bot, .bot, .bot, .bot, .bot, .bot, .bot, .bot, .bot, .bot, .bot, .bot], []⟩) ?_ ?_
  · clear h
    refine V_block (V_loop (fun n s => ∃ (a5 : Int) (b6 : Int), s.keep [true, true, false, false, false, false, false, false, false, false, false, false, false, false, false, false] [] = (⟨[I a5, I b6, .bot, .bot, .bot, .bot, .bot, .bot, .bot, .bot, .bot, .bot, .bot, .bot, .bot, .bot], []⟩ : St) ∧ r_spec_nuGcd_L7 n a5 b6 = some o8) FU ⟨_, _,  by rfl, hLo8⟩ ?_)
    clear hLo8
    rintro n s ⟨a5, b6, hs, h⟩
    refine V_keep _ _ hs ?_
    clear hs
    cases n with
    | zero => cases h
    | succ n =>
      rw [r_spec_nuGcd_L7] at h
      refine V_seq ?_
      refine V_sreg [true, true, false, false, false, false, false, false, false, false, true, false, false, false, false, false] [] (s1 := ⟨[I a5, I b6, .bot, .bot, .bot, .bot, .bot, .bot, .bot, .bot, Bo (!eqI b6 0), .bot, .bot, .bot, .bot, .bot], []⟩) ?_ ?_
      · refine XL_cons rfl (X_of_Y0 rfl (E_move (I b6) rfl (by kernel_rfl))) ?_
        refine XL_cons rfl (X_of_Y0 rfl (Y0_new (k := .i64) (a := b6) (b := 0) rfl (by kernel_rfl) (by kernel_rfl))) ?_
        refine XL_nil ?_
        kernel_rfl
      refine V_cond rfl (fun hc9 => ?_) (fun hc9 => ?_)
      · have h := of_true h hc9
        refine V_skip ?_
        show V _ _ _ _
        refine V_block ?_
        obtain ⟨z10, hz10, h⟩ := of_bind h
        obtain ⟨b11, hb11, h⟩ := of_sI h
        refine V_dreg [0, 0, 0, 6, 3, 31] 6 [[.z, .b, .b, .b, .z, .z], [.b, .z, .b, .z, .z, .z], [.b, .b, .z, .z, .b, .z], [.b, .a, .a, .z, .b, .z], [.a, .a, .b, .b, .z, .z], [.a, .a, .a, .a, .a, .z]] [true, true, false, false, false, false, false, false, false, false, false, false, false, false, false, false] [] (s1 := ⟨[I b6, I b11, .bot, .bot, .bot, .bot, .bot, .bot, .bot, .bot, .bot, .bot, .bot, .bot, .bot, .bot], []⟩) (by kernel_rfl) (by kernel_rfl) ?_ ?_
        · refine DE_0 0 (I b6) (by kernel_rfl) rfl rfl rfl (gsat_none rfl) (by kernel_rfl) (E_move (I b6) rfl (by kernel_rfl)) 11 rfl ?_
          refine DE_0 1 (I a5) (by kernel_rfl) rfl rfl rfl (gsat_none rfl) (by kernel_rfl) (E_move (I a5) rfl (by kernel_rfl)) 12 rfl ?_
          refine DE_0 2 (I b6) (by kernel_rfl) rfl rfl rfl (gsat_none rfl) (by kernel_rfl) (E_move (I b6) rfl (by kernel_rfl)) 13 rfl ?_
          refine DE_0 3 (I (Int.tmod a5 b6)) (by kernel_rfl) rfl rfl rfl (gsat_none rfl) (by kernel_rfl) (Y0_rem (k := .i64) (a := a5) (b := b6) rfl (by kernel_rfl) (by kernel_rfl) (nz_some hz10)) 14 rfl ?_
          refine DE_0 4 (I b6) (by kernel_rfl) rfl rfl rfl (gsat_none rfl) (by kernel_rfl) (E_assign (I b6) rfl (by kernel_rfl)) 0 rfl ?_
          refine DE_0 5 (I (Int.tmod a5 b6)) (by kernel_rfl) rfl rfl rfl (gsat_none rfl) (by kernel_rfl) (E_assign (I (Int.tmod a5 b6)) rfl (by kernel_rfl)) 1 rfl ?_
          refine DL_nil (by kernel_rfl) ?_
          refine XL_nil ?_
          subst hb11
          kernel_rfl
        exact ⟨n, Nat.lt_succ_self n, _, _,  by rfl, h⟩
      · have h := of_false h hc9
        refine V_exit ?_
        obtain rfl := some_inj h
        show St.keep _ _ _ = _
        rfl
  show V _ _ _ _
  refine V_sreg [false, false, false, false, true, false, false, false, false, false, false, false, false, false, false, false] [] (s1 := ⟨[.bot, .bot, .bot, .bot, I o8, .bot, .bot, .bot, .bot, .bot, .bot, .bot, .bot, .bot, .bot, .bot], []⟩) ?_ ?_
  · refine XL_cons rfl (X_of_Y0 rfl (E_move (I o8) rfl (by kernel_rfl))) ?_
    refine XL_cons rfl (X_of_Y0 rfl (E_assign (I o8) rfl (by kernel_rfl))) ?_
    refine XL_nil ?_
    kernel_rfl
  refine V_ret ?_
  obtain rfl := some_inj h
  show Post _ _ _ _ _
  exact ⟨.inr rfl, rfl, rfl, rfl⟩
theorem cf_spec_vaPrimitive : ∀ args w, (callFunc 95 args).run Tryd.prog w = .ok (.enter 95 args) w := run_callFunc Tryd.func95 (by kernel_rfl) (by kernel_rfl)
set_option maxRecDepth 100000 in
set_option maxHeartbeats 400000 in
theorem s_spec_vaPrimitive {l1 : List ((Int × Int))} {r : List ((Int × Int))} (h : r_spec_vaPrimitive l1 = some r) : CallS Tryd.prog 95 [.c (.sl (l1.map c66))] (.ow 0) [(0, .arr 66 2 (r.map c66))] := by
  refine CallS_of_text (rs := [.t 2]) (vs := [.tmp 2]) Tryd.func95 rfl rfl (.cons rfl FitsL.nil) (by decide) 24 rfl ?_
  unfold r_spec_vaPrimitive at h
  show V _ _ ⟨[.c (.sl (l1.map c66)), .bot, .bot, .bot, .bot, .bot, .bot, .bot, .bot, .bot, .bot, .bot, .bot, .bot, .bot, .bot, .bot, .bot, .bot, .bot, .bot, .bot, .bot, .bot], []⟩ _
  refine V_sreg [true, false, false, false, false, false, false, false, false, false, false, false, false, false, false, false, false, false, false, false, false, false, false, false] [] (s1 := ⟨[.c (.sl (l1.map c66)), .bot, .bot, .bot, .bot, .bot, .bot, .bot, .bot, .bot, .bot, .bot, .bot, .bot, .bot, .bot, .bot, .bot, .bot, .bot, .bot, .bot, .bot, .bot], []⟩) ?_ ?_
  · refine XL_cons rfl (X_of_Y1 rfl (Y1_nil (e := 66) 2 (by decide) (.inl rfl))) ?_
    refine XL_nil ?_
    kernel_rfl
  refine V_sreg [true, false, false, true, false, false, false, false, false, false, false, false, false, false, false, false, false, false, false, false, false, false, false, false] [24] (s1 := ⟨[.c (.sl (l1.map c66)), .bot, .bot, .ow 24, .bot, .bot, .bot, .bot, .bot, .bot, .bot, .bot, .bot, .bot, .bot, .bot, .bot, .bot, .bot, .bot, .bot, .bot, .bot, .bot], [(24, .arr 66 2 ((([] : List ((Int × Int)))).map c66))]⟩) ?_ ?_
  · refine XL_cons rfl (X_of_Y1 rfl (Y1_nil (e := 66) 2 (by decide) (.inl rfl))) ?_
    refine XL_nil ?_
    kernel_rfl
  refine V_seq ?_
  refine V_sreg [false, false, false, true, false, false, true, true, true, false, false, false, false, false, false, false, false, false, false, false, false, false, false, false] [24] (s1 := ⟨[.bot, .bot, .bot, .ow 24, .bot, .bot, .c (.sl (l1.map c66)), I ((l1.length : Int)), I 0, .bot, .bot, .bot, .bot, .bot, .bot, .bot, .bot, .bot, .bot, .bot, .bot, .bot, .bot, .bot], [(24, .arr 66 2 ((([] : List ((Int × Int)))).map c66))]⟩) ?_ ?_
  · refine XL_cons rfl (X_of_Y0 rfl (E_move (.c (.sl (l1.map c66))) rfl (by kernel_rfl))) ?_
    refine XL_cons rfl (X_of_Y0 rfl (Y0_lenM (c := c66) (xs := l1) Tryd.underlying62 rfl (by kernel_rfl))) ?_
    refine XL_cons rfl (X_of_Y0 rfl (E_move (I 0) rfl (by kernel_rfl))) ?_
    refine XL_nil ?_
    kernel_rfl
  obtain ⟨o5, hLo5, h⟩ := of_bind h
  refine V_toK [false, false, false, true, false, false, false, false, false, false, false, false, false, false, false, false, false, false, false, false, false, false, false, false] [24] (s1 := ⟨[.bot, .bot, .bot, .ow 24, .bot, .bot, .bot, .bot, .bot, .bot, .bot, .bot, .bot, .bot, .bot, .bot, .bot, .bot, .bot, .bot, .bot, .bot, .bot, .bot], [(24, .arr 66 2 (o5.map c66))]⟩) ?_ ?_
  · clear h
    refine V_block (V_loop (fun n s => ∃ (t2 : Int) (l3 : List ((Int × Int))), s.keep [false, false, false, true, false, false, true, true, true, false, false, false, false, false, false, false, false, false, false, false, false, false, false, false] [24] = (⟨[.bot, .bot, .bot, .ow 24, .bot, .bot, .c (.sl (l1.map c66)), I ((l1.length : Int)), I t2, .bot, .bot, .bot, .bot, .bot, .bot, .bot, .bot, .bot, .bot, .bot, .bot, .bot, .bot, .bot], [(24, .arr 66 2 (l3.map c66))]⟩ : St) ∧ r_spec_vaPrimitive_L4 l1 n t2 l3 = some o5) FU ⟨_, _,  by rfl, hLo5⟩ ?_)
    clear hLo5
    rintro n s ⟨t2, l3, hs, h⟩
    refine V_keep _ _ hs ?_
    clear hs
    cases n with
    | zero => cases h
    | succ n =>
      rw [r_spec_vaPrimitive_L4] at h
      refine V_sreg [false, false, false, true, false, false, true, true, true, true, false, false, false, false, false, false, false, false, false, false, false, false, false, false] [24] (s1 := ⟨[.bot, .bot, .bot, .ow 24, .bot, .bot, .c (.sl (l1.map c66)), I ((l1.length : Int)), I t2, Bo (ltI t2 ((l1.length : Int))), .bot, .bot, .bot, .bot, .bot, .bot, .bot, .bot, .bot, .bot, .bot, .bot, .bot, .bot], [(24, .arr 66 2 (l3.map c66))]⟩) ?_ ?_
      · refine XL_cons rfl (X_of_Y0 rfl (Y0_ltw (k := .i64) (a := t2) (b := (l1.length : Int)) rfl (by kernel_rfl) (by kernel_rfl))) ?_
        refine XL_nil ?_
        kernel_rfl
      refine V_seq ?_
      refine V_cond rfl (fun hc6 => ?_) (fun hc6 => ?_)
      · have h := of_true h hc6
        refine V_skip ?_
        show V _ _ _ _
        refine V_seq ?_
        refine V_block ?_
        obtain ⟨e7, he7, h⟩ := of_bind h
        refine V_sreg [false, false, false, true, false, true, true, true, true, false, false, false, false, false, false, false, false, false, false, false, false, false, false, false] [40, 24] (s1 := ⟨[.bot, .bot, .bot, .ow 24, .bot, .pt 40 0, .c (.sl (l1.map c66)), I ((l1.length : Int)), I t2, .bot, .bot, .bot, .bot, .bot, .bot, .bot, .bot, .bot, .bot, .bot, .bot, .bot, .bot, .bot], [(40, .box [Ti e7.1, Ti e7.2]), (24, .arr 66 2 (l3.map c66))]⟩) ?_ ?_
        · refine XL_cons rfl (X_of_Y0 rfl (Y0_idxM (c := c66) (xs := l1) (v := e7) (n := t2) Tryd.underlying62 sz66 rfl (by kernel_rfl) (by kernel_rfl) he7)) ?_
          refine XL_cons rfl (X_of_Y0 rfl (E_loadn (cs := [Ti e7.1, Ti e7.2]) [Ti e7.1, Ti e7.2] wd66 rfl (by kernel_rfl) (Nat.le_of_ble_eq_true rfl) (by kernel_rfl))) ?_
          refine XL_cons rfl (X_of_Y1 rfl (Y1_alloc (z := zv66) rfl zf66 rfl)) ?_
          refine XL_cons rfl (E_store (id := 40) (off := 0) (cs := [Ti 0, Ti 0]) (vc := [Ti e7.1, Ti e7.2]) [Ti e7.1, Ti e7.2] rfl rfl (by kernel_rfl) (by kernel_rfl) (by kernel_rfl) sz66 (Nat.le_of_ble_eq_true rfl) (by kernel_rfl)) ?_
          refine XL_nil ?_
          kernel_rfl
        obtain ⟨y8, hy8, h⟩ := of_bind h
        refine V_sreg [false, false, false, true, false, true, true, true, true, false, false, false, false, false, false, false, false, true, false, false, false, false, false, false] [40, 24] (s1 := ⟨[.bot, .bot, .bot, .ow 24, .bot, .pt 40 0, .c (.sl (l1.map c66)), I ((l1.length : Int)), I t2, .bot, .bot, .bot, .bot, .bot, .bot, .bot, .bot, Bo (eqI y8 1), .bot, .bot, .bot, .bot, .bot, .bot], [(40, .box [Ti e7.1, Ti e7.2]), (24, .arr 66 2 (l3.map c66))]⟩) ?_ ?_
        · refine XL_cons rfl (X_of_Y0 rfl (E_field (.pt 40 0) Tryd.underlying66 rfl sz3 rfl (by kernel_rfl) (by intro hh; cases hh))) ?_
          refine XL_cons rfl (X_of_Y0 rfl (Y0_load1 (c := Ti e7.1) (cs := [Ti e7.2]) sc3 rfl (by kernel_rfl))) ?_
          refine XL_cons rfl (X_of_Y0 rfl (E_field (.pt 40 1) Tryd.underlying66 rfl sz3 rfl (by kernel_rfl) (by intro hh; cases hh))) ?_
          refine XL_cons rfl (X_of_Y0 rfl (Y0_load1 (c := Ti e7.2) (cs := []) sc3 rfl (by kernel_rfl))) ?_
          refine XL_cons rfl (X_of_Y1 rfl (Y1_call (s_spec_nuGcd hy8) cf_spec_nuGcd rfl (by kernel_rfl))) ?_
          refine XL_cons rfl (X_of_Y0 rfl (Y0_eqw (k := .i64) (a := y8) (b := 1) rfl (by kernel_rfl) (by kernel_rfl))) ?_
          refine XL_nil ?_
          kernel_rfl
        refine V_cond rfl (fun hc9 => ?_) (fun hc9 => ?_)
        · have h := of_true h hc9
          obtain ⟨u10, hu10, h⟩ := of_bind h
          refine V_reg [false, false, false, true, false, false, true, true, true, false, false, false, false, false, false, false, false, false, false, false, false, false, false, false] [24] (s1 := ⟨[.bot, .bot, .bot, .ow 24, .bot, .bot, .c (.sl (l1.map c66)), I ((l1.length : Int)), I t2, .bot, .bot, .bot, .bot, .bot, .bot, .bot, .bot, .bot, .bot, .bot, .bot, .bot, .bot, .bot], [(24, .arr 66 2 ((l3 ++ ([e7])).map c66))]⟩) ?_ ?_
          · refine XL_cons rfl (X_of_Y0 rfl (E_move (.ow 24) rfl (by kernel_rfl))) ?_
            refine XL_cons rfl (X_of_Y0 rfl (E_loadn (cs := [Ti e7.1, Ti e7.2]) [Ti e7.1, Ti e7.2] wd66 rfl (by kernel_rfl) (Nat.le_of_ble_eq_true rfl) (by kernel_rfl))) ?_
            refine XL_cons rfl (X_of_Y1 rfl (Y1_bslice (z := zv66) (els := [e7].map c66) Tryd.underlying62 iz66 rfl (by decide) rfl (by kernel_rfl) rfl (by simp [c66]) (by decide) (by decide))) ?_
            refine XL_cons rfl (X_appendM (c := c66) (xs := l3) (ys := [e7]) (id := 24) (z := zv66) rfl rfl Tryd.underlying62 izb66 rfl (by kernel_rfl) (by kernel_rfl) (by kernel_rfl) (fun _ => rfl) (by simp) (room_some hu10) (by decide)) ?_
            refine XL_cons rfl (X_of_Y0 rfl (E_assign (.ow 24) rfl (by kernel_rfl))) ?_
            refine XL_nil ?_
            kernel_rfl
          show V _ _ _ _
          obtain ⟨t11, ht11, h⟩ := of_sI h
          refine V_reg [false, false, false, true, false, false, true, true, true, false, false, false, false, false, false, false, false, false, false, false, false, false, false, false] [24] (s1 := ⟨[.bot, .bot, .bot, .ow 24, .bot, .bot, .c (.sl (l1.map c66)), I ((l1.length : Int)), I t11, .bot, .bot, .bot, .bot, .bot, .bot, .bot, .bot, .bot, .bot, .bot, .bot, .bot, .bot, .bot], [(24, .arr 66 2 ((l3 ++ ([e7])).map c66))]⟩) ?_ ?_
          · refine XL_cons rfl (X_of_Y0 rfl (Y0_add64 (a := t2) (b := 1) rfl (by kernel_rfl) (by kernel_rfl))) ?_
            refine XL_cons rfl (X_of_Y0 rfl (E_move (I (w64 (t2 + 1))) rfl (by kernel_rfl))) ?_
            refine XL_nil ?_
            subst ht11
            kernel_rfl
          exact ⟨n, Nat.lt_succ_self n, _, _,  by rfl, h⟩
        · have h := of_false h hc9
          refine V_skip ?_
          show V _ _ _ _
          obtain ⟨t12, ht12, h⟩ := of_sI h
          refine V_reg [false, false, false, true, false, false, true, true, true, false, false, false, false, false, false, false, false, false, false, false, false, false, false, false] [24] (s1 := ⟨[.bot, .bot, .bot, .ow 24, .bot, .bot, .c (.sl (l1.map c66)), I ((l1.length : Int)), I t12, .bot, .bot, .bot, .bot, .bot, .bot, .bot, .bot, .bot, .bot, .bot, .bot, .bot, .bot, .bot], [(24, .arr 66 2 (l3.map c66))]⟩) ?_ ?_
          · refine XL_cons rfl (X_of_Y0 rfl (Y0_add64 (a := t2) (b := 1) rfl (by kernel_rfl) (by kernel_rfl))) ?_
            refine XL_cons rfl (X_of_Y0 rfl (E_move (I (w64 (t2 + 1))) rfl (by kernel_rfl))) ?_
            refine XL_nil ?_
            subst ht12
            kernel_rfl
          exact ⟨n, Nat.lt_succ_self n, _, _,  by rfl, h⟩
      · have h := of_false h hc6
        refine V_exit ?_
        obtain rfl := some_inj h
        show St.keep _ _ _ = _
        rfl
  show V _ _ _ _
  refine V_sreg [false, false, true, false, false, false, false, false, false, false, false, false, false, false, false, false, false, false, false, false, false, false, false, false] [24] (s1 := ⟨[.bot, .bot, .ow 24, .bot, .bot, .bot, .bot, .bot, .bot, .bot, .bot, .bot, .bot, .bot, .bot, .bot, .bot, .bot, .bot, .bot, .bot, .bot, .bot, .bot], [(24, .arr 66 2 (o5.map c66))]⟩) ?_ ?_
  · refine XL_cons rfl (X_of_Y0 rfl (E_move (.ow 24) rfl (by kernel_rfl))) ?_
    refine XL_cons rfl (X_of_Y0 rfl (E_assign (.ow 24) rfl (by kernel_rfl))) ?_
    refine XL_nil ?_
    kernel_rfl
  refine V_ret ?_
  obtain rfl := some_inj h
  show Post _ _ _ _ _
  exact ⟨.inr rfl, rfl, rfl, rfl⟩
theorem cf_spec_PrimitivePoints : ∀ args w, (callFunc 52 args).run Tryd.prog w = .ok (.enter 52 args) w := run_callFunc Tryd.func52 (by kernel_rfl) (by kernel_rfl)
set_option maxRecDepth 100000 in
set_option maxHeartbeats 400000 in
theorem s_spec_PrimitivePoints {f1 : (Int × Int × Int)} {vn2 : Int} {r : ((List ((Int × Int))) × Bool)} (h : r_spec_PrimitivePoints f1 vn2 = some r) : CallS Tryd.prog 52 [.ag [Ti f1.1, Ti f1.2.1, Ti f1.2.2], I vn2] (.tc (.ow 0) (.tc (Bo r.2) .tn)) [(0, .arr 66 2 (r.1.map c66))] := by
  refine CallS_of_text (rs := [.t 4, .t 5]) (vs := [.tmp 4, .tmp 5]) Tryd.func52 rfl rfl (.cons rfl (.cons rfl FitsL.nil)) (by decide) 18 rfl ?_
  unfold r_spec_PrimitivePoints at h
  show V _ _ ⟨[.ag [Ti f1.1, Ti f1.2.1, Ti f1.2.2], I vn2, .bot, .bot, .bot, .bot, .bot, .bot, .bot, .bot, .bot, .bot, .bot, .bot, .bot, .bot, .bot, .bot], []⟩ _
  refine V_sreg [false, true, true, false, false, false, false, false, false, false, false, false, false, false, false, false, false, false] [16] (s1 := ⟨[.bot, I vn2, .pt 16 0, .bot, .bot, .bot, .bot, .bot, .bot, .bot, .bot, .bot, .bot, .bot, .bot, .bot, .bot, .bot], [(16, .box [Ti f1.1, Ti f1.2.1, Ti f1.2.2])]⟩) ?_ ?_
  · refine XL_cons rfl (X_of_Y1 rfl (Y1_box (cs := [Ti f1.1, Ti f1.2.1, Ti f1.2.2]) rfl (by kernel_rfl))) ?_
    refine XL_cons rfl (X_of_Y1 rfl (Y1_nil (e := 66) 2 (by decide) (.inl rfl))) ?_
    refine XL_cons rfl (X_of_Y0 rfl (E_assign (Bo false) rfl (by kernel_rfl))) ?_
    refine XL_nil ?_
    kernel_rfl
  refine V_seq ?_
  obtain ⟨y3, hy3, h⟩ := of_bind h
  obtain ⟨b6, hb6, h⟩ := of_bind h
  refine V_sreg [false, true, true, false, false, false, false, false, false, false, false, false, false, true, false, false, false, false] [16] (s1 := ⟨[.bot, I vn2, .pt 16 0, .bot, .bot, .bot, .bot, .bot, .bot, .bot, .bot, .bot, .bot, Bo b6, .bot, .bot, .bot, .bot], [(16, .box [Ti f1.1, Ti f1.2.1, Ti f1.2.2])]⟩) ?_ ?_
  · refine XL_cons rfl (X_of_Y0 rfl (E_loadn (cs := [Ti f1.1, Ti f1.2.1, Ti f1.2.2]) [Ti f1.1, Ti f1.2.1, Ti f1.2.2] wd33 rfl (by kernel_rfl) (Nat.le_of_ble_eq_true rfl) (by kernel_rfl))) ?_
    refine XL_cons rfl (X_of_Y1 rfl (Y1_call (s_spec_vaForm hy3) cf_spec_vaForm rfl (by kernel_rfl))) ?_
    refine XL_cons rfl (X_of_Y0 rfl (Y0_not (b := y3) rfl (by kernel_rfl))) ?_
    refine XL_cons rfl (X_of_Y0 rfl (E_move (Bo (!y3)) rfl (by kernel_rfl))) ?_
    refine XL_split (!y3) (fun hc4 => ?_) (fun hc4 => ?_)
    · have hb6 := some_inj (of_true hb6 hc4)
      refine XL_skipF (!y3) rfl rfl (by kernel_rfl) hc4 rfl ?_
      refine XL_skipF (!y3) rfl rfl (by kernel_rfl) hc4 rfl ?_
      refine XL_skipF (!y3) rfl rfl (by kernel_rfl) hc4 rfl ?_
      refine XL_cons rfl (X_of_Y0 rfl (Y0_pickTe (b := !y3) (p := true) rfl (by kernel_rfl) hc4 (by kernel_rfl) hb6)) ?_
      refine XL_nil ?_
      kernel_rfl
    · have hb6 := of_false hb6 hc4
      obtain ⟨y5, hy5, hb6⟩ := of_bind hb6
      have hb6 := some_inj hb6
      refine XL_takeC (!y3) rfl rfl (by kernel_rfl) hc4 (X_of_Y0 rfl (E_move (I vn2) rfl (by kernel_rfl))) ?_
      refine XL_takeC (!y3) rfl rfl (by kernel_rfl) hc4 (X_of_Y1 rfl (Y1_call (s_spec_vaShown hy5) cf_spec_vaShown rfl (by kernel_rfl))) ?_
      refine XL_takeC (!y3) rfl rfl (by kernel_rfl) hc4 (X_of_Y0 rfl (Y0_not (b := y5) rfl (by kernel_rfl))) ?_
      refine XL_cons rfl (X_of_Y0 rfl (Y0_pickFe (b := !y3) (p := !y5) rfl (by kernel_rfl) hc4 (by kernel_rfl) hb6)) ?_
      refine XL_nil ?_
      kernel_rfl
  refine V_cond rfl (fun hc7 => ?_) (fun hc7 => ?_)
  · have h := of_true h hc7
    refine V_sreg [false, false, false, false, true, true, false, false, false, false, false, false, false, false, false, false, false, false] [32] (s1 := ⟨[.bot, .bot, .bot, .bot, .ow 32, Bo false, .bot, .bot, .bot, .bot, .bot, .bot, .bot, .bot, .bot, .bot, .bot, .bot], [(32, .arr 66 2 ((([] : List ((Int × Int)))).map c66))]⟩) ?_ ?_
    · refine XL_cons rfl (X_of_Y1 rfl (Y1_nil (e := 66) 2 (by decide) (.inl rfl))) ?_
      refine XL_cons rfl (X_of_Y0 rfl (E_assign (Bo false) rfl (by kernel_rfl))) ?_
      refine XL_nil ?_
      kernel_rfl
    refine V_ret ?_
    obtain rfl := some_inj h
    show Post _ _ _ _ _
    exact ⟨.inr rfl, rfl, rfl, rfl⟩
  · have h := of_false h hc7
    refine V_skip ?_
    show V _ _ _ _
    obtain ⟨y8, hy8, h⟩ := of_bind h
    obtain ⟨y9, hy9, h⟩ := of_bind h
    refine V_sreg [false, false, false, false, true, true, false, false, false, false, false, false, false, false, false, false, false, false] [136] (s1 := ⟨[.bot, .bot, .bot, .bot, .ow 136, Bo true, .bot, .bot, .bot, .bot, .bot, .bot, .bot, .bot, .bot, .bot, .bot, .bot], [(136, .arr 66 2 (y9.map c66))]⟩) ?_ ?_
    · refine XL_cons rfl (X_of_Y0 rfl (E_loadn (cs := [Ti f1.1, Ti f1.2.1, Ti f1.2.2]) [Ti f1.1, Ti f1.2.1, Ti f1.2.2] wd33 rfl (by kernel_rfl) (Nat.le_of_ble_eq_true rfl) (by kernel_rfl))) ?_
      refine XL_cons rfl (X_of_Y0 rfl (E_move (I vn2) rfl (by kernel_rfl))) ?_
      refine XL_cons rfl (X_of_Y1 rfl (Y1_call (s_spec_vaAt hy8) cf_spec_vaAt rfl (by kernel_rfl))) ?_
      refine XL_cons rfl (X_of_Y1 rfl (Y1_call (s_spec_vaPrimitive hy9) cf_spec_vaPrimitive rfl (by kernel_rfl))) ?_
      refine XL_cons rfl (X_of_Y0 rfl (E_assign (.ow 136) rfl (by kernel_rfl))) ?_
      refine XL_cons rfl (X_of_Y0 rfl (E_assign (Bo true) rfl (by kernel_rfl))) ?_
      refine XL_nil ?_
      kernel_rfl
    refine V_ret ?_
    obtain rfl := some_inj h
    show Post _ _ _ _ _
    exact ⟨.inr rfl, rfl, rfl, rfl⟩
theorem cf_spec_l1Num : ∀ args w, (callFunc 61 args).run Tryd.prog w = .ok (.enter 61 args) w := run_callFunc Tryd.func61 (by kernel_rfl) (by kernel_rfl)
set_option maxRecDepth 100000 in
set_option maxHeartbeats 400000 in
theorem s_spec_l1Num_rec : ∀ (n : Nat) {vn1 : Int} {r : ByteArray}, r_spec_l1Num n vn1 = some r → CallS Tryd.prog 61 [I vn1] (.c (.v (.string r))) [] := by
  intro n
  induction n with
  | zero => intro vn1 r h; cases h
  | succ n ih =>
    intro vn1 r h
    refine CallS_of_text (rs := [.t 2]) (vs := [.tmp 2]) Tryd.func61 rfl rfl (.cons rfl FitsL.nil) (by decide) 20 rfl ?_
    rw [r_spec_l1Num] at h
    show V _ _ ⟨[I vn1, .bot, .bot, .bot, .bot, .bot, .bot, .bot, .bot, .bot, .bot, .bot, .bot, .bot, .bot, .bot, .bot, .bot, .bot, .bot], []⟩ _
    refine V_sreg [true, false, false, false, false, false, false, false, false, false, false, false, false, false, false, false, false, false, false, false] [] (s1 := ⟨[I vn1, .bot, .bot, .bot, .bot, .bot, .bot, .bot, .bot, .bot, .bot, .bot, .bot, .bot, .bot, .bot, .bot, .bot, .bot, .bot], []⟩) ?_ ?_
    · refine XL_cons rfl (X_of_Y0 rfl (E_assign (.c (.v (.string ((⟨#[]⟩ : ByteArray))))) rfl (by kernel_rfl))) ?_
      refine XL_nil ?_
      kernel_rfl
    refine V_seq ?_
    refine V_sreg [true, false, false, false, true, false, false, false, false, false, false, false, false, false, false, false, false, false, false, false] [] (s1 := ⟨[I vn1, .bot, .bot, .bot, Bo (ltI vn1 10), .bot, .bot, .bot, .bot, .bot, .bot, .bot, .bot, .bot, .bot, .bot, .bot, .bot, .bot, .bot], []⟩) ?_ ?_
    · refine XL_cons rfl (X_of_Y0 rfl (E_move (I vn1) rfl (by kernel_rfl))) ?_
      refine XL_cons rfl (X_of_Y0 rfl (Y0_ltw (k := .i64) (a := vn1) (b := 10) rfl (by kernel_rfl) (by kernel_rfl))) ?_
      refine XL_nil ?_
      kernel_rfl
    refine V_cond rfl (fun hc2 => ?_) (fun hc2 => ?_)
    · have h := of_true h hc2
      refine V_sreg [false, false, true, false, false, false, false, false, false, false, false, false, false, false, false, false, false, false, false, false] [] (s1 := ⟨[.bot, .bot, .c (.v (.string (bytesI ([IntKind.u8.wrap (w64 (48 + vn1))])))), .bot, .bot, .bot, .bot, .bot, .bot, .bot, .bot, .bot, .bot, .bot, .bot, .bot, .bot, .bot, .bot, .bot], []⟩) ?_ ?_
      · refine XL_cons rfl (X_of_Y0 rfl (E_move (I vn1) rfl (by kernel_rfl))) ?_
        refine XL_cons rfl (X_of_Y0 rfl (Y0_add64 (a := 48) (b := vn1) rfl (by kernel_rfl) (by kernel_rfl))) ?_
        refine XL_cons rfl (X_of_Y0 rfl (Y0_conv (k2 := .i64) (a := w64 (48 + vn1)) Tryd.underlying3 Tryd.underlying5 rfl (by kernel_rfl))) ?_
        refine XL_cons rfl (X_of_Y1 rfl (Y1_bslice (z := zv5) (els := [IntKind.u8.wrap (w64 (48 + vn1))].map c5) Tryd.underlying83 iz5 rfl (by decide) rfl (by kernel_rfl) rfl (by simp [c5]) (by decide) (by decide))) ?_
        refine XL_cons rfl (X_of_Y0 rfl (Y0_b2s (c := c5) (fun _ => rfl) ([IntKind.u8.wrap (w64 (48 + vn1))]) Tryd.underlying83 Tryd.underlying5 Tryd.underlying9 rfl (by kernel_rfl))) ?_
        refine XL_cons rfl (X_of_Y0 rfl (E_assign (.c (.v (.string (bytesI ([IntKind.u8.wrap (w64 (48 + vn1))]))))) rfl (by kernel_rfl))) ?_
        refine XL_nil ?_
        kernel_rfl
      refine V_ret ?_
      obtain rfl := some_inj h
      show Post _ _ _ _ _
      exact ⟨.inr rfl, rfl, rfl, rfl⟩
    · have h := of_false h hc2
      refine V_skip ?_
      show V _ _ _ _
      obtain ⟨y3, hy3, h⟩ := of_bind h
      obtain ⟨u4, hu4, h⟩ := of_bind h
      refine V_sdreg [0, 1, 3, 0, 8, 24, 56, 120, 248, 511, 1023] 11 [[.z, .z, .z, .b, .b, .b, .b, .b, .b, .z, .z], [.a, .z, .z, .b, .b, .b, .b, .b, .b, .z, .z], [.a, .a, .z, .b, .b, .b, .b, .b, .b, .z, .z], [.b, .b, .b, .z, .z, .z, .z, .z, .z, .z, .z], [.b, .b, .b, .a, .z, .z, .z, .z, .z, .z, .z], [.b, .b, .b, .a, .a, .z, .z, .z, .z, .z, .z], [.b, .b, .b, .a, .a, .a, .z, .z, .z, .z, .z], [.b, .b, .b, .a, .a, .a, .a, .z, .z, .z, .z], [.b, .b, .b, .a, .a, .a, .a, .a, .z, .z, .z], [.a, .a, .a, .a, .a, .a, .a, .a, .a, .z, .z], [.a, .a, .a, .a, .a, .a, .a, .a, .a, .a, .z]] [false, false, true, false, false, false, false, false, false, false, false, false, false, false, false, false, false, false, false, false] [] (s1 := ⟨[.bot, .bot, .c (.v (.string (y3 ++ (bytesI ([IntKind.u8.wrap (w64 (48 + (Int.tmod vn1 10)))]))))), .bot, .bot, .bot, .bot, .bot, .bot, .bot, .bot, .bot, .bot, .bot, .bot, .bot, .bot, .bot, .bot, .bot], []⟩) (by kernel_rfl) (by kernel_rfl) ?_ ?_
      · refine DE_0 0 (I vn1) (by kernel_rfl) rfl rfl rfl (gsat_none rfl) (by kernel_rfl) (E_move (I vn1) rfl (by kernel_rfl)) 10 rfl ?_
        refine DE_0 1 (I (w64 (Int.tdiv vn1 10))) (by kernel_rfl) rfl rfl rfl (gsat_none rfl) (by kernel_rfl) (Y0_quo64 (a := vn1) (b := 10) rfl (by kernel_rfl) (by kernel_rfl) (by decide)) 11 rfl ?_
        refine DE_1 2 (by kernel_rfl) rfl rfl rfl (gsat_none rfl) (Y1_call (ih hy3) cf_spec_l1Num rfl (by kernel_rfl)) rfl rfl rfl 12 rfl ?_
        refine DE_0 3 (I vn1) (by kernel_rfl) rfl rfl rfl (gsat_none rfl) (by kernel_rfl) (E_move (I vn1) rfl (by kernel_rfl)) 13 rfl ?_
        refine DE_0 4 (I (Int.tmod vn1 10)) (by kernel_rfl) rfl rfl rfl (gsat_none rfl) (by kernel_rfl) (Y0_rem (k := .i64) (a := vn1) (b := 10) rfl (by kernel_rfl) (by kernel_rfl) (by decide)) 14 rfl ?_
        refine DE_0 5 (I (w64 (48 + (Int.tmod vn1 10)))) (by kernel_rfl) rfl rfl rfl (gsat_none rfl) (by kernel_rfl) (Y0_add64 (a := 48) (b := Int.tmod vn1 10) rfl (by kernel_rfl) (by kernel_rfl)) 15 rfl ?_
        refine DE_0 6 (.c (.v (.int .u8 (IntKind.u8.wrap (w64 (48 + (Int.tmod vn1 10))))))) (by kernel_rfl) rfl rfl rfl (gsat_none rfl) (by kernel_rfl) (Y0_conv (k2 := .i64) (a := w64 (48 + (Int.tmod vn1 10))) Tryd.underlying3 Tryd.underlying5 rfl (by kernel_rfl)) 16 rfl ?_
        refine DE_1 7 (by kernel_rfl) rfl rfl rfl (gsat_none rfl) (Y1_bslice (z := zv5) (els := [IntKind.u8.wrap (w64 (48 + (Int.tmod vn1 10)))].map c5) Tryd.underlying83 iz5 rfl (by decide) rfl (by kernel_rfl) rfl (by simp [c5]) (by decide) (by decide)) rfl rfl rfl 17 rfl ?_
        refine DE_0 8 (.c (.v (.string (bytesI ([IntKind.u8.wrap (w64 (48 + (Int.tmod vn1 10)))]))))) (by kernel_rfl) rfl rfl rfl (gsat_none rfl) (by kernel_rfl) (Y0_b2s (c := c5) (fun _ => rfl) ([IntKind.u8.wrap (w64 (48 + (Int.tmod vn1 10)))]) Tryd.underlying83 Tryd.underlying5 Tryd.underlying9 rfl (by kernel_rfl)) 18 rfl ?_
        refine DE_0 9 (.c (.v (.string (y3 ++ (bytesI ([IntKind.u8.wrap (w64 (48 + (Int.tmod vn1 10)))])))))) (by kernel_rfl) rfl rfl rfl (gsat_none rfl) (by kernel_rfl) (Y0_cat (a := y3) (b := bytesI ([IntKind.u8.wrap (w64 (48 + (Int.tmod vn1 10)))])) rfl (by kernel_rfl) (by kernel_rfl) (catR_some hu4)) 19 rfl ?_
        refine DE_0 10 (.c (.v (.string (y3 ++ (bytesI ([IntKind.u8.wrap (w64 (48 + (Int.tmod vn1 10)))])))))) (by kernel_rfl) rfl rfl rfl (gsat_none rfl) (by kernel_rfl) (E_assign (.c (.v (.string (y3 ++ (bytesI ([IntKind.u8.wrap (w64 (48 + (Int.tmod vn1 10)))])))))) rfl (by kernel_rfl)) 2 rfl ?_
        refine DL_nil (by kernel_rfl) ?_
        refine XL_nil ?_
        kernel_rfl
      refine V_ret ?_
      obtain rfl := some_inj h
      show Post _ _ _ _ _
      exact ⟨.inr rfl, rfl, rfl, rfl⟩
theorem s_spec_l1Num {vn1 : Int} {r : ByteArray} (h : r_spec_l1Num FU vn1 = some r) : CallS Tryd.prog 61 [I vn1] (.c (.v (.string r))) [] := s_spec_l1Num_rec FU h
theorem cf_spec_l1Int : ∀ args w, (callFunc 36 args).run Tryd.prog w = .ok (.enter 36 args) w := run_callFunc Tryd.func36 (by kernel_rfl) (by kernel_rfl)
set_option maxRecDepth 100000 in
set_option maxHeartbeats 400000 in
theorem s_spec_l1Int {vn1 : Int} {r : ByteArray} (h : r_spec_l1Int vn1 = some r) : CallS Tryd.prog 36 [I vn1] (.c (.v (.string r))) [] := by
  refine CallS_of_text (rs := [.t 2]) (vs := [.tmp 2]) Tryd.func36 rfl rfl (.cons rfl FitsL.nil) (by decide) 11 rfl ?_
  unfold r_spec_l1Int at h
  show V _ _ ⟨[I vn1, .bot, .bot, .bot, .bot, .bot, .bot, .bot, .bot, .bot, .bot], []⟩ _
  refine V_sreg [true, false, false, false, false, false, false, false, false, false, false] [] (s1 := ⟨[I vn1, .bot, .bot, .bot, .bot, .bot, .bot, .bot, .bot, .bot, .bot], []⟩) ?_ ?_
  · refine XL_cons rfl (X_of_Y0 rfl (E_assign (.c (.v (.string ((⟨#[]⟩ : ByteArray))))) rfl (by kernel_rfl))) ?_
    refine XL_nil ?_
    kernel_rfl
  refine V_seq ?_
  refine V_sreg [true, false, false, false, true, false, false, false, false, false, false] [] (s1 := ⟨[I vn1, .bot, .bot, .bot, Bo (ltI vn1 0), .bot, .bot, .bot, .bot, .bot, .bot], []⟩) ?_ ?_
  · refine XL_cons rfl (X_of_Y0 rfl (E_move (I vn1) rfl (by kernel_rfl))) ?_
    refine XL_cons rfl (X_of_Y0 rfl (Y0_ltw (k := .i64) (a := vn1) (b := 0) rfl (by kernel_rfl) (by kernel_rfl))) ?_
    refine XL_nil ?_
    kernel_rfl
  refine V_cond rfl (fun hc2 => ?_) (fun hc2 => ?_)
  · have h := of_true h hc2
    obtain ⟨y3, hy3, h⟩ := of_bind h
    obtain ⟨u4, hu4, h⟩ := of_bind h
    refine V_sreg [false, false, true, false, false, false, false, false, false, false, false] [] (s1 := ⟨[.bot, .bot, .c (.v (.string (((⟨#[45]⟩ : ByteArray)) ++ y3))), .bot, .bot, .bot, .bot, .bot, .bot, .bot, .bot], []⟩) ?_ ?_
    · refine XL_cons rfl (X_of_Y0 rfl (E_move (I vn1) rfl (by kernel_rfl))) ?_
      refine XL_cons rfl (X_of_Y0 rfl (Y0_neg64 (a := vn1) rfl (by kernel_rfl))) ?_
      refine XL_cons rfl (X_of_Y1 rfl (Y1_call (s_spec_l1Num hy3) cf_spec_l1Num rfl (by kernel_rfl))) ?_
      refine XL_cons rfl (X_of_Y0 rfl (Y0_cat (a := (⟨#[45]⟩ : ByteArray)) (b := y3) rfl (by kernel_rfl) (by kernel_rfl) (catR_some hu4))) ?_
      refine XL_cons rfl (X_of_Y0 rfl (E_assign (.c (.v (.string (((⟨#[45]⟩ : ByteArray)) ++ y3)))) rfl (by kernel_rfl))) ?_
      refine XL_nil ?_
      kernel_rfl
    refine V_ret ?_
    obtain rfl := some_inj h
    show Post _ _ _ _ _
    exact ⟨.inr rfl, rfl, rfl, rfl⟩
  · have h := of_false h hc2
    refine V_skip ?_
    show V _ _ _ _
    obtain ⟨y5, hy5, h⟩ := of_bind h
    refine V_sreg [false, false, true, false, false, false, false, false, false, false, false] [] (s1 := ⟨[.bot, .bot, .c (.v (.string y5)), .bot, .bot, .bot, .bot, .bot, .bot, .bot, .bot], []⟩) ?_ ?_
    · refine XL_cons rfl (X_of_Y0 rfl (E_move (I vn1) rfl (by kernel_rfl))) ?_
      refine XL_cons rfl (X_of_Y1 rfl (Y1_call (s_spec_l1Num hy5) cf_spec_l1Num rfl (by kernel_rfl))) ?_
      refine XL_cons rfl (X_of_Y0 rfl (E_assign (.c (.v (.string y5))) rfl (by kernel_rfl))) ?_
      refine XL_nil ?_
      kernel_rfl
    refine V_ret ?_
    obtain rfl := some_inj h
    show Post _ _ _ _ _
    exact ⟨.inr rfl, rfl, rfl, rfl⟩
theorem cf_spec_foText : ∀ args w, (callFunc 45 args).run Tryd.prog w = .ok (.enter 45 args) w := run_callFunc Tryd.func45 (by kernel_rfl) (by kernel_rfl)
set_option maxRecDepth 100000 in
set_option maxHeartbeats 400000 in
theorem s_spec_foText {f1 : (Int × Int × Int)} {r : ByteArray} (h : r_spec_foText f1 = some r) : CallS Tryd.prog 45 [.ag [Ti f1.1, Ti f1.2.1, Ti f1.2.2]] (.c (.v (.string r))) [] := by
  refine CallS_of_text (rs := [.t 2]) (vs := [.tmp 2]) Tryd.func45 rfl rfl (.cons rfl FitsL.nil) (by decide) 18 rfl ?_
  unfold r_spec_foText at h
  show V _ _ ⟨[.ag [Ti f1.1, Ti f1.2.1, Ti f1.2.2], .bot, .bot, .bot, .bot, .bot, .bot, .bot, .bot, .bot, .bot, .bot, .bot, .bot, .bot, .bot, .bot, .bot], []⟩ _
  refine V_sreg [false, true, false, false, false, false, false, false, false, false, false, false, false, false, false, false, false, false] [8] (s1 := ⟨[.bot, .pt 8 0, .bot, .bot, .bot, .bot, .bot, .bot, .bot, .bot, .bot, .bot, .bot, .bot, .bot, .bot, .bot, .bot], [(8, .box [Ti f1.1, Ti f1.2.1, Ti f1.2.2])]⟩) ?_ ?_
  · refine XL_cons rfl (X_of_Y1 rfl (Y1_box (cs := [Ti f1.1, Ti f1.2.1, Ti f1.2.2]) rfl (by kernel_rfl))) ?_
    refine XL_cons rfl (X_of_Y0 rfl (E_assign (.c (.v (.string ((⟨#[]⟩ : ByteArray))))) rfl (by kernel_rfl))) ?_
    refine XL_nil ?_
    kernel_rfl
  obtain ⟨y2, hy2, h⟩ := of_bind h
  obtain ⟨u3, hu3, h⟩ := of_bind h
  obtain ⟨u4, hu4, h⟩ := of_bind h
  obtain ⟨y5, hy5, h⟩ := of_bind h
  obtain ⟨u6, hu6, h⟩ := of_bind h
  obtain ⟨u7, hu7, h⟩ := of_bind h
  obtain ⟨y8, hy8, h⟩ := of_bind h
  obtain ⟨u9, hu9, h⟩ := of_bind h
  obtain ⟨u10, hu10, h⟩ := of_bind h
  refine V_sdreg [0, 1, 3, 7, 15, 0, 32, 103, 255, 511, 0, 1024, 3303, 8191, 16383, 32767] 16 [[.z, .z, .z, .z, .z, .b, .b, .z, .z, .z, .b, .b, .z, .z, .z, .z], [.a, .z, .z, .z, .z, .b, .b, .z, .z, .z, .b, .b, .z, .z, .z, .z], [.a, .a, .z, .z, .z, .b, .b, .z, .z, .z, .b, .b, .z, .z, .z, .z], [.a, .a, .a, .z, .z, .b, .b, .b, .z, .z, .b, .b, .b, .z, .z, .z], [.a, .a, .a, .a, .z, .b, .b, .b, .z, .z, .b, .b, .b, .z, .z, .z], [.b, .b, .b, .b, .b, .z, .z, .z, .z, .z, .b, .b, .z, .z, .z, .z], [.b, .b, .b, .b, .b, .a, .z, .z, .z, .z, .b, .b, .z, .z, .z, .z], [.a, .a, .a, .b, .b, .a, .a, .z, .z, .z, .b, .b, .z, .z, .z, .z], [.a, .a, .a, .a, .a, .a, .a, .a, .z, .z, .b, .b, .b, .z, .z, .z], [.a, .a, .a, .a, .a, .a, .a, .a, .a, .z, .b, .b, .b, .z, .z, .z], [.b, .b, .b, .b, .b, .b, .b, .b, .b, .b, .z, .z, .z, .z, .z, .z], [.b, .b, .b, .b, .b, .b, .b, .b, .b, .b, .a, .z, .z, .z, .z, .z], [.a, .a, .a, .b, .b, .a, .a, .a, .b, .b, .a, .a, .z, .z, .z, .z], [.a, .a, .a, .a, .a, .a, .a, .a, .a, .a, .a, .a, .a, .z, .z, .z], [.a, .a, .a, .a, .a, .a, .a, .a, .a, .a, .a, .a, .a, .a, .z, .z], [.a, .a, .a, .a, .a, .a, .a, .a, .a, .a, .a, .a, .a, .a, .a, .z]] [false, false, true, false, false, false, false, false, false, false, false, false, false, false, false, false, false, false] [] (s1 := ⟨[.bot, .bot, .c (.v (.string ((((((((⟨#[40]⟩ : ByteArray)) ++ y2) ++ ((⟨#[44]⟩ : ByteArray))) ++ y5) ++ ((⟨#[44]⟩ : ByteArray))) ++ y8) ++ ((⟨#[41]⟩ : ByteArray))))), .bot, .bot, .bot, .bot, .bot, .bot, .bot, .bot, .bot, .bot, .bot, .bot, .bot, .bot, .bot], []⟩) (by kernel_rfl) (by kernel_rfl) ?_ ?_
  · refine DE_0 0 (.pt 8 0) (by kernel_rfl) rfl rfl rfl (gsat_none rfl) (by kernel_rfl) (E_field (.pt 8 0) Tryd.underlying33 rfl sz3 rfl (by kernel_rfl) (by intro hh; cases hh)) 3 rfl ?_
    refine DE_0 1 (I f1.1) (by kernel_rfl) rfl rfl rfl (gsat_none rfl) (by kernel_rfl) (Y0_load1 (c := Ti f1.1) (cs := [Ti f1.2.1, Ti f1.2.2]) sc3 rfl (by kernel_rfl)) 4 rfl ?_
    refine DE_1 2 (by kernel_rfl) rfl rfl rfl (gsat_none rfl) (Y1_call (s_spec_l1Int hy2) cf_spec_l1Int rfl (by kernel_rfl)) rfl rfl rfl 5 rfl ?_
    refine DE_0 3 (.c (.v (.string (((⟨#[40]⟩ : ByteArray)) ++ y2)))) (by kernel_rfl) rfl rfl rfl (gsat_none rfl) (by kernel_rfl) (Y0_cat (a := (⟨#[40]⟩ : ByteArray)) (b := y2) rfl (by kernel_rfl) (by kernel_rfl) (catR_some hu3)) 6 rfl ?_
    refine DE_0 4 (.c (.v (.string ((((⟨#[40]⟩ : ByteArray)) ++ y2) ++ ((⟨#[44]⟩ : ByteArray)))))) (by kernel_rfl) rfl rfl rfl (gsat_none rfl) (by kernel_rfl) (Y0_cat (a := ((⟨#[40]⟩ : ByteArray)) ++ y2) (b := (⟨#[44]⟩ : ByteArray)) rfl (by kernel_rfl) (by kernel_rfl) (catR_some hu4)) 7 rfl ?_
    refine DE_0 5 (.pt 8 1) (by kernel_rfl) rfl rfl rfl (gsat_none rfl) (by kernel_rfl) (E_field (.pt 8 1) Tryd.underlying33 rfl sz3 rfl (by kernel_rfl) (by intro hh; cases hh)) 8 rfl ?_
    refine DE_0 6 (I f1.2.1) (by kernel_rfl) rfl rfl rfl (gsat_none rfl) (by kernel_rfl) (Y0_load1 (c := Ti f1.2.1) (cs := [Ti f1.2.2]) sc3 rfl (by kernel_rfl)) 9 rfl ?_
    refine DE_1 7 (by kernel_rfl) rfl rfl rfl (gsat_none rfl) (Y1_call (s_spec_l1Int hy5) cf_spec_l1Int rfl (by kernel_rfl)) rfl rfl rfl 10 rfl ?_
    refine DE_0 8 (.c (.v (.string (((((⟨#[40]⟩ : ByteArray)) ++ y2) ++ ((⟨#[44]⟩ : ByteArray))) ++ y5)))) (by kernel_rfl) rfl rfl rfl (gsat_none rfl) (by kernel_rfl) (Y0_cat (a := (((⟨#[40]⟩ : ByteArray)) ++ y2) ++ ((⟨#[44]⟩ : ByteArray))) (b := y5) rfl (by kernel_rfl) (by kernel_rfl) (catR_some hu6)) 11 rfl ?_
    refine DE_0 9 (.c (.v (.string ((((((⟨#[40]⟩ : ByteArray)) ++ y2) ++ ((⟨#[44]⟩ : ByteArray))) ++ y5) ++ ((⟨#[44]⟩ : ByteArray)))))) (by kernel_rfl) rfl rfl rfl (gsat_none rfl) (by kernel_rfl) (Y0_cat (a := ((((⟨#[40]⟩ : ByteArray)) ++ y2) ++ ((⟨#[44]⟩ : ByteArray))) ++ y5) (b := (⟨#[44]⟩ : ByteArray)) rfl (by kernel_rfl) (by kernel_rfl) (catR_some hu7)) 12 rfl ?_
    refine DE_0 10 (.pt 8 2) (by kernel_rfl) rfl rfl rfl (gsat_none rfl) (by kernel_rfl) (E_field (.pt 8 2) Tryd.underlying33 rfl sz3 rfl (by kernel_rfl) (by intro hh; cases hh)) 13 rfl ?_
    refine DE_0 11 (I f1.2.2) (by kernel_rfl) rfl rfl rfl (gsat_none rfl) (by kernel_rfl) (Y0_load1 (c := Ti f1.2.2) (cs := []) sc3 rfl (by kernel_rfl)) 14 rfl ?_
    refine DE_1 12 (by kernel_rfl) rfl rfl rfl (gsat_none rfl) (Y1_call (s_spec_l1Int hy8) cf_spec_l1Int rfl (by kernel_rfl)) rfl rfl rfl 15 rfl ?_
    refine DE_0 13 (.c (.v (.string (((((((⟨#[40]⟩ : ByteArray)) ++ y2) ++ ((⟨#[44]⟩ : ByteArray))) ++ y5) ++ ((⟨#[44]⟩ : ByteArray))) ++ y8)))) (by kernel_rfl) rfl rfl rfl (gsat_none rfl) (by kernel_rfl) (Y0_cat (a := (((((⟨#[40]⟩ : ByteArray)) ++ y2) ++ ((⟨#[44]⟩ : ByteArray))) ++ y5) ++ ((⟨#[44]⟩ : ByteArray))) (b := y8) rfl (by kernel_rfl) (by kernel_rfl) (catR_some hu9)) 16 rfl ?_
    refine DE_0 14 (.c (.v (.string ((((((((⟨#[40]⟩ : ByteArray)) ++ y2) ++ ((⟨#[44]⟩ : ByteArray))) ++ y5) ++ ((⟨#[44]⟩ : ByteArray))) ++ y8) ++ ((⟨#[41]⟩ : ByteArray)))))) (by kernel_rfl) rfl rfl rfl (gsat_none rfl) (by kernel_rfl) (Y0_cat (a := ((((((⟨#[40]⟩ : ByteArray)) ++ y2) ++ ((⟨#[44]⟩ : ByteArray))) ++ y5) ++ ((⟨#[44]⟩ : ByteArray))) ++ y8) (b := (⟨#[41]⟩ : ByteArray)) rfl (by kernel_rfl) (by kernel_rfl) (catR_some hu10)) 17 rfl ?_
    refine DE_0 15 (.c (.v (.string ((((((((⟨#[40]⟩ : ByteArray)) ++ y2) ++ ((⟨#[44]⟩ : ByteArray))) ++ y5) ++ ((⟨#[44]⟩ : ByteArray))) ++ y8) ++ ((⟨#[41]⟩ : ByteArray)))))) (by kernel_rfl) rfl rfl rfl (gsat_none rfl) (by kernel_rfl) (E_assign (.c (.v (.string ((((((((⟨#[40]⟩ : ByteArray)) ++ y2) ++ ((⟨#[44]⟩ : ByteArray))) ++ y5) ++ ((⟨#[44]⟩ : ByteArray))) ++ y8) ++ ((⟨#[41]⟩ : ByteArray)))))) rfl (by kernel_rfl)) 2 rfl ?_
    refine DL_nil (by kernel_rfl) ?_
    refine XL_nil ?_
    kernel_rfl
  refine V_ret ?_
  obtain rfl := some_inj h
  show Post _ _ _ _ _
  exact ⟨.inr rfl, rfl, rfl, rfl⟩
theorem cf_spec_prText : ∀ args w, (callFunc 35 args).run Tryd.prog w = .ok (.enter 35 args) w := run_callFunc Tryd.func35 (by kernel_rfl) (by kernel_rfl)
set_option maxRecDepth 100000 in
set_option maxHeartbeats 400000 in
theorem s_spec_prText {l1 : List ByteArray} {r : ByteArray} (h : r_spec_prText l1 = some r) : CallS Tryd.prog 35 [.c (.sl (l1.map c9))] (.c (.v (.string r))) [] := by
  refine CallS_of_text (rs := [.t 2]) (vs := [.tmp 2]) Tryd.func35 rfl rfl (.cons rfl FitsL.nil) (by decide) 22 rfl ?_
  unfold r_spec_prText at h
  show V _ _ ⟨[.c (.sl (l1.map c9)), .bot, .bot, .bot, .bot, .bot, .bot, .bot, .bot, .bot, .bot, .bot, .bot, .bot, .bot, .bot, .bot, .bot, .bot, .bot, .bot, .bot], []⟩ _
  refine V_sreg [true, false, false, false, false, false, false, false, false, false, false, false, false, false, false, false, false, false, false, false, false, false] [] (s1 := ⟨[.c (.sl (l1.map c9)), .bot, .bot, .bot, .bot, .bot, .bot, .bot, .bot, .bot, .bot, .bot, .bot, .bot, .bot, .bot, .bot, .bot, .bot, .bot, .bot, .bot], []⟩) ?_ ?_
  · refine XL_cons rfl (X_of_Y0 rfl (E_assign (.c (.v (.string ((⟨#[]⟩ : ByteArray))))) rfl (by kernel_rfl))) ?_
    refine XL_nil ?_
    kernel_rfl
  refine V_sreg [true, false, false, true, false, false, false, false, false, false, false, false, false, false, false, false, false, false, false, false, false, false] [] (s1 := ⟨[.c (.sl (l1.map c9)), .bot, .bot, .c (.v (.string ((⟨#[]⟩ : ByteArray)))), .bot, .bot, .bot, .bot, .bot, .bot, .bot, .bot, .bot, .bot, .bot, .bot, .bot, .bot, .bot, .bot, .bot, .bot], []⟩) ?_ ?_
  · refine XL_cons rfl (X_of_Y0 rfl (E_assign (.c (.v (.string ((⟨#[]⟩ : ByteArray))))) rfl (by kernel_rfl))) ?_
    refine XL_nil ?_
    kernel_rfl
  refine V_seq ?_
  refine V_sreg [false, false, false, true, false, false, true, true, true, false, false, false, false, false, false, false, false, false, false, false, false, false] [] (s1 := ⟨[.bot, .bot, .bot, .c (.v (.string ((⟨#[]⟩ : ByteArray)))), .bot, .bot, .c (.sl (l1.map c9)), I ((l1.length : Int)), I 0, .bot, .bot, .bot, .bot, .bot, .bot, .bot, .bot, .bot, .bot, .bot, .bot, .bot], []⟩) ?_ ?_
  · refine XL_cons rfl (X_of_Y0 rfl (E_move (.c (.sl (l1.map c9))) rfl (by kernel_rfl))) ?_
    refine XL_cons rfl (X_of_Y0 rfl (Y0_lenM (c := c9) (xs := l1) Tryd.underlying22 rfl (by kernel_rfl))) ?_
    refine XL_cons rfl (X_of_Y0 rfl (E_move (I 0) rfl (by kernel_rfl))) ?_
    refine XL_nil ?_
    kernel_rfl
  obtain ⟨o5, hLo5, h⟩ := of_bind h
  refine V_toK [false, false, false, true, false, false, false, false, false, false, false, false, false, false, false, false, false, false, false, false, false, false] [] (s1 := ⟨[.bot, .bot, .bot, .c (.v (.string o5)), .bot, .bot, .bot, .bot, .bot, .bot, .bot, .bot, .bot, .bot, .bot, .bot, .bot, .bot, .bot, .bot, .bot, .bot], []⟩) ?_ ?_
  · clear h
    refine V_block (V_loop (fun n s => ∃ (out2 : ByteArray) (t3 : Int), s.keep [false, false, false, true, false, false, true, true, true, false, false, false, false, false, false, false, false, false, false, false, false, false] [] = (⟨[.bot, .bot, .bot, .c (.v (.string out2)), .bot, .bot, .c (.sl (l1.map c9)), I ((l1.length : Int)), I t3, .bot, .bot, .bot, .bot, .bot, .bot, .bot, .bot, .bot, .bot, .bot, .bot, .bot], []⟩ : St) ∧ r_spec_prText_L4 l1 n out2 t3 = some o5) FU ⟨_, _,  by rfl, hLo5⟩ ?_)
    clear hLo5
    rintro n s ⟨out2, t3, hs, h⟩
    refine V_keep _ _ hs ?_
    clear hs
    cases n with
    | zero => cases h
    | succ n =>
      rw [r_spec_prText_L4] at h
      refine V_sreg [false, false, false, true, false, false, true, true, true, true, false, false, false, false, false, false, false, false, false, false, false, false] [] (s1 := ⟨[.bot, .bot, .bot, .c (.v (.string out2)), .bot, .bot, .c (.sl (l1.map c9)), I ((l1.length : Int)), I t3, Bo (ltI t3 ((l1.length : Int))), .bot, .bot, .bot, .bot, .bot, .bot, .bot, .bot, .bot, .bot, .bot, .bot], []⟩) ?_ ?_
      · refine XL_cons rfl (X_of_Y0 rfl (Y0_ltw (k := .i64) (a := t3) (b := (l1.length : Int)) rfl (by kernel_rfl) (by kernel_rfl))) ?_
        refine XL_nil ?_
        kernel_rfl
      refine V_seq ?_
      refine V_cond rfl (fun hc6 => ?_) (fun hc6 => ?_)
      · have h := of_true h hc6
        refine V_skip ?_
        show V _ _ _ _
        refine V_seq ?_
        refine V_block ?_
        obtain ⟨e7, he7, h⟩ := of_bind h
        refine V_sreg [false, false, false, true, true, true, true, true, true, false, false, false, false, false, false, false, false, false, false, false, false, false] [] (s1 := ⟨[.bot, .bot, .bot, .c (.v (.string out2)), I t3, .c (.v (.string e7)), .c (.sl (l1.map c9)), I ((l1.length : Int)), I t3, .bot, .bot, .bot, .bot, .bot, .bot, .bot, .bot, .bot, .bot, .bot, .bot, .bot], []⟩) ?_ ?_
        · refine XL_cons rfl (X_of_Y0 rfl (E_move (I t3) rfl (by kernel_rfl))) ?_
          refine XL_cons rfl (X_of_Y0 rfl (Y0_idxM (c := c9) (xs := l1) (v := e7) (n := t3) Tryd.underlying22 sz9 rfl (by kernel_rfl) (by kernel_rfl) he7)) ?_
          refine XL_cons rfl (X_of_Y0 rfl (Y0_load1 (c := .v (.string e7)) (cs := []) sc9 rfl (by kernel_rfl))) ?_
          refine XL_cons rfl (X_of_Y0 rfl (E_assign (I t3) rfl (by kernel_rfl))) ?_
          refine XL_cons rfl (X_of_Y0 rfl (E_assign (.c (.v (.string e7))) rfl (by kernel_rfl))) ?_
          refine XL_nil ?_
          kernel_rfl
        refine V_seq ?_
        refine V_sreg [false, false, false, true, false, true, true, true, true, false, false, false, false, false, true, false, false, false, false, false, false, false] [] (s1 := ⟨[.bot, .bot, .bot, .c (.v (.string out2)), .bot, .c (.v (.string e7)), .c (.sl (l1.map c9)), I ((l1.length : Int)), I t3, .bot, .bot, .bot, .bot, .bot, Bo (ltI 0 t3), .bot, .bot, .bot, .bot, .bot, .bot, .bot], []⟩) ?_ ?_
        · refine XL_cons rfl (X_of_Y0 rfl (E_move (I t3) rfl (by kernel_rfl))) ?_
          refine XL_cons rfl (X_of_Y0 rfl (Y0_gtw (k := .i64) (a := t3) (b := 0) rfl (by kernel_rfl) (by kernel_rfl))) ?_
          refine XL_nil ?_
          kernel_rfl
        refine V_cond rfl (fun hc8 => ?_) (fun hc8 => ?_)
        · have h := of_true h hc8
          obtain ⟨u9, hu9, h⟩ := of_bind h
          refine V_reg [false, false, false, true, false, true, true, true, true, false, false, false, false, false, false, false, false, false, false, false, false, false] [] (s1 := ⟨[.bot, .bot, .bot, .c (.v (.string (out2 ++ ((⟨#[32]⟩ : ByteArray))))), .bot, .c (.v (.string e7)), .c (.sl (l1.map c9)), I ((l1.length : Int)), I t3, .bot, .bot, .bot, .bot, .bot, .bot, .bot, .bot, .bot, .bot, .bot, .bot, .bot], []⟩) ?_ ?_
          · refine XL_cons rfl (X_of_Y0 rfl (E_move (.c (.v (.string out2))) rfl (by kernel_rfl))) ?_
            refine XL_cons rfl (X_of_Y0 rfl (Y0_cat (a := out2) (b := (⟨#[32]⟩ : ByteArray)) rfl (by kernel_rfl) (by kernel_rfl) (catR_some hu9))) ?_
            refine XL_cons rfl (X_of_Y0 rfl (E_assign (.c (.v (.string (out2 ++ ((⟨#[32]⟩ : ByteArray)))))) rfl (by kernel_rfl))) ?_
            refine XL_nil ?_
            kernel_rfl
          show V _ _ _ _
          obtain ⟨u10, hu10, h⟩ := of_bind h
          refine V_reg [false, false, false, true, false, false, true, true, true, false, false, false, false, false, false, false, false, false, false, false, false, false] [] (s1 := ⟨[.bot, .bot, .bot, .c (.v (.string ((out2 ++ ((⟨#[32]⟩ : ByteArray))) ++ e7))), .bot, .bot, .c (.sl (l1.map c9)), I ((l1.length : Int)), I t3, .bot, .bot, .bot, .bot, .bot, .bot, .bot, .bot, .bot, .bot, .bot, .bot, .bot], []⟩) ?_ ?_
          · refine XL_cons rfl (X_of_Y0 rfl (E_move (.c (.v (.string (out2 ++ ((⟨#[32]⟩ : ByteArray)))))) rfl (by kernel_rfl))) ?_
            refine XL_cons rfl (X_of_Y0 rfl (E_move (.c (.v (.string e7))) rfl (by kernel_rfl))) ?_
            refine XL_cons rfl (X_of_Y0 rfl (Y0_cat (a := out2 ++ ((⟨#[32]⟩ : ByteArray))) (b := e7) rfl (by kernel_rfl) (by kernel_rfl) (catR_some hu10))) ?_
            refine XL_cons rfl (X_of_Y0 rfl (E_assign (.c (.v (.string ((out2 ++ ((⟨#[32]⟩ : ByteArray))) ++ e7)))) rfl (by kernel_rfl))) ?_
            refine XL_nil ?_
            kernel_rfl
          show V _ _ _ _
          obtain ⟨t11, ht11, h⟩ := of_sI h
          refine V_reg [false, false, false, true, false, false, true, true, true, false, false, false, false, false, false, false, false, false, false, false, false, false] [] (s1 := ⟨[.bot, .bot, .bot, .c (.v (.string ((out2 ++ ((⟨#[32]⟩ : ByteArray))) ++ e7))), .bot, .bot, .c (.sl (l1.map c9)), I ((l1.length : Int)), I t11, .bot, .bot, .bot, .bot, .bot, .bot, .bot, .bot, .bot, .bot, .bot, .bot, .bot], []⟩) ?_ ?_
          · refine XL_cons rfl (X_of_Y0 rfl (Y0_add64 (a := t3) (b := 1) rfl (by kernel_rfl) (by kernel_rfl))) ?_
            refine XL_cons rfl (X_of_Y0 rfl (E_move (I (w64 (t3 + 1))) rfl (by kernel_rfl))) ?_
            refine XL_nil ?_
            subst ht11
            kernel_rfl
          exact ⟨n, Nat.lt_succ_self n, _, _,  by rfl, h⟩
        · have h := of_false h hc8
          refine V_skip ?_
          show V _ _ _ _
          obtain ⟨u12, hu12, h⟩ := of_bind h
          refine V_reg [false, false, false, true, false, false, true, true, true, false, false, false, false, false, false, false, false, false, false, false, false, false] [] (s1 := ⟨[.bot, .bot, .bot, .c (.v (.string (out2 ++ e7))), .bot, .bot, .c (.sl (l1.map c9)), I ((l1.length : Int)), I t3, .bot, .bot, .bot, .bot, .bot, .bot, .bot, .bot, .bot, .bot, .bot, .bot, .bot], []⟩) ?_ ?_
          · refine XL_cons rfl (X_of_Y0 rfl (E_move (.c (.v (.string out2))) rfl (by kernel_rfl))) ?_
            refine XL_cons rfl (X_of_Y0 rfl (E_move (.c (.v (.string e7))) rfl (by kernel_rfl))) ?_
            refine XL_cons rfl (X_of_Y0 rfl (Y0_cat (a := out2) (b := e7) rfl (by kernel_rfl) (by kernel_rfl) (catR_some hu12))) ?_
            refine XL_cons rfl (X_of_Y0 rfl (E_assign (.c (.v (.string (out2 ++ e7)))) rfl (by kernel_rfl))) ?_
            refine XL_nil ?_
            kernel_rfl
          show V _ _ _ _
          obtain ⟨t13, ht13, h⟩ := of_sI h
          refine V_reg [false, false, false, true, false, false, true, true, true, false, false, false, false, false, false, false, false, false, false, false, false, false] [] (s1 := ⟨[.bot, .bot, .bot, .c (.v (.string (out2 ++ e7))), .bot, .bot, .c (.sl (l1.map c9)), I ((l1.length : Int)), I t13, .bot, .bot, .bot, .bot, .bot, .bot, .bot, .bot, .bot, .bot, .bot, .bot, .bot], []⟩) ?_ ?_
          · refine XL_cons rfl (X_of_Y0 rfl (Y0_add64 (a := t3) (b := 1) rfl (by kernel_rfl) (by kernel_rfl))) ?_
            refine XL_cons rfl (X_of_Y0 rfl (E_move (I (w64 (t3 + 1))) rfl (by kernel_rfl))) ?_
            refine XL_nil ?_
            subst ht13
            kernel_rfl
          exact ⟨n, Nat.lt_succ_self n, _, _,  by rfl, h⟩
      · have h := of_false h hc6
        refine V_exit ?_
        obtain rfl := some_inj h
        show St.keep _ _ _ = _
        rfl
  show V _ _ _ _
  refine V_sreg [false, false, true, false, false, false, false, false, false, false, false, false, false, false, false, false, false, false, false, false, false, false] [] (s1 := ⟨[.bot, .bot, .c (.v (.string o5)), .bot, .bot, .bot, .bot, .bot, .bot, .bot, .bot, .bot, .bot, .bot, .bot, .bot, .bot, .bot, .bot, .bot, .bot, .bot], []⟩) ?_ ?_
  · refine XL_cons rfl (X_of_Y0 rfl (E_move (.c (.v (.string o5))) rfl (by kernel_rfl))) ?_
    refine XL_cons rfl (X_of_Y0 rfl (E_assign (.c (.v (.string o5))) rfl (by kernel_rfl))) ?_
    refine XL_nil ?_
    kernel_rfl
  refine V_ret ?_
  obtain rfl := some_inj h
  show Post _ _ _ _ _
  exact ⟨.inr rfl, rfl, rfl, rfl⟩
theorem cf_spec_ValueCertificate : ∀ args w, (callFunc 24 args).run Tryd.prog w = .ok (.enter 24 args) w := run_callFunc Tryd.func24 (by kernel_rfl) (by kernel_rfl)
set_option maxRecDepth 100000 in
set_option maxHeartbeats 400000 in
theorem s_spec_ValueCertificate {f1 : (Int × Int × Int)} {vn2 : Int} {r : (ByteArray × Bool)} (h : r_spec_ValueCertificate f1 vn2 = some r) : CallS Tryd.prog 24 [.ag [Ti f1.1, Ti f1.2.1, Ti f1.2.2], I vn2] (.tc (.c (.v (.string r.1))) (.tc (Bo r.2) .tn)) [] := by
  refine CallS_of_text (rs := [.t 4, .t 5]) (vs := [.tmp 4, .tmp 5]) Tryd.func24 rfl rfl (.cons rfl (.cons rfl FitsL.nil)) (by decide) 37 rfl ?_
  unfold r_spec_ValueCertificate at h
  show V _ _ ⟨[.ag [Ti f1.1, Ti f1.2.1, Ti f1.2.2], I vn2, .bot, .bot, .bot, .bot, .bot, .bot, .bot, .bot, .bot, .bot, .bot, .bot, .bot, .bot, .bot, .bot, .bot, .bot, .bot, .bot, .bot, .bot, .bot, .bot, .bot, .bot, .bot, .bot, .bot, .bot, .bot, .bot, .bot, .bot, .bot], []⟩ _
  refine V_sreg [false, true, true, false, false, false, false, false, false, false, false, false, false, false, false, false, false, false, false, false, false, false, false, false, false, false, false, false, false, false, false, false, false, false, false, false, false] [16] (s1 := ⟨[.bot, I vn2, .pt 16 0, .bot, .bot, .bot, .bot, .bot, .bot, .bot, .bot, .bot, .bot, .bot, .bot, .bot, .bot, .bot, .bot, .bot, .bot, .bot, .bot, .bot, .bot, .bot, .bot, .bot, .bot, .bot, .bot, .bot, .bot, .bot, .bot, .bot, .bot], [(16, .box [Ti f1.1, Ti f1.2.1, Ti f1.2.2])]⟩) ?_ ?_
  · refine XL_cons rfl (X_of_Y1 rfl (Y1_box (cs := [Ti f1.1, Ti f1.2.1, Ti f1.2.2]) rfl (by kernel_rfl))) ?_
    refine XL_cons rfl (X_of_Y0 rfl (E_assign (.c (.v (.string ((⟨#[]⟩ : ByteArray))))) rfl (by kernel_rfl))) ?_
    refine XL_cons rfl (X_of_Y0 rfl (E_assign (Bo false) rfl (by kernel_rfl))) ?_
    refine XL_nil ?_
    kernel_rfl
  obtain ⟨y3, hy3, h⟩ := of_bind h
  refine V_sreg [false, true, true, false, false, false, true, true, false, false, false, false, false, false, false, false, false, false, false, false, false, false, false, false, false, false, false, false, false, false, false, false, false, false, false, false, false] [88, 16] (s1 := ⟨[.bot, I vn2, .pt 16 0, .bot, .bot, .bot, .ow 88, Bo y3.2, .bot, .bot, .bot, .bot, .bot, .bot, .bot, .bot, .bot, .bot, .bot, .bot, .bot, .bot, .bot, .bot, .bot, .bot, .bot, .bot, .bot, .bot, .bot, .bot, .bot, .bot, .bot, .bot, .bot], [(88, .arr 66 2 (y3.1.map c66)), (16, .box [Ti f1.1, Ti f1.2.1, Ti f1.2.2])]⟩) ?_ ?_
  · refine XL_cons rfl (X_of_Y0 rfl (E_loadn (cs := [Ti f1.1, Ti f1.2.1, Ti f1.2.2]) [Ti f1.1, Ti f1.2.1, Ti f1.2.2] wd33 rfl (by kernel_rfl) (Nat.le_of_ble_eq_true rfl) (by kernel_rfl))) ?_
    refine XL_cons rfl (X_of_Y0 rfl (E_move (I vn2) rfl (by kernel_rfl))) ?_
    refine XL_cons rfl (X_of_Y1 rfl (Y1_call (s_spec_PrimitivePoints hy3) cf_spec_PrimitivePoints rfl (by kernel_rfl))) ?_
    refine XL_cons rfl (X_of_Y0 rfl (E_move (.tc (.ow 88) (.tc (Bo y3.2) .tn)) rfl (by kernel_rfl))) ?_
    refine XL_cons rfl (X_of_Y0 rfl (E_ext (n := 0) (.ow 88) (.tc (Bo y3.2) .tn) (.ow 88) rfl (by kernel_rfl) (by kernel_rfl) (by intro hh; cases hh))) ?_
    refine XL_cons rfl (X_of_Y0 rfl (E_ext (n := 1) (.ow 88) (.tc (Bo y3.2) .tn) (Bo y3.2) rfl (by kernel_rfl) (by kernel_rfl) (by intro hh; cases hh))) ?_
    refine XL_cons rfl (X_of_Y0 rfl (E_assign (.ow 88) rfl (by kernel_rfl))) ?_
    refine XL_cons rfl (X_of_Y0 rfl (E_assign (Bo y3.2) rfl (by kernel_rfl))) ?_
    refine XL_nil ?_
    kernel_rfl
  refine V_seq ?_
  refine V_sreg [false, true, true, false, false, false, true, false, false, false, false, false, false, false, false, false, false, false, false, false, true, false, false, false, false, false, false, false, false, false, false, false, false, false, false, false, false] [88, 16] (s1 := ⟨[.bot, I vn2, .pt 16 0, .bot, .bot, .bot, .ow 88, .bot, .bot, .bot, .bot, .bot, .bot, .bot, .bot, .bot, .bot, .bot, .bot, .bot, Bo (bif (!y3.2) then true else (eqI ((y3.1.length : Int)) 0)), .bot, .bot, .bot, .bot, .bot, .bot, .bot, .bot, .bot, .bot, .bot, .bot, .bot, .bot, .bot, .bot], [(88, .arr 66 2 (y3.1.map c66)), (16, .box [Ti f1.1, Ti f1.2.1, Ti f1.2.2])]⟩) ?_ ?_
  · refine XL_cons rfl (X_of_Y0 rfl (E_move (Bo y3.2) rfl (by kernel_rfl))) ?_
    refine XL_cons rfl (X_of_Y0 rfl (Y0_not (b := y3.2) rfl (by kernel_rfl))) ?_
    refine XL_cons rfl (X_of_Y0 rfl (E_move (Bo (!y3.2)) rfl (by kernel_rfl))) ?_
    refine XL_split (!y3.2) (fun hc4 => ?_) (fun hc4 => ?_)
    · refine XL_skipF (!y3.2) rfl rfl (by kernel_rfl) hc4 rfl ?_
      refine XL_skipF (!y3.2) rfl rfl (by kernel_rfl) hc4 rfl ?_
      refine XL_skipF (!y3.2) rfl rfl (by kernel_rfl) hc4 rfl ?_
      refine XL_cons rfl (X_of_Y0 rfl (Y0_pick1 (b := !y3.2) (p := true) (q := eqI ((y3.1.length : Int)) 0) rfl (by kernel_rfl) hc4 (by kernel_rfl))) ?_
      refine XL_nil ?_
      kernel_rfl
    · refine XL_takeC (!y3.2) rfl rfl (by kernel_rfl) hc4 (X_of_Y0 rfl (E_move (.ow 88) rfl (by kernel_rfl))) ?_
      refine XL_takeC (!y3.2) rfl rfl (by kernel_rfl) hc4 (X_of_Y0 rfl (Y0_lenM (c := c66) (xs := y3.1) Tryd.underlying62 rfl (by kernel_rfl))) ?_
      refine XL_takeC (!y3.2) rfl rfl (by kernel_rfl) hc4 (X_of_Y0 rfl (Y0_eqw (k := .i64) (a := (y3.1.length : Int)) (b := 0) rfl (by kernel_rfl) (by kernel_rfl))) ?_
      refine XL_cons rfl (X_of_Y0 rfl (Y0_pick0 (b := !y3.2) (p := true) (q := eqI ((y3.1.length : Int)) 0) rfl (by kernel_rfl) hc4 (by kernel_rfl))) ?_
      refine XL_nil ?_
      kernel_rfl
  refine V_cond rfl (fun hc5 => ?_) (fun hc5 => ?_)
  · have h := of_true h hc5
    refine V_sreg [false, false, false, false, true, true, false, false, false, false, false, false, false, false, false, false, false, false, false, false, false, false, false, false, false, false, false, false, false, false, false, false, false, false, false, false, false] [] (s1 := ⟨[.bot, .bot, .bot, .bot, .c (.v (.string ((⟨#[]⟩ : ByteArray)))), Bo false, .bot, .bot, .bot, .bot, .bot, .bot, .bot, .bot, .bot, .bot, .bot, .bot, .bot, .bot, .bot, .bot, .bot, .bot, .bot, .bot, .bot, .bot, .bot, .bot, .bot, .bot, .bot, .bot, .bot, .bot, .bot], []⟩) ?_ ?_
    · refine XL_cons rfl (X_of_Y0 rfl (E_assign (.c (.v (.string ((⟨#[]⟩ : ByteArray))))) rfl (by kernel_rfl))) ?_
      refine XL_cons rfl (X_of_Y0 rfl (E_assign (Bo false) rfl (by kernel_rfl))) ?_
      refine XL_nil ?_
      kernel_rfl
    refine V_ret ?_
    obtain rfl := some_inj h
    show Post _ _ _ _ _
    exact ⟨.inr rfl, rfl, rfl, rfl⟩
  · have h := of_false h hc5
    refine V_skip ?_
    show V _ _ _ _
    obtain ⟨y6, hy6, h⟩ := of_bind h
    obtain ⟨y7, hy7, h⟩ := of_bind h
    obtain ⟨e8, he8, h⟩ := of_bind h
    obtain ⟨e9, he9, h⟩ := of_bind h
    obtain ⟨y10, hy10, h⟩ := of_bind h
    obtain ⟨e11, he11, h⟩ := of_bind h
    obtain ⟨e12, he12, h⟩ := of_bind h
    obtain ⟨y13, hy13, h⟩ := of_bind h
    obtain ⟨y14, hy14, h⟩ := of_bind h
    refine V_sdreg [0, 1, 0, 7, 0, 16, 48, 112, 255, 0, 512, 1536, 3584, 8191, 16383, 32767, 65535, 131071] 18 [[.z, .z, .b, .z, .b, .b, .b, .b, .z, .b, .b, .b, .b, .z, .z, .z, .z, .z], [.a, .z, .b, .z, .b, .b, .b, .b, .z, .b, .b, .b, .b, .z, .z, .z, .z, .z], [.b, .b, .z, .z, .b, .b, .b, .b, .z, .b, .b, .b, .b, .z, .z, .z, .z, .z], [.a, .a, .a, .z, .b, .b, .b, .b, .z, .b, .b, .b, .b, .z, .z, .z, .z, .z], [.b, .b, .b, .b, .z, .z, .z, .z, .z, .b, .b, .b, .b, .z, .z, .z, .z, .z], [.b, .b, .b, .b, .a, .z, .z, .z, .z, .b, .b, .b, .b, .z, .z, .z, .z, .z], [.b, .b, .b, .b, .a, .a, .z, .z, .z, .b, .b, .b, .b, .z, .z, .z, .z, .z], [.b, .b, .b, .b, .a, .a, .a, .z, .z, .b, .b, .b, .b, .z, .z, .z, .z, .z], [.a, .a, .a, .a, .a, .a, .a, .a, .z, .b, .b, .b, .b, .z, .z, .z, .z, .z], [.b, .b, .b, .b, .b, .b, .b, .b, .b, .z, .z, .z, .z, .z, .z, .z, .z, .z], [.b, .b, .b, .b, .b, .b, .b, .b, .b, .a, .z, .z, .z, .z, .z, .z, .z, .z], [.b, .b, .b, .b, .b, .b, .b, .b, .b, .a, .a, .z, .z, .z, .z, .z, .z, .z], [.b, .b, .b, .b, .b, .b, .b, .b, .b, .a, .a, .a, .z, .z, .z, .z, .z, .z], [.a, .a, .a, .a, .a, .a, .a, .a, .a, .a, .a, .a, .a, .z, .z, .z, .z, .z], [.a, .a, .a, .a, .a, .a, .a, .a, .a, .a, .a, .a, .a, .a, .z, .z, .z, .z], [.a, .a, .a, .a, .a, .a, .a, .a, .a, .a, .a, .a, .a, .a, .a, .z, .z, .z], [.a, .a, .a, .a, .a, .a, .a, .a, .a, .a, .a, .a, .a, .a, .a, .a, .z, .z], [.a, .a, .a, .a, .a, .a, .a, .a, .a, .a, .a, .a, .a, .a, .a, .a, .a, .z]] [false, false, false, false, true, true, false, false, false, false, false, false, false, false, false, false, false, false, false, false, false, false, false, false, false, false, false, false, false, false, false, false, false, false, false, false, false] [] (s1 := ⟨[.bot, .bot, .bot, .bot, .c (.v (.string y14)), Bo true, .bot, .bot, .bot, .bot, .bot, .bot, .bot, .bot, .bot, .bot, .bot, .bot, .bot, .bot, .bot, .bot, .bot, .bot, .bot, .bot, .bot, .bot, .bot, .bot, .bot, .bot, .bot, .bot, .bot, .bot, .bot], []⟩) (by kernel_rfl) (by kernel_rfl) ?_ ?_
    · refine DE_0 0 (.ag [Ti f1.1, Ti f1.2.1, Ti f1.2.2]) (by kernel_rfl) rfl rfl rfl (gsat_none rfl) (by kernel_rfl) (E_loadn (cs := [Ti f1.1, Ti f1.2.1, Ti f1.2.2]) [Ti f1.1, Ti f1.2.1, Ti f1.2.2] wd33 rfl (by kernel_rfl) (Nat.le_of_ble_eq_true rfl) (by kernel_rfl)) 21 rfl ?_
      refine DE_1 1 (by kernel_rfl) rfl rfl rfl (gsat_none rfl) (Y1_call (s_spec_foText hy6) cf_spec_foText rfl (by kernel_rfl)) rfl rfl rfl 22 rfl ?_
      refine DE_0 2 (I vn2) (by kernel_rfl) rfl rfl rfl (gsat_none rfl) (by kernel_rfl) (E_move (I vn2) rfl (by kernel_rfl)) 23 rfl ?_
      refine DE_1 3 (by kernel_rfl) rfl rfl rfl (gsat_none rfl) (Y1_call (s_spec_l1Int hy7) cf_spec_l1Int rfl (by kernel_rfl)) rfl rfl rfl 24 rfl ?_
      refine DE_0 4 (.ow 88) (by kernel_rfl) rfl rfl rfl (gsat_none rfl) (by kernel_rfl) (E_move (.ow 88) rfl (by kernel_rfl)) 25 rfl ?_
      refine DE_0 5 (.po 88 2 (Int.toNat (0)) 0) (by kernel_rfl) rfl rfl rfl (gsat_none rfl) (by kernel_rfl) (Y0_idxoM (c := c66) (xs := y3.1) (v := e8) (id := 88) (T := 66) (sz := 2) (n := 0) Tryd.underlying62 sz66 rfl (by kernel_rfl) (by kernel_rfl) (by kernel_rfl) he8) 26 rfl ?_
      refine DE_0 6 (.po 88 2 (Int.toNat (0)) 0) (by kernel_rfl) rfl rfl rfl (gsat_none rfl) (by kernel_rfl) (E_field (.po 88 2 (Int.toNat (0)) 0) Tryd.underlying66 rfl sz3 rfl (by kernel_rfl) (by intro hh; cases hh)) 27 rfl ?_
      refine DE_0 7 (I e9.1) (by kernel_rfl) rfl rfl rfl (gsat_none rfl) (by kernel_rfl) (Y0_loado1 (c := c66) (xs := y3.1) (v := e9) (id := 88) (sz := 2) (T := 66) (off := 0) (n := 0) (d := Ti e9.1) (ds := [Ti e9.2]) sc3 rfl (by kernel_rfl) (by kernel_rfl) he9 (by kernel_rfl)) 28 rfl ?_
      refine DE_1 8 (by kernel_rfl) rfl rfl rfl (gsat_none rfl) (Y1_call (s_spec_l1Int hy10) cf_spec_l1Int rfl (by kernel_rfl)) rfl rfl rfl 29 rfl ?_
      refine DE_0 9 (.ow 88) (by kernel_rfl) rfl rfl rfl (gsat_none rfl) (by kernel_rfl) (E_move (.ow 88) rfl (by kernel_rfl)) 30 rfl ?_
      refine DE_0 10 (.po 88 2 (Int.toNat (0)) 0) (by kernel_rfl) rfl rfl rfl (gsat_none rfl) (by kernel_rfl) (Y0_idxoM (c := c66) (xs := y3.1) (v := e11) (id := 88) (T := 66) (sz := 2) (n := 0) Tryd.underlying62 sz66 rfl (by kernel_rfl) (by kernel_rfl) (by kernel_rfl) he11) 31 rfl ?_
      refine DE_0 11 (.po 88 2 (Int.toNat (0)) 1) (by kernel_rfl) rfl rfl rfl (gsat_none rfl) (by kernel_rfl) (E_field (.po 88 2 (Int.toNat (0)) 1) Tryd.underlying66 rfl sz3 rfl (by kernel_rfl) (by intro hh; cases hh)) 32 rfl ?_
      refine DE_0 12 (I e12.2) (by kernel_rfl) rfl rfl rfl (gsat_none rfl) (by kernel_rfl) (Y0_loado1 (c := c66) (xs := y3.1) (v := e12) (id := 88) (sz := 2) (T := 66) (off := 1) (n := 0) (d := Ti e12.2) (ds := []) sc3 rfl (by kernel_rfl) (by kernel_rfl) he12 (by kernel_rfl)) 33 rfl ?_
      refine DE_1 13 (by kernel_rfl) rfl rfl rfl (gsat_none rfl) (Y1_call (s_spec_l1Int hy13) cf_spec_l1Int rfl (by kernel_rfl)) rfl rfl rfl 34 rfl ?_
      refine DE_1 14 (by kernel_rfl) rfl rfl rfl (gsat_none rfl) (Y1_bslice (z := zv9) (els := [(⟨#[118, 97, 108, 117, 101]⟩ : ByteArray), y6, y7, y10, y13].map c9) Tryd.underlying22 iz9 rfl (by decide) rfl (by kernel_rfl) rfl (by simp [c9]) (by decide) (by decide)) rfl rfl rfl 35 rfl ?_
      refine DE_1 15 (by kernel_rfl) rfl rfl rfl (gsat_none rfl) (Y1_callS (s_spec_prText hy14) cf_spec_prText rfl (by kernel_rfl) rfl rfl) rfl rfl rfl 36 rfl ?_
      refine DE_0 16 (.c (.v (.string y14))) (by kernel_rfl) rfl rfl rfl (gsat_none rfl) (by kernel_rfl) (E_assign (.c (.v (.string y14))) rfl (by kernel_rfl)) 4 rfl ?_
      refine DE_0 17 (Bo true) (by kernel_rfl) rfl rfl rfl (gsat_none rfl) (by kernel_rfl) (E_assign (Bo true) rfl (by kernel_rfl)) 5 rfl ?_
      refine DL_nil (by kernel_rfl) ?_
      refine XL_nil ?_
      kernel_rfl
    refine V_ret ?_
    obtain rfl := some_inj h
    show Post _ _ _ _ _
    exact ⟨.inr rfl, rfl, rfl, rfl⟩
theorem cf_impl_areNumbers : ∀ args w, (callFunc 59 args).run Tryd.prog w = .ok (.enter 59 args) w := run_callFunc Tryd.func59 (by kernel_rfl) (by kernel_rfl)
set_option maxRecDepth 100000 in
set_option maxHeartbeats 400000 in
theorem s_impl_areNumbers {list1 : List Int} {r : Bool} (h : r_impl_areNumbers list1 = some r) : CallS Tryd.prog 59 [.c (.sl (list1.map c3))] (Bo r) [] := by
  refine CallS_of_text (rs := [.t 2]) (vs := [.tmp 2]) Tryd.func59 rfl rfl (.cons rfl FitsL.nil) (by decide) 18 rfl ?_
  unfold r_impl_areNumbers at h
  show V _ _ ⟨[.c (.sl (list1.map c3)), .bot, .bot, .bot, .bot, .bot, .bot, .bot, .bot, .bot, .bot, .bot, .bot, .bot, .bot, .bot, .bot, .bot], []⟩ _
  refine V_sreg [true, false, false, false, false, false, false, false, false, false, false, false, false, false, false, false, false, false] [] (s1 := ⟨[.c (.sl (list1.map c3)), .bot, .bot, .bot, .bot, .bot, .bot, .bot, .bot, .bot, .bot, .bot, .bot, .bot, .bot, .bot, .bot, .bot], []⟩) ?_ ?_
  · refine XL_cons rfl (X_of_Y0 rfl (E_assign (Bo false) rfl (by kernel_rfl))) ?_
    refine XL_nil ?_
    kernel_rfl
  refine V_seq ?_
  refine V_sreg [false, false, false, false, false, true, true, true, false, false, false, false, false, false, false, false, false, false] [] (s1 := ⟨[.bot, .bot, .bot, .bot, .bot, .c (.sl (list1.map c3)), I ((list1.length : Int)), I 0, .bot, .bot, .bot, .bot, .bot, .bot, .bot, .bot, .bot, .bot], []⟩) ?_ ?_
  · refine XL_cons rfl (X_of_Y0 rfl (E_move (.c (.sl (list1.map c3))) rfl (by kernel_rfl))) ?_
    refine XL_cons rfl (X_of_Y0 rfl (Y0_lenM (c := c3) (xs := list1) Tryd.underlying43 rfl (by kernel_rfl))) ?_
    refine XL_cons rfl (X_of_Y0 rfl (E_move (I 0) rfl (by kernel_rfl))) ?_
    refine XL_nil ?_
    kernel_rfl
  obtain ⟨qo4, hLo4, hko4⟩ := of_bind h
  refine V_toS (q := qo4) (S := fun o4 => ⟨[.bot, .bot, .bot, .bot, .bot, .bot, .bot, .bot, .bot, .bot, .bot, .bot, .bot, .bot, .bot, .bot, .bot, .bot], []⟩) [false, false, false, false, false, false, false, false, false, false, false, false, false, false, false, false, false, false] [] ?_ ?_
  · refine V_block (V_loop (fun n s => ∃ (t2 : Int), s.keep [false, false, false, false, false, true, true, true, false, false, false, false, false, false, false, false, false, false] [] = (⟨[.bot, .bot, .bot, .bot, .bot, .c (.sl (list1.map c3)), I ((list1.length : Int)), I t2, .bot, .bot, .bot, .bot, .bot, .bot, .bot, .bot, .bot, .bot], []⟩ : St) ∧ r_impl_areNumbers_L3 list1 n t2 = some qo4) FU ⟨_,  by rfl, hLo4⟩ ?_)
    clear hLo4
    rintro n s ⟨t2, hs, h⟩
    refine V_keep _ _ hs ?_
    clear hs
    cases n with
    | zero => cases h
    | succ n =>
      rw [r_impl_areNumbers_L3] at h
      refine V_sreg [false, false, false, false, false, true, true, true, true, false, false, false, false, false, false, false, false, false] [] (s1 := ⟨[.bot, .bot, .bot, .bot, .bot, .c (.sl (list1.map c3)), I ((list1.length : Int)), I t2, Bo (ltI t2 ((list1.length : Int))), .bot, .bot, .bot, .bot, .bot, .bot, .bot, .bot, .bot], []⟩) ?_ ?_
      · refine XL_cons rfl (X_of_Y0 rfl (Y0_ltw (k := .i64) (a := t2) (b := (list1.length : Int)) rfl (by kernel_rfl) (by kernel_rfl))) ?_
        refine XL_nil ?_
        kernel_rfl
      refine V_seq ?_
      refine V_cond rfl (fun hc5 => ?_) (fun hc5 => ?_)
      · have h := of_true h hc5
        refine V_skip ?_
        show V _ _ _ _
        refine V_seq ?_
        refine V_block ?_
        obtain ⟨e6, he6, h⟩ := of_bind h
        refine V_sreg [false, false, false, false, true, true, true, true, false, false, false, false, false, false, false, false, false, false] [] (s1 := ⟨[.bot, .bot, .bot, .bot, I e6, .c (.sl (list1.map c3)), I ((list1.length : Int)), I t2, .bot, .bot, .bot, .bot, .bot, .bot, .bot, .bot, .bot, .bot], []⟩) ?_ ?_
        · refine XL_cons rfl (X_of_Y0 rfl (Y0_idxM (c := c3) (xs := list1) (v := e6) (n := t2) Tryd.underlying43 sz3 rfl (by kernel_rfl) (by kernel_rfl) he6)) ?_
          refine XL_cons rfl (X_of_Y0 rfl (Y0_load1 (c := Ti e6) (cs := []) sc3 rfl (by kernel_rfl))) ?_
          refine XL_cons rfl (X_of_Y0 rfl (E_assign (I e6) rfl (by kernel_rfl))) ?_
          refine XL_nil ?_
          kernel_rfl
        refine V_sreg [false, false, false, false, false, true, true, true, false, false, false, false, false, false, false, false, true, false] [] (s1 := ⟨[.bot, .bot, .bot, .bot, .bot, .c (.sl (list1.map c3)), I ((list1.length : Int)), I t2, .bot, .bot, .bot, .bot, .bot, .bot, .bot, .bot, Bo (bif (ltI e6 (-1000000)) then true else (ltI 1000000 e6)), .bot], []⟩) ?_ ?_
        · refine XL_cons rfl (X_of_Y0 rfl (E_move (I e6) rfl (by kernel_rfl))) ?_
          refine XL_cons rfl (X_of_Y0 rfl (Y0_ltw (k := .i64) (a := e6) (b := -1000000) rfl (by kernel_rfl) (by kernel_rfl))) ?_
          refine XL_cons rfl (X_of_Y0 rfl (E_move (Bo (ltI e6 (-1000000))) rfl (by kernel_rfl))) ?_
          refine XL_split (ltI e6 (-1000000)) (fun hc7 => ?_) (fun hc7 => ?_)
          · refine XL_skipF (ltI e6 (-1000000)) rfl rfl (by kernel_rfl) hc7 rfl ?_
            refine XL_skipF (ltI e6 (-1000000)) rfl rfl (by kernel_rfl) hc7 rfl ?_
            refine XL_cons rfl (X_of_Y0 rfl (Y0_pick1 (b := ltI e6 (-1000000)) (p := true) (q := ltI 1000000 e6) rfl (by kernel_rfl) hc7 (by kernel_rfl))) ?_
            refine XL_nil ?_
            kernel_rfl
          · refine XL_takeC (ltI e6 (-1000000)) rfl rfl (by kernel_rfl) hc7 (X_of_Y0 rfl (E_move (I e6) rfl (by kernel_rfl))) ?_
            refine XL_takeC (ltI e6 (-1000000)) rfl rfl (by kernel_rfl) hc7 (X_of_Y0 rfl (Y0_gtw (k := .i64) (a := e6) (b := 1000000) rfl (by kernel_rfl) (by kernel_rfl))) ?_
            refine XL_cons rfl (X_of_Y0 rfl (Y0_pick0 (b := ltI e6 (-1000000)) (p := true) (q := ltI 1000000 e6) rfl (by kernel_rfl) hc7 (by kernel_rfl))) ?_
            refine XL_nil ?_
            kernel_rfl
        refine V_cond rfl (fun hc8 => ?_) (fun hc8 => ?_)
        · have h := of_true h hc8
          refine V_sreg [false, false, true, false, false, false, false, false, false, false, false, false, false, false, false, false, false, false] [] (s1 := ⟨[.bot, .bot, Bo false, .bot, .bot, .bot, .bot, .bot, .bot, .bot, .bot, .bot, .bot, .bot, .bot, .bot, .bot, .bot], []⟩) ?_ ?_
          · refine XL_cons rfl (X_of_Y0 rfl (E_assign (Bo false) rfl (by kernel_rfl))) ?_
            refine XL_nil ?_
            kernel_rfl
          refine V_ret ?_
          obtain rfl := some_inj h
          have h := hko4
          obtain rfl := some_inj h
          show Post _ _ _ _ _
          exact ⟨.inr rfl, rfl, rfl, rfl⟩
        · have h := of_false h hc8
          refine V_skip ?_
          show V _ _ _ _
          obtain ⟨t9, ht9, h⟩ := of_sI h
          refine V_reg [false, false, false, false, false, true, true, true, false, false, false, false, false, false, false, false, false, false] [] (s1 := ⟨[.bot, .bot, .bot, .bot, .bot, .c (.sl (list1.map c3)), I ((list1.length : Int)), I t9, .bot, .bot, .bot, .bot, .bot, .bot, .bot, .bot, .bot, .bot], []⟩) ?_ ?_
          · refine XL_cons rfl (X_of_Y0 rfl (Y0_add64 (a := t2) (b := 1) rfl (by kernel_rfl) (by kernel_rfl))) ?_
            refine XL_cons rfl (X_of_Y0 rfl (E_move (I (w64 (t2 + 1))) rfl (by kernel_rfl))) ?_
            refine XL_nil ?_
            subst ht9
            kernel_rfl
          exact ⟨n, Nat.lt_succ_self n, _,  by rfl, h⟩
      · have h := of_false h hc5
        refine V_exit ?_
        obtain rfl := some_inj h
        exact ⟨_, rfl, by rfl⟩
  rintro o4 rfl
  have h := hko4
  clear hko4
  show V _ _ _ _
  refine V_sreg [false, false, true, false, false, false, false, false, false, false, false, false, false, false, false, false, false, false] [] (s1 := ⟨[.bot, .bot, Bo true, .bot, .bot, .bot, .bot, .bot, .bot, .bot, .bot, .bot, .bot, .bot, .bot, .bot, .bot, .bot], []⟩) ?_ ?_
  · refine XL_cons rfl (X_of_Y0 rfl (E_assign (Bo true) rfl (by kernel_rfl))) ?_
    refine XL_nil ?_
    kernel_rfl
  refine V_ret ?_
  obtain rfl := some_inj h
  show Post _ _ _ _ _
  exact ⟨.inr rfl, rfl, rfl, rfl⟩
theorem cf_impl_IsForm : ∀ args w, (callFunc 132 args).run Tryd.prog w = .ok (.enter 132 args) w := run_callFunc Tryd.func132 (by kernel_rfl) (by kernel_rfl)
set_option maxRecDepth 100000 in
set_option maxHeartbeats 400000 in
theorem s_impl_IsForm {f1 : (Int × Int × Int)} {r : Bool} (h : r_impl_IsForm f1 = some r) : CallS Tryd.prog 132 [.ag [Ti f1.1, Ti f1.2.1, Ti f1.2.2]] (Bo r) [] := by
  refine CallS_of_text (rs := [.t 2]) (vs := [.tmp 2]) Tryd.func132 rfl rfl (.cons rfl FitsL.nil) (by decide) 11 rfl ?_
  unfold r_impl_IsForm at h
  show V _ _ ⟨[.ag [Ti f1.1, Ti f1.2.1, Ti f1.2.2], .bot, .bot, .bot, .bot, .bot, .bot, .bot, .bot, .bot, .bot], []⟩ _
  refine V_sreg [false, true, false, false, false, false, false, false, false, false, false] [8] (s1 := ⟨[.bot, .pt 8 0, .bot, .bot, .bot, .bot, .bot, .bot, .bot, .bot, .bot], [(8, .box [Ti f1.1, Ti f1.2.1, Ti f1.2.2])]⟩) ?_ ?_
  · refine XL_cons rfl (X_of_Y1 rfl (Y1_box (cs := [Ti f1.1, Ti f1.2.1, Ti f1.2.2]) rfl (by kernel_rfl))) ?_
    refine XL_cons rfl (X_of_Y0 rfl (E_assign (Bo false) rfl (by kernel_rfl))) ?_
    refine XL_nil ?_
    kernel_rfl
  obtain ⟨y2, hy2, h⟩ := of_bind h
  refine V_sreg [false, false, true, false, false, false, false, false, false, false, false] [] (s1 := ⟨[.bot, .bot, Bo y2, .bot, .bot, .bot, .bot, .bot, .bot, .bot, .bot], []⟩) ?_ ?_
  · refine XL_cons rfl (X_of_Y0 rfl (E_field (.pt 8 0) Tryd.underlying33 rfl sz3 rfl (by kernel_rfl) (by intro hh; cases hh))) ?_
    refine XL_cons rfl (X_of_Y0 rfl (Y0_load1 (c := Ti f1.1) (cs := [Ti f1.2.1, Ti f1.2.2]) sc3 rfl (by kernel_rfl))) ?_
    refine XL_cons rfl (X_of_Y0 rfl (E_field (.pt 8 1) Tryd.underlying33 rfl sz3 rfl (by kernel_rfl) (by intro hh; cases hh))) ?_
    refine XL_cons rfl (X_of_Y0 rfl (Y0_load1 (c := Ti f1.2.1) (cs := [Ti f1.2.2]) sc3 rfl (by kernel_rfl))) ?_
    refine XL_cons rfl (X_of_Y0 rfl (E_field (.pt 8 2) Tryd.underlying33 rfl sz3 rfl (by kernel_rfl) (by intro hh; cases hh))) ?_
    refine XL_cons rfl (X_of_Y0 rfl (Y0_load1 (c := Ti f1.2.2) (cs := []) sc3 rfl (by kernel_rfl))) ?_
    refine XL_cons rfl (X_of_Y1 rfl (Y1_bslice (z := zv3) (els := [f1.1, f1.2.1, f1.2.2].map c3) Tryd.underlying43 iz3 rfl (by decide) rfl (by kernel_rfl) rfl (by simp [c3]) (by decide) (by decide))) ?_
    refine XL_cons rfl (X_of_Y1 rfl (Y1_callS (s_impl_areNumbers hy2) cf_impl_areNumbers rfl (by kernel_rfl) rfl rfl)) ?_
    refine XL_cons rfl (X_of_Y0 rfl (E_assign (Bo y2) rfl (by kernel_rfl))) ?_
    refine XL_nil ?_
    kernel_rfl
  refine V_ret ?_
  obtain rfl := some_inj h
  show Post _ _ _ _ _
  exact ⟨.inr rfl, rfl, rfl, rfl⟩
theorem cf_impl_Form_disc : ∀ args w, (callFunc 133 args).run Tryd.prog w = .ok (.enter 133 args) w := run_callFunc Tryd.func133 (by kernel_rfl) (by kernel_rfl)
set_option maxRecDepth 100000 in
set_option maxHeartbeats 400000 in
theorem s_impl_Form_disc {f1 : (Int × Int × Int)} {r : Int} (h : r_impl_Form_disc f1 = some r) : CallS Tryd.prog 133 [.ag [Ti f1.1, Ti f1.2.1, Ti f1.2.2]] (I r) [] := by
  refine CallS_of_text (rs := [.t 2]) (vs := [.tmp 2]) Tryd.func133 rfl rfl (.cons rfl FitsL.nil) (by decide) 15 rfl ?_
  unfold r_impl_Form_disc at h
  show V _ _ ⟨[.ag [Ti f1.1, Ti f1.2.1, Ti f1.2.2], .bot, .bot, .bot, .bot, .bot, .bot, .bot, .bot, .bot, .bot, .bot, .bot, .bot, .bot], []⟩ _
  refine V_sreg [false, true, false, false, false, false, false, false, false, false, false, false, false, false, false] [8] (s1 := ⟨[.bot, .pt 8 0, .bot, .bot, .bot, .bot, .bot, .bot, .bot, .bot, .bot, .bot, .bot, .bot, .bot], [(8, .box [Ti f1.1, Ti f1.2.1, Ti f1.2.2])]⟩) ?_ ?_
  · refine XL_cons rfl (X_of_Y1 rfl (Y1_box (cs := [Ti f1.1, Ti f1.2.1, Ti f1.2.2]) rfl (by kernel_rfl))) ?_
    refine XL_cons rfl (X_of_Y0 rfl (E_assign (I 0) rfl (by kernel_rfl))) ?_
    refine XL_nil ?_
    kernel_rfl
  obtain ⟨t2, ht2, h⟩ := of_sI h
  refine V_sreg [false, false, true, false, false, false, false, false, false, false, false, false, false, false, false] [] (s1 := ⟨[.bot, .bot, I t2, .bot, .bot, .bot, .bot, .bot, .bot, .bot, .bot, .bot, .bot, .bot, .bot], []⟩) ?_ ?_
  · refine XL_cons rfl (X_of_Y0 rfl (E_field (.pt 8 1) Tryd.underlying33 rfl sz3 rfl (by kernel_rfl) (by intro hh; cases hh))) ?_
    refine XL_cons rfl (X_of_Y0 rfl (Y0_load1 (c := Ti f1.2.1) (cs := [Ti f1.2.2]) sc3 rfl (by kernel_rfl))) ?_
    refine XL_cons rfl (X_of_Y0 rfl (E_field (.pt 8 1) Tryd.underlying33 rfl sz3 rfl (by kernel_rfl) (by intro hh; cases hh))) ?_
    refine XL_cons rfl (X_of_Y0 rfl (Y0_load1 (c := Ti f1.2.1) (cs := [Ti f1.2.2]) sc3 rfl (by kernel_rfl))) ?_
    refine XL_cons rfl (X_of_Y0 rfl (Y0_mul64 (a := f1.2.1) (b := f1.2.1) rfl (by kernel_rfl) (by kernel_rfl))) ?_
    refine XL_cons rfl (X_of_Y0 rfl (E_field (.pt 8 0) Tryd.underlying33 rfl sz3 rfl (by kernel_rfl) (by intro hh; cases hh))) ?_
    refine XL_cons rfl (X_of_Y0 rfl (Y0_load1 (c := Ti f1.1) (cs := [Ti f1.2.1, Ti f1.2.2]) sc3 rfl (by kernel_rfl))) ?_
    refine XL_cons rfl (X_of_Y0 rfl (Y0_mul64 (a := 4) (b := f1.1) rfl (by kernel_rfl) (by kernel_rfl))) ?_
    refine XL_cons rfl (X_of_Y0 rfl (E_field (.pt 8 2) Tryd.underlying33 rfl sz3 rfl (by kernel_rfl) (by intro hh; cases hh))) ?_
    refine XL_cons rfl (X_of_Y0 rfl (Y0_load1 (c := Ti f1.2.2) (cs := []) sc3 rfl (by kernel_rfl))) ?_
    refine XL_cons rfl (X_of_Y0 rfl (Y0_mul64 (a := w64 (4 * f1.1)) (b := f1.2.2) rfl (by kernel_rfl) (by kernel_rfl))) ?_
    refine XL_cons rfl (X_of_Y0 rfl (Y0_sub64 (a := w64 (f1.2.1 * f1.2.1)) (b := w64 ((w64 (4 * f1.1)) * f1.2.2)) rfl (by kernel_rfl) (by kernel_rfl))) ?_
    refine XL_cons rfl (X_of_Y0 rfl (E_assign (I (w64 ((w64 (f1.2.1 * f1.2.1)) - (w64 ((w64 (4 * f1.1)) * f1.2.2))))) rfl (by kernel_rfl))) ?_
    refine XL_nil ?_
    subst ht2
    kernel_rfl
  refine V_ret ?_
  obtain rfl := some_inj h
  show Post _ _ _ _ _
  exact ⟨.inr rfl, rfl, rfl, rfl⟩
theorem cf_impl_isDefinite : ∀ args w, (callFunc 86 args).run Tryd.prog w = .ok (.enter 86 args) w := run_callFunc Tryd.func86 (by kernel_rfl) (by kernel_rfl)
set_option maxRecDepth 100000 in
set_option maxHeartbeats 400000 in
theorem s_impl_isDefinite {f1 : (Int × Int × Int)} {r : Bool} (h : r_impl_isDefinite f1 = some r) : CallS Tryd.prog 86 [.ag [Ti f1.1, Ti f1.2.1, Ti f1.2.2]] (Bo r) [] := by
  refine CallS_of_text (rs := [.t 2]) (vs := [.tmp 2]) Tryd.func86 rfl rfl (.cons rfl FitsL.nil) (by decide) 15 rfl ?_
  unfold r_impl_isDefinite at h
  show V _ _ ⟨[.ag [Ti f1.1, Ti f1.2.1, Ti f1.2.2], .bot, .bot, .bot, .bot, .bot, .bot, .bot, .bot, .bot, .bot, .bot, .bot, .bot, .bot], []⟩ _
  refine V_sreg [false, true, false, false, false, false, false, false, false, false, false, false, false, false, false] [8] (s1 := ⟨[.bot, .pt 8 0, .bot, .bot, .bot, .bot, .bot, .bot, .bot, .bot, .bot, .bot, .bot, .bot, .bot], [(8, .box [Ti f1.1, Ti f1.2.1, Ti f1.2.2])]⟩) ?_ ?_
  · refine XL_cons rfl (X_of_Y1 rfl (Y1_box (cs := [Ti f1.1, Ti f1.2.1, Ti f1.2.2]) rfl (by kernel_rfl))) ?_
    refine XL_cons rfl (X_of_Y0 rfl (E_assign (Bo false) rfl (by kernel_rfl))) ?_
    refine XL_nil ?_
    kernel_rfl
  obtain ⟨y2, hy2, h⟩ := of_bind h
  obtain ⟨b5, hb5, h⟩ := of_bind h
  refine V_sreg [false, false, true, false, false, false, false, false, false, false, false, false, false, false, false] [] (s1 := ⟨[.bot, .bot, Bo (bif b5 then (ltI 0 f1.1) else false), .bot, .bot, .bot, .bot, .bot, .bot, .bot, .bot, .bot, .bot, .bot, .bot], []⟩) ?_ ?_
  · refine XL_cons rfl (X_of_Y0 rfl (E_loadn (cs := [Ti f1.1, Ti f1.2.1, Ti f1.2.2]) [Ti f1.1, Ti f1.2.1, Ti f1.2.2] wd33 rfl (by kernel_rfl) (Nat.le_of_ble_eq_true rfl) (by kernel_rfl))) ?_
    refine XL_cons rfl (X_of_Y1 rfl (Y1_call (s_impl_IsForm hy2) cf_impl_IsForm rfl (by kernel_rfl))) ?_
    refine XL_cons rfl (X_of_Y0 rfl (E_move (Bo y2) rfl (by kernel_rfl))) ?_
    refine XL_split y2 (fun hc3 => ?_) (fun hc3 => ?_)
    · have hb5 := of_true hb5 hc3
      obtain ⟨y4, hy4, hb5⟩ := of_bind hb5
      have hb5 := some_inj hb5
      refine XL_takeC (y2) rfl rfl (by kernel_rfl) hc3 (X_of_Y0 rfl (E_loadn (cs := [Ti f1.1, Ti f1.2.1, Ti f1.2.2]) [Ti f1.1, Ti f1.2.1, Ti f1.2.2] wd33 rfl (by kernel_rfl) (Nat.le_of_ble_eq_true rfl) (by kernel_rfl))) ?_
      refine XL_takeC (y2) rfl rfl (by kernel_rfl) hc3 (X_of_Y1 rfl (Y1_call (s_impl_Form_disc hy4) cf_impl_Form_disc rfl (by kernel_rfl))) ?_
      refine XL_takeC (y2) rfl rfl (by kernel_rfl) hc3 (X_of_Y0 rfl (Y0_ltw (k := .i64) (a := y4) (b := 0) rfl (by kernel_rfl) (by kernel_rfl))) ?_
      refine XL_cons rfl (X_of_Y0 rfl (Y0_pickTe (b := y2) (p := ltI y4 0) rfl (by kernel_rfl) hc3 (by kernel_rfl) hb5)) ?_
      refine XL_cons rfl (X_of_Y0 rfl (E_move (Bo b5) rfl (by kernel_rfl))) ?_
      refine XL_split b5 (fun hc6 => ?_) (fun hc6 => ?_)
      · refine XL_takeC (b5) rfl rfl (by kernel_rfl) hc6 (X_of_Y0 rfl (E_field (.pt 8 0) Tryd.underlying33 rfl sz3 rfl (by kernel_rfl) (by intro hh; cases hh))) ?_
        refine XL_takeC (b5) rfl rfl (by kernel_rfl) hc6 (X_of_Y0 rfl (Y0_load1 (c := Ti f1.1) (cs := [Ti f1.2.1, Ti f1.2.2]) sc3 rfl (by kernel_rfl))) ?_
        refine XL_takeC (b5) rfl rfl (by kernel_rfl) hc6 (X_of_Y0 rfl (Y0_gtw (k := .i64) (a := f1.1) (b := 0) rfl (by kernel_rfl) (by kernel_rfl))) ?_
        refine XL_cons rfl (X_of_Y0 rfl (Y0_pick1 (b := b5) (p := ltI 0 f1.1) (q := false) rfl (by kernel_rfl) hc6 (by kernel_rfl))) ?_
        refine XL_cons rfl (X_of_Y0 rfl (E_assign (Bo (bif b5 then (ltI 0 f1.1) else false)) rfl (by kernel_rfl))) ?_
        refine XL_nil ?_
        kernel_rfl
      · refine XL_skipT (b5) rfl rfl (by kernel_rfl) hc6 rfl ?_
        refine XL_skipT (b5) rfl rfl (by kernel_rfl) hc6 rfl ?_
        refine XL_skipT (b5) rfl rfl (by kernel_rfl) hc6 rfl ?_
        refine XL_cons rfl (X_of_Y0 rfl (Y0_pick0 (b := b5) (p := ltI 0 f1.1) (q := false) rfl (by kernel_rfl) hc6 (by kernel_rfl))) ?_
        refine XL_cons rfl (X_of_Y0 rfl (E_assign (Bo (bif b5 then (ltI 0 f1.1) else false)) rfl (by kernel_rfl))) ?_
        refine XL_nil ?_
        kernel_rfl
    · have hb5 := some_inj (of_false hb5 hc3)
      refine XL_skipT (y2) rfl rfl (by kernel_rfl) hc3 rfl ?_
      refine XL_skipT (y2) rfl rfl (by kernel_rfl) hc3 rfl ?_
      refine XL_skipT (y2) rfl rfl (by kernel_rfl) hc3 rfl ?_
      refine XL_cons rfl (X_of_Y0 rfl (Y0_pickFe (b := y2) (p := false) rfl (by kernel_rfl) hc3 (by kernel_rfl) hb5)) ?_
      refine XL_cons rfl (X_of_Y0 rfl (E_move (Bo b5) rfl (by kernel_rfl))) ?_
      refine XL_split b5 (fun hc6 => ?_) (fun hc6 => ?_)
      · refine XL_takeC (b5) rfl rfl (by kernel_rfl) hc6 (X_of_Y0 rfl (E_field (.pt 8 0) Tryd.underlying33 rfl sz3 rfl (by kernel_rfl) (by intro hh; cases hh))) ?_
        refine XL_takeC (b5) rfl rfl (by kernel_rfl) hc6 (X_of_Y0 rfl (Y0_load1 (c := Ti f1.1) (cs := [Ti f1.2.1, Ti f1.2.2]) sc3 rfl (by kernel_rfl))) ?_
        refine XL_takeC (b5) rfl rfl (by kernel_rfl) hc6 (X_of_Y0 rfl (Y0_gtw (k := .i64) (a := f1.1) (b := 0) rfl (by kernel_rfl) (by kernel_rfl))) ?_
        refine XL_cons rfl (X_of_Y0 rfl (Y0_pick1 (b := b5) (p := ltI 0 f1.1) (q := false) rfl (by kernel_rfl) hc6 (by kernel_rfl))) ?_
        refine XL_cons rfl (X_of_Y0 rfl (E_assign (Bo (bif b5 then (ltI 0 f1.1) else false)) rfl (by kernel_rfl))) ?_
        refine XL_nil ?_
        kernel_rfl
      · refine XL_skipT (b5) rfl rfl (by kernel_rfl) hc6 rfl ?_
        refine XL_skipT (b5) rfl rfl (by kernel_rfl) hc6 rfl ?_
        refine XL_skipT (b5) rfl rfl (by kernel_rfl) hc6 rfl ?_
        refine XL_cons rfl (X_of_Y0 rfl (Y0_pick0 (b := b5) (p := ltI 0 f1.1) (q := false) rfl (by kernel_rfl) hc6 (by kernel_rfl))) ?_
        refine XL_cons rfl (X_of_Y0 rfl (E_assign (Bo (bif b5 then (ltI 0 f1.1) else false)) rfl (by kernel_rfl))) ?_
        refine XL_nil ?_
        kernel_rfl
  refine V_ret ?_
  obtain rfl := some_inj h
  show Post _ _ _ _ _
  exact ⟨.inr rfl, rfl, rfl, rfl⟩
theorem cf_impl_isShownForm : ∀ args w, (callFunc 144 args).run Tryd.prog w = .ok (.enter 144 args) w := run_callFunc Tryd.func144 (by kernel_rfl) (by kernel_rfl)
set_option maxRecDepth 100000 in
set_option maxHeartbeats 400000 in
theorem s_impl_isShownForm {f1 : (Int × Int × Int)} {r : Bool} (h : r_impl_isShownForm f1 = some r) : CallS Tryd.prog 144 [.ag [Ti f1.1, Ti f1.2.1, Ti f1.2.2]] (Bo r) [] := by
  refine CallS_of_text (rs := [.t 2]) (vs := [.tmp 2]) Tryd.func144 rfl rfl (.cons rfl FitsL.nil) (by decide) 10 rfl ?_
  unfold r_impl_isShownForm at h
  show V _ _ ⟨[.ag [Ti f1.1, Ti f1.2.1, Ti f1.2.2], .bot, .bot, .bot, .bot, .bot, .bot, .bot, .bot, .bot], []⟩ _
  refine V_sreg [false, true, false, false, false, false, false, false, false, false] [8] (s1 := ⟨[.bot, .pt 8 0, .bot, .bot, .bot, .bot, .bot, .bot, .bot, .bot], [(8, .box [Ti f1.1, Ti f1.2.1, Ti f1.2.2])]⟩) ?_ ?_
  · refine XL_cons rfl (X_of_Y1 rfl (Y1_box (cs := [Ti f1.1, Ti f1.2.1, Ti f1.2.2]) rfl (by kernel_rfl))) ?_
    refine XL_cons rfl (X_of_Y0 rfl (E_assign (Bo false) rfl (by kernel_rfl))) ?_
    refine XL_nil ?_
    kernel_rfl
  obtain ⟨y2, hy2, h⟩ := of_bind h
  obtain ⟨b5, hb5, h⟩ := of_bind h
  refine V_sreg [false, false, true, false, false, false, false, false, false, false] [] (s1 := ⟨[.bot, .bot, Bo b5, .bot, .bot, .bot, .bot, .bot, .bot, .bot], []⟩) ?_ ?_
  · refine XL_cons rfl (X_of_Y0 rfl (E_loadn (cs := [Ti f1.1, Ti f1.2.1, Ti f1.2.2]) [Ti f1.1, Ti f1.2.1, Ti f1.2.2] wd33 rfl (by kernel_rfl) (Nat.le_of_ble_eq_true rfl) (by kernel_rfl))) ?_
    refine XL_cons rfl (X_of_Y1 rfl (Y1_call (s_impl_isDefinite hy2) cf_impl_isDefinite rfl (by kernel_rfl))) ?_
    refine XL_cons rfl (X_of_Y0 rfl (E_move (Bo y2) rfl (by kernel_rfl))) ?_
    refine XL_split y2 (fun hc3 => ?_) (fun hc3 => ?_)
    · have hb5 := of_true hb5 hc3
      obtain ⟨y4, hy4, hb5⟩ := of_bind hb5
      have hb5 := some_inj hb5
      refine XL_takeC (y2) rfl rfl (by kernel_rfl) hc3 (X_of_Y0 rfl (E_loadn (cs := [Ti f1.1, Ti f1.2.1, Ti f1.2.2]) [Ti f1.1, Ti f1.2.1, Ti f1.2.2] wd33 rfl (by kernel_rfl) (Nat.le_of_ble_eq_true rfl) (by kernel_rfl))) ?_
      refine XL_takeC (y2) rfl rfl (by kernel_rfl) hc3 (X_of_Y1 rfl (Y1_call (s_impl_Form_disc hy4) cf_impl_Form_disc rfl (by kernel_rfl))) ?_
      refine XL_takeC (y2) rfl rfl (by kernel_rfl) hc3 (X_of_Y0 rfl (Y0_gew (k := .i64) (a := y4) (b := -2000) rfl (by kernel_rfl) (by kernel_rfl))) ?_
      refine XL_cons rfl (X_of_Y0 rfl (Y0_pickTe (b := y2) (p := leI (-2000) y4) rfl (by kernel_rfl) hc3 (by kernel_rfl) hb5)) ?_
      refine XL_cons rfl (X_of_Y0 rfl (E_assign (Bo b5) rfl (by kernel_rfl))) ?_
      refine XL_nil ?_
      kernel_rfl
    · have hb5 := some_inj (of_false hb5 hc3)
      refine XL_skipT (y2) rfl rfl (by kernel_rfl) hc3 rfl ?_
      refine XL_skipT (y2) rfl rfl (by kernel_rfl) hc3 rfl ?_
      refine XL_skipT (y2) rfl rfl (by kernel_rfl) hc3 rfl ?_
      refine XL_cons rfl (X_of_Y0 rfl (Y0_pickFe (b := y2) (p := false) rfl (by kernel_rfl) hc3 (by kernel_rfl) hb5)) ?_
      refine XL_cons rfl (X_of_Y0 rfl (E_assign (Bo b5) rfl (by kernel_rfl))) ?_
      refine XL_nil ?_
      kernel_rfl
  refine V_ret ?_
  obtain rfl := some_inj h
  show Post _ _ _ _ _
  exact ⟨.inr rfl, rfl, rfl, rfl⟩
theorem cf_impl_isShown : ∀ args w, (callFunc 77 args).run Tryd.prog w = .ok (.enter 77 args) w := run_callFunc Tryd.func77 (by kernel_rfl) (by kernel_rfl)
set_option maxRecDepth 100000 in
set_option maxHeartbeats 400000 in
theorem s_impl_isShown {vn1 : Int} {r : Bool} (h : r_impl_isShown vn1 = some r) : CallS Tryd.prog 77 [I vn1] (Bo r) [] := by
  refine CallS_of_text (rs := [.t 2]) (vs := [.tmp 2]) Tryd.func77 rfl rfl (.cons rfl FitsL.nil) (by decide) 9 rfl ?_
  unfold r_impl_isShown at h
  show V _ _ ⟨[I vn1, .bot, .bot, .bot, .bot, .bot, .bot, .bot, .bot], []⟩ _
  refine V_sreg [true, false, false, false, false, false, false, false, false] [] (s1 := ⟨[I vn1, .bot, .bot, .bot, .bot, .bot, .bot, .bot, .bot], []⟩) ?_ ?_
  · refine XL_cons rfl (X_of_Y0 rfl (E_assign (Bo false) rfl (by kernel_rfl))) ?_
    refine XL_nil ?_
    kernel_rfl
  refine V_sreg [false, false, true, false, false, false, false, false, false] [] (s1 := ⟨[.bot, .bot, Bo (bif (leI 1 vn1) then (leI vn1 10000) else false), .bot, .bot, .bot, .bot, .bot, .bot], []⟩) ?_ ?_
  · refine XL_cons rfl (X_of_Y0 rfl (E_move (I vn1) rfl (by kernel_rfl))) ?_
    refine XL_cons rfl (X_of_Y0 rfl (Y0_gew (k := .i64) (a := vn1) (b := 1) rfl (by kernel_rfl) (by kernel_rfl))) ?_
    refine XL_cons rfl (X_of_Y0 rfl (E_move (Bo (leI 1 vn1)) rfl (by kernel_rfl))) ?_
    refine XL_split (leI 1 vn1) (fun hc2 => ?_) (fun hc2 => ?_)
    · refine XL_takeC (leI 1 vn1) rfl rfl (by kernel_rfl) hc2 (X_of_Y0 rfl (E_move (I vn1) rfl (by kernel_rfl))) ?_
      refine XL_takeC (leI 1 vn1) rfl rfl (by kernel_rfl) hc2 (X_of_Y0 rfl (Y0_lew (k := .i64) (a := vn1) (b := 10000) rfl (by kernel_rfl) (by kernel_rfl))) ?_
      refine XL_cons rfl (X_of_Y0 rfl (Y0_pick1 (b := leI 1 vn1) (p := leI vn1 10000) (q := false) rfl (by kernel_rfl) hc2 (by kernel_rfl))) ?_
      refine XL_cons rfl (X_of_Y0 rfl (E_assign (Bo (bif (leI 1 vn1) then (leI vn1 10000) else false)) rfl (by kernel_rfl))) ?_
      refine XL_nil ?_
      kernel_rfl
    · refine XL_skipT (leI 1 vn1) rfl rfl (by kernel_rfl) hc2 rfl ?_
      refine XL_skipT (leI 1 vn1) rfl rfl (by kernel_rfl) hc2 rfl ?_
      refine XL_cons rfl (X_of_Y0 rfl (Y0_pick0 (b := leI 1 vn1) (p := leI vn1 10000) (q := false) rfl (by kernel_rfl) hc2 (by kernel_rfl))) ?_
      refine XL_cons rfl (X_of_Y0 rfl (E_assign (Bo (bif (leI 1 vn1) then (leI vn1 10000) else false)) rfl (by kernel_rfl))) ?_
      refine XL_nil ?_
      kernel_rfl
  refine V_ret ?_
  obtain rfl := some_inj h
  show Post _ _ _ _ _
  exact ⟨.inr rfl, rfl, rfl, rfl⟩
theorem cf_impl_root : ∀ args w, (callFunc 173 args).run Tryd.prog w = .ok (.enter 173 args) w := run_callFunc Tryd.func173 (by kernel_rfl) (by kernel_rfl)
set_option maxRecDepth 100000 in
set_option maxHeartbeats 400000 in
theorem s_impl_root {vn1 : Int} {r : Int} (h : r_impl_root vn1 = some r) : CallS Tryd.prog 173 [I vn1] (I r) [] := by
  refine CallS_of_text (rs := [.t 2]) (vs := [.tmp 2]) Tryd.func173 rfl rfl (.cons rfl FitsL.nil) (by decide) 23 rfl ?_
  unfold r_impl_root at h
  show V _ _ ⟨[I vn1, .bot, .bot, .bot, .bot, .bot, .bot, .bot, .bot, .bot, .bot, .bot, .bot, .bot, .bot, .bot, .bot, .bot, .bot, .bot, .bot, .bot, .bot], []⟩ _
  refine V_sreg [true, false, false, false, false, false, false, false, false, false, false, false, false, false, false, false, false, false, false, false, false, false, false] [] (s1 := ⟨[I vn1, .bot, .bot, .bot, .bot, .bot, .bot, .bot, .bot, .bot, .bot, .bot, .bot, .bot, .bot, .bot, .bot, .bot, .bot, .bot, .bot, .bot, .bot], []⟩) ?_ ?_
  · refine XL_cons rfl (X_of_Y0 rfl (E_assign (I 0) rfl (by kernel_rfl))) ?_
    refine XL_nil ?_
    kernel_rfl
  refine V_sreg [true, false, false, true, true, false, false, false, false, false, false, false, false, false, false, false, false, false, false, false, false, false, false] [] (s1 := ⟨[I vn1, .bot, .bot, I 0, I 3000000000, .bot, .bot, .bot, .bot, .bot, .bot, .bot, .bot, .bot, .bot, .bot, .bot, .bot, .bot, .bot, .bot, .bot, .bot], []⟩) ?_ ?_
  · refine XL_cons rfl (X_of_Y0 rfl (E_assign (I 0) rfl (by kernel_rfl))) ?_
    refine XL_cons rfl (X_of_Y0 rfl (E_assign (I 3000000000) rfl (by kernel_rfl))) ?_
    refine XL_nil ?_
    kernel_rfl
  refine V_seq ?_
  obtain ⟨o5, hLo5, h⟩ := of_bind h
  refine V_toK [false, false, false, true, false, false, false, false, false, false, false, false, false, false, false, false, false, false, false, false, false, false, false] [] (s1 := ⟨[.bot, .bot, .bot, I o5, .bot, .bot, .bot, .bot, .bot, .bot, .bot, .bot, .bot, .bot, .bot, .bot, .bot, .bot, .bot, .bot, .bot, .bot, .bot], []⟩) ?_ ?_
  · clear h
    refine V_block (V_loop (fun n s => ∃ (low2 : Int) (high3 : Int), s.keep [true, false, false, true, true, false, false, false, false, false, false, false, false, false, false, false, false, false, false, false, false, false, false] [] = (⟨[I vn1, .bot, .bot, I low2, I high3, .bot, .bot, .bot, .bot, .bot, .bot, .bot, .bot, .bot, .bot, .bot, .bot, .bot, .bot, .bot, .bot, .bot, .bot], []⟩ : St) ∧ r_impl_root_L4 vn1 n low2 high3 = some o5) FU ⟨_, _,  by rfl, hLo5⟩ ?_)
    clear hLo5
    rintro n s ⟨low2, high3, hs, h⟩
    refine V_keep _ _ hs ?_
    clear hs
    cases n with
    | zero => cases h
    | succ n =>
      rw [r_impl_root_L4] at h
      refine V_seq ?_
      refine V_sreg [true, false, false, true, true, false, false, false, true, false, false, false, false, false, false, false, false, false, false, false, false, false, false] [] (s1 := ⟨[I vn1, .bot, .bot, I low2, I high3, .bot, .bot, .bot, Bo (ltI low2 high3), .bot, .bot, .bot, .bot, .bot, .bot, .bot, .bot, .bot, .bot, .bot, .bot, .bot, .bot], []⟩) ?_ ?_
      · refine XL_cons rfl (X_of_Y0 rfl (E_move (I low2) rfl (by kernel_rfl))) ?_
        refine XL_cons rfl (X_of_Y0 rfl (E_move (I high3) rfl (by kernel_rfl))) ?_
        refine XL_cons rfl (X_of_Y0 rfl (Y0_ltw (k := .i64) (a := low2) (b := high3) rfl (by kernel_rfl) (by kernel_rfl))) ?_
        refine XL_nil ?_
        kernel_rfl
      refine V_cond rfl (fun hc6 => ?_) (fun hc6 => ?_)
      · have h := of_true h hc6
        refine V_skip ?_
        show V _ _ _ _
        refine V_block ?_
        obtain ⟨vm7, hvm7, h⟩ := of_sI h
        refine V_sreg [true, false, false, true, true, true, false, false, false, false, false, false, false, false, false, false, false, false, false, false, false, false, false] [] (s1 := ⟨[I vn1, .bot, .bot, I low2, I high3, I vm7, .bot, .bot, .bot, .bot, .bot, .bot, .bot, .bot, .bot, .bot, .bot, .bot, .bot, .bot, .bot, .bot, .bot], []⟩) ?_ ?_
        · refine XL_cons rfl (X_of_Y0 rfl (E_move (I low2) rfl (by kernel_rfl))) ?_
          refine XL_cons rfl (X_of_Y0 rfl (E_move (I high3) rfl (by kernel_rfl))) ?_
          refine XL_cons rfl (X_of_Y0 rfl (Y0_add64 (a := low2) (b := high3) rfl (by kernel_rfl) (by kernel_rfl))) ?_
          refine XL_cons rfl (X_of_Y0 rfl (Y0_add64 (a := w64 (low2 + high3)) (b := 1) rfl (by kernel_rfl) (by kernel_rfl))) ?_
          refine XL_cons rfl (X_of_Y0 rfl (Y0_quo64 (a := w64 ((w64 (low2 + high3)) + 1)) (b := 2) rfl (by kernel_rfl) (by kernel_rfl) (by decide))) ?_
          refine XL_cons rfl (X_of_Y0 rfl (E_assign (I (w64 (Int.tdiv (w64 ((w64 (low2 + high3)) + 1)) 2))) rfl (by kernel_rfl))) ?_
          refine XL_nil ?_
          subst hvm7
          kernel_rfl
        refine V_sreg [true, false, false, true, true, true, false, false, false, false, false, false, false, false, false, false, false, false, true, false, false, false, false] [] (s1 := ⟨[I vn1, .bot, .bot, I low2, I high3, I vm7, .bot, .bot, .bot, .bot, .bot, .bot, .bot, .bot, .bot, .bot, .bot, .bot, Bo (leI (w64 (vm7 * vm7)) vn1), .bot, .bot, .bot, .bot], []⟩) ?_ ?_
        · refine XL_cons rfl (X_of_Y0 rfl (E_move (I vm7) rfl (by kernel_rfl))) ?_
          refine XL_cons rfl (X_of_Y0 rfl (E_move (I vm7) rfl (by kernel_rfl))) ?_
          refine XL_cons rfl (X_of_Y0 rfl (Y0_mul64 (a := vm7) (b := vm7) rfl (by kernel_rfl) (by kernel_rfl))) ?_
          refine XL_cons rfl (X_of_Y0 rfl (E_move (I vn1) rfl (by kernel_rfl))) ?_
          refine XL_cons rfl (X_of_Y0 rfl (Y0_lew (k := .i64) (a := w64 (vm7 * vm7)) (b := vn1) rfl (by kernel_rfl) (by kernel_rfl))) ?_
          refine XL_nil ?_
          kernel_rfl
        refine V_cond rfl (fun hc8 => ?_) (fun hc8 => ?_)
        · have h := of_true h hc8
          refine V_reg [true, false, false, true, true, false, false, false, false, false, false, false, false, false, false, false, false, false, false, false, false, false, false] [] (s1 := ⟨[I vn1, .bot, .bot, I vm7, I high3, .bot, .bot, .bot, .bot, .bot, .bot, .bot, .bot, .bot, .bot, .bot, .bot, .bot, .bot, .bot, .bot, .bot, .bot], []⟩) ?_ ?_
          · refine XL_cons rfl (X_of_Y0 rfl (E_move (I vm7) rfl (by kernel_rfl))) ?_
            refine XL_cons rfl (X_of_Y0 rfl (E_assign (I vm7) rfl (by kernel_rfl))) ?_
            refine XL_nil ?_
            kernel_rfl
          exact ⟨n, Nat.lt_succ_self n, _, _,  by rfl, h⟩
        · have h := of_false h hc8
          obtain ⟨high9, hhigh9, h⟩ := of_sI h
          refine V_reg [true, false, false, true, true, false, false, false, false, false, false, false, false, false, false, false, false, false, false, false, false, false, false] [] (s1 := ⟨[I vn1, .bot, .bot, I low2, I high9, .bot, .bot, .bot, .bot, .bot, .bot, .bot, .bot, .bot, .bot, .bot, .bot, .bot, .bot, .bot, .bot, .bot, .bot], []⟩) ?_ ?_
          · refine XL_cons rfl (X_of_Y0 rfl (E_move (I vm7) rfl (by kernel_rfl))) ?_
            refine XL_cons rfl (X_of_Y0 rfl (Y0_sub64 (a := vm7) (b := 1) rfl (by kernel_rfl) (by kernel_rfl))) ?_
            refine XL_cons rfl (X_of_Y0 rfl (E_assign (I (w64 (vm7 - 1))) rfl (by kernel_rfl))) ?_
            refine XL_nil ?_
            subst hhigh9
            kernel_rfl
          exact ⟨n, Nat.lt_succ_self n, _, _,  by rfl, h⟩
      · have h := of_false h hc6
        refine V_exit ?_
        obtain rfl := some_inj h
        show St.keep _ _ _ = _
        rfl
  show V _ _ _ _
  refine V_sreg [false, false, true, false, false, false, false, false, false, false, false, false, false, false, false, false, false, false, false, false, false, false, false] [] (s1 := ⟨[.bot, .bot, I o5, .bot, .bot, .bot, .bot, .bot, .bot, .bot, .bot, .bot, .bot, .bot, .bot, .bot, .bot, .bot, .bot, .bot, .bot, .bot, .bot], []⟩) ?_ ?_
  · refine XL_cons rfl (X_of_Y0 rfl (E_move (I o5) rfl (by kernel_rfl))) ?_
    refine XL_cons rfl (X_of_Y0 rfl (E_assign (I o5) rfl (by kernel_rfl))) ?_
    refine XL_nil ?_
    kernel_rfl
  refine V_ret ?_
  obtain rfl := some_inj h
  show Post _ _ _ _ _
  exact ⟨.inr rfl, rfl, rfl, rfl⟩
theorem cf_impl_isSquare : ∀ args w, (callFunc 153 args).run Tryd.prog w = .ok (.enter 153 args) w := run_callFunc Tryd.func153 (by kernel_rfl) (by kernel_rfl)
set_option maxRecDepth 100000 in
set_option maxHeartbeats 400000 in
theorem s_impl_isSquare {vn1 : Int} {r : Bool} (h : r_impl_isSquare vn1 = some r) : CallS Tryd.prog 153 [I vn1] (Bo r) [] := by
  refine CallS_of_text (rs := [.t 2]) (vs := [.tmp 2]) Tryd.func153 rfl rfl (.cons rfl FitsL.nil) (by decide) 14 rfl ?_
  unfold r_impl_isSquare at h
  show V _ _ ⟨[I vn1, .bot, .bot, .bot, .bot, .bot, .bot, .bot, .bot, .bot, .bot, .bot, .bot, .bot], []⟩ _
  refine V_sreg [true, false, false, false, false, false, false, false, false, false, false, false, false, false] [] (s1 := ⟨[I vn1, .bot, .bot, .bot, .bot, .bot, .bot, .bot, .bot, .bot, .bot, .bot, .bot, .bot], []⟩) ?_ ?_
  · refine XL_cons rfl (X_of_Y0 rfl (E_assign (Bo false) rfl (by kernel_rfl))) ?_
    refine XL_nil ?_
    kernel_rfl
  obtain ⟨b5, hb5, h⟩ := of_bind h
  refine V_sreg [false, false, true, false, false, false, false, false, false, false, false, false, false, false] [] (s1 := ⟨[.bot, .bot, Bo b5, .bot, .bot, .bot, .bot, .bot, .bot, .bot, .bot, .bot, .bot, .bot], []⟩) ?_ ?_
  · refine XL_cons rfl (X_of_Y0 rfl (E_move (I vn1) rfl (by kernel_rfl))) ?_
    refine XL_cons rfl (X_of_Y0 rfl (Y0_gew (k := .i64) (a := vn1) (b := 0) rfl (by kernel_rfl) (by kernel_rfl))) ?_
    refine XL_cons rfl (X_of_Y0 rfl (E_move (Bo (leI 0 vn1)) rfl (by kernel_rfl))) ?_
    refine XL_split (leI 0 vn1) (fun hc2 => ?_) (fun hc2 => ?_)
    · have hb5 := of_true hb5 hc2
      obtain ⟨y3, hy3, hb5⟩ := of_bind hb5
      obtain ⟨y4, hy4, hb5⟩ := of_bind hb5
      have hb5 := some_inj hb5
      refine XL_takeC (leI 0 vn1) rfl rfl (by kernel_rfl) hc2 (X_of_Y0 rfl (E_move (I vn1) rfl (by kernel_rfl))) ?_
      refine XL_takeC (leI 0 vn1) rfl rfl (by kernel_rfl) hc2 (X_of_Y1 rfl (Y1_call (s_impl_root hy3) cf_impl_root rfl (by kernel_rfl))) ?_
      refine XL_takeC (leI 0 vn1) rfl rfl (by kernel_rfl) hc2 (X_of_Y0 rfl (E_move (I vn1) rfl (by kernel_rfl))) ?_
      refine XL_takeC (leI 0 vn1) rfl rfl (by kernel_rfl) hc2 (X_of_Y1 rfl (Y1_call (s_impl_root hy4) cf_impl_root rfl (by kernel_rfl))) ?_
      refine XL_takeC (leI 0 vn1) rfl rfl (by kernel_rfl) hc2 (X_of_Y0 rfl (Y0_mul64 (a := y3) (b := y4) rfl (by kernel_rfl) (by kernel_rfl))) ?_
      refine XL_takeC (leI 0 vn1) rfl rfl (by kernel_rfl) hc2 (X_of_Y0 rfl (E_move (I vn1) rfl (by kernel_rfl))) ?_
      refine XL_takeC (leI 0 vn1) rfl rfl (by kernel_rfl) hc2 (X_of_Y0 rfl (Y0_eqw (k := .i64) (a := w64 (y3 * y4)) (b := vn1) rfl (by kernel_rfl) (by kernel_rfl))) ?_
      refine XL_cons rfl (X_of_Y0 rfl (Y0_pickTe (b := leI 0 vn1) (p := eqI (w64 (y3 * y4)) vn1) rfl (by kernel_rfl) hc2 (by kernel_rfl) hb5)) ?_
      refine XL_cons rfl (X_of_Y0 rfl (E_assign (Bo b5) rfl (by kernel_rfl))) ?_
      refine XL_nil ?_
      kernel_rfl
    · have hb5 := some_inj (of_false hb5 hc2)
      refine XL_skipT (leI 0 vn1) rfl rfl (by kernel_rfl) hc2 rfl ?_
      refine XL_skipT (leI 0 vn1) rfl rfl (by kernel_rfl) hc2 rfl ?_
      refine XL_skipT (leI 0 vn1) rfl rfl (by kernel_rfl) hc2 rfl ?_
      refine XL_skipT (leI 0 vn1) rfl rfl (by kernel_rfl) hc2 rfl ?_
      refine XL_skipT (leI 0 vn1) rfl rfl (by kernel_rfl) hc2 rfl ?_
      refine XL_skipT (leI 0 vn1) rfl rfl (by kernel_rfl) hc2 rfl ?_
      refine XL_skipT (leI 0 vn1) rfl rfl (by kernel_rfl) hc2 rfl ?_
      refine XL_cons rfl (X_of_Y0 rfl (Y0_pickFe (b := leI 0 vn1) (p := false) rfl (by kernel_rfl) hc2 (by kernel_rfl) hb5)) ?_
      refine XL_cons rfl (X_of_Y0 rfl (E_assign (Bo b5) rfl (by kernel_rfl))) ?_
      refine XL_nil ?_
      kernel_rfl
  refine V_ret ?_
  obtain rfl := some_inj h
  show Post _ _ _ _ _
  exact ⟨.inr rfl, rfl, rfl, rfl⟩
end Go.Proofs.YtmpnloechnfkjaaDoor
