/-
  The functions of the program compute what the plain functions say.
  Conditions: none.
-/
import Derived.Test.YtdffhgibkeifmaaShX
import Derived.Test.YtdffhgibkeifmaaHsRaw
import Derived.Test.YtdffhgibkeifmaaRows
namespace Go.Proofs.Ytdffhgibkeifmaa
open Go.RowKit
set_option linter.unusedVariables false
set_option linter.unusedSimpArgs false
def c5 (x : Int) : List Tr := [.v (.int .u8 x)]
def c3 (x : Int) : List Tr := [Ti x]
def c36 (x : (Int × Int × Int)) : List Tr := [Ti x.1, Ti x.2.1, Ti x.2.2]
def zv3 : Value := .int .i64 0
theorem zf3 : (Try.prog.info? 3).bind (·.zero) = some zv3 := by kernel_rfl
def zv36 : Value := .agg #[.int .i64 0, .int .i64 0, .int .i64 0]
theorem zf36 : (Try.prog.info? 36).bind (·.zero) = some zv36 := by kernel_rfl
theorem iz36 : (Try.prog.info? 36).map (fun i => (i.zero, i.size)) = some (some zv36, 3) := by kernel_rfl
theorem izb3 : (Try.prog.info? 3).map (fun i => (i.zero, i.size, i.bytes)) = some (some zv3, 1, 8) := by kernel_rfl
theorem izb36 : (Try.prog.info? 36).map (fun i => (i.zero, i.size, i.bytes)) = some (some zv36, 3, 24) := by kernel_rfl
theorem sc3 : scalar Try.prog 3 := ⟨_, Try.underlying3, rfl⟩
theorem sc5 : scalar Try.prog 5 := ⟨_, Try.underlying5, rfl⟩
theorem sz3 : (Try.prog.info? 3).map (·.size) = some 1 := by kernel_rfl
theorem sz5 : (Try.prog.info? 5).map (·.size) = some 1 := by kernel_rfl
theorem sz36 : (Try.prog.info? 36).map (·.size) = some 3 := by kernel_rfl
theorem wd36 : wide Try.prog 36 3 := ⟨⟨_, Try.underlying36, rfl⟩, by kernel_rfl⟩
def pl36 : Nat → Option (Nat × Nat) := fun i => (#[(0, 1), (1, 1), (2, 1)] : Array (Nat × Nat))[i]?
theorem bt36 : ∀ ps, Try.prog.built 36 ps = Instr.fill pl36 #[.int .i64 0, .int .i64 0, .int .i64 0] ps := fun ps => by kernel_rfl
theorem cf_laws_big : ∀ args w, (callFunc 25 args).run Try.prog w = .ok (.enter 25 args) w := run_callFunc Try.func25 (by kernel_rfl) (by kernel_rfl)
set_option maxRecDepth 100000 in
set_option maxHeartbeats 400000 in
theorem s_laws_big {code1 : List Int} {more2 : List Int} {r : Bool} (h : r_laws_big code1 more2 = some r) : CallS Try.prog 25 [.c (.sl (code1.map c5)), .c (.sl (more2.map c5))] (Bo r) [] := by
  refine CallS_of_text (rs := [.t 4]) (vs := [.tmp 4]) Try.func25 rfl rfl (.cons rfl FitsL.nil) (by decide) 16 rfl ?_
  unfold r_laws_big at h
  show V _ _ ⟨[.c (.sl (code1.map c5)), .c (.sl (more2.map c5)), .bot, .bot, .bot, .bot, .bot, .bot, .bot, .bot, .bot, .bot, .bot, .bot, .bot, .bot], []⟩ _
  refine V_sreg [true, true, false, false, false, false, false, false, false, false, false, false, false, false, false, false] [] (s1 := ⟨[.c (.sl (code1.map c5)), .c (.sl (more2.map c5)), .bot, .bot, .bot, .bot, .bot, .bot, .bot, .bot, .bot, .bot, .bot, .bot, .bot, .bot], []⟩) ?_ ?_
  · refine XL_cons rfl (X_of_Y0 rfl (E_assign (Bo false) rfl (by kernel_rfl))) ?_
    refine XL_nil ?_
    kernel_rfl
  obtain ⟨t4, ht4, h⟩ := of_bind h
  have ht4 := some_inj ht4
  refine V_sreg [false, false, false, false, true, false, false, false, false, false, false, false, false, false, false, false] [] (s1 := ⟨[.bot, .bot, .bot, .bot, Bo t4, .bot, .bot, .bot, .bot, .bot, .bot, .bot, .bot, .bot, .bot, .bot], []⟩) ?_ ?_
  · refine XL_cons rfl (X_of_Y0 rfl (E_move (.c (.sl (code1.map c5))) rfl (by kernel_rfl))) ?_
    refine XL_cons rfl (X_of_Y0 rfl (Y0_lenM (c := c5) (xs := code1) Try.underlying41 rfl (by kernel_rfl))) ?_
    refine XL_cons rfl (X_of_Y0 rfl (Y0_gtw (k := .i64) (a := (code1.length : Int)) (b := 1048576) rfl (by kernel_rfl) (by kernel_rfl))) ?_
    refine XL_cons rfl (X_of_Y0 rfl (E_move (Bo (ltI 1048576 ((code1.length : Int)))) rfl (by kernel_rfl))) ?_
    refine XL_split (ltI 1048576 ((code1.length : Int))) (fun hc3 => ?_) (fun hc3 => ?_)
    · refine XL_skipF (ltI 1048576 ((code1.length : Int))) rfl rfl (by kernel_rfl) hc3 rfl ?_
      refine XL_skipF (ltI 1048576 ((code1.length : Int))) rfl rfl (by kernel_rfl) hc3 rfl ?_
      refine XL_skipF (ltI 1048576 ((code1.length : Int))) rfl rfl (by kernel_rfl) hc3 rfl ?_
      refine XL_skipF (ltI 1048576 ((code1.length : Int))) rfl rfl (by kernel_rfl) hc3 rfl ?_
      refine XL_skipF (ltI 1048576 ((code1.length : Int))) rfl rfl (by kernel_rfl) hc3 rfl ?_
      refine XL_skipF (ltI 1048576 ((code1.length : Int))) rfl rfl (by kernel_rfl) hc3 rfl ?_
      refine XL_cons rfl (X_of_Y0 rfl (Y0_pick1 (b := ltI 1048576 ((code1.length : Int))) (p := true) (q := ltI (w64 (1048576 - ((code1.length : Int)))) ((more2.length : Int))) rfl (by kernel_rfl) hc3 (by kernel_rfl))) ?_
      refine XL_cons rfl (X_of_Y0 rfl (E_assign (Bo (bif (ltI 1048576 ((code1.length : Int))) then true else (ltI (w64 (1048576 - ((code1.length : Int)))) ((more2.length : Int))))) rfl (by kernel_rfl))) ?_
      refine XL_nil ?_
      subst ht4
      kernel_rfl
    · refine XL_takeC (ltI 1048576 ((code1.length : Int))) rfl rfl (by kernel_rfl) hc3 (X_of_Y0 rfl (E_move (.c (.sl (more2.map c5))) rfl (by kernel_rfl))) ?_
      refine XL_takeC (ltI 1048576 ((code1.length : Int))) rfl rfl (by kernel_rfl) hc3 (X_of_Y0 rfl (Y0_lenM (c := c5) (xs := more2) Try.underlying41 rfl (by kernel_rfl))) ?_
      refine XL_takeC (ltI 1048576 ((code1.length : Int))) rfl rfl (by kernel_rfl) hc3 (X_of_Y0 rfl (E_move (.c (.sl (code1.map c5))) rfl (by kernel_rfl))) ?_
      refine XL_takeC (ltI 1048576 ((code1.length : Int))) rfl rfl (by kernel_rfl) hc3 (X_of_Y0 rfl (Y0_lenM (c := c5) (xs := code1) Try.underlying41 rfl (by kernel_rfl))) ?_
      refine XL_takeC (ltI 1048576 ((code1.length : Int))) rfl rfl (by kernel_rfl) hc3 (X_of_Y0 rfl (Y0_sub64 (a := 1048576) (b := (code1.length : Int)) rfl (by kernel_rfl) (by kernel_rfl))) ?_
      refine XL_takeC (ltI 1048576 ((code1.length : Int))) rfl rfl (by kernel_rfl) hc3 (X_of_Y0 rfl (Y0_gtw (k := .i64) (a := (more2.length : Int)) (b := w64 (1048576 - ((code1.length : Int)))) rfl (by kernel_rfl) (by kernel_rfl))) ?_
      refine XL_cons rfl (X_of_Y0 rfl (Y0_pick0 (b := ltI 1048576 ((code1.length : Int))) (p := true) (q := ltI (w64 (1048576 - ((code1.length : Int)))) ((more2.length : Int))) rfl (by kernel_rfl) hc3 (by kernel_rfl))) ?_
      refine XL_cons rfl (X_of_Y0 rfl (E_assign (Bo (bif (ltI 1048576 ((code1.length : Int))) then true else (ltI (w64 (1048576 - ((code1.length : Int)))) ((more2.length : Int))))) rfl (by kernel_rfl))) ?_
      refine XL_nil ?_
      subst ht4
      kernel_rfl
  refine V_ret ?_
  obtain rfl := some_inj h
  show Post _ _ _ _ _
  exact ⟨.inr rfl, rfl, rfl, rfl⟩
theorem cf_laws_numberOf : ∀ args w, (callFunc 26 args).run Try.prog w = .ok (.enter 26 args) w := run_callFunc Try.func26 (by kernel_rfl) (by kernel_rfl)
set_option maxRecDepth 100000 in
set_option maxHeartbeats 400000 in
theorem s_laws_numberOf {b1 : List Int} {r : Int} (h : r_laws_numberOf b1 = some r) : CallS Try.prog 26 [.c (.sl (b1.map c5))] (I r) [] := by
  refine CallS_of_text (rs := [.t 2]) (vs := [.tmp 2]) Try.func26 rfl rfl (.cons rfl FitsL.nil) (by decide) 20 rfl ?_
  unfold r_laws_numberOf at h
  show V _ _ ⟨[.c (.sl (b1.map c5)), .bot, .bot, .bot, .bot, .bot, .bot, .bot, .bot, .bot, .bot, .bot, .bot, .bot, .bot, .bot, .bot, .bot, .bot, .bot], []⟩ _
  refine V_sreg [true, false, false, false, false, false, false, false, false, false, false, false, false, false, false, false, false, false, false, false] [] (s1 := ⟨[.c (.sl (b1.map c5)), .bot, .bot, .bot, .bot, .bot, .bot, .bot, .bot, .bot, .bot, .bot, .bot, .bot, .bot, .bot, .bot, .bot, .bot, .bot], []⟩) ?_ ?_
  · refine XL_cons rfl (X_of_Y0 rfl (E_assign (I 0) rfl (by kernel_rfl))) ?_
    refine XL_nil ?_
    kernel_rfl
  refine V_sreg [true, false, false, true, false, false, false, false, false, false, false, false, false, false, false, false, false, false, false, false] [] (s1 := ⟨[.c (.sl (b1.map c5)), .bot, .bot, I 0, .bot, .bot, .bot, .bot, .bot, .bot, .bot, .bot, .bot, .bot, .bot, .bot, .bot, .bot, .bot, .bot], []⟩) ?_ ?_
  · refine XL_cons rfl (X_of_Y0 rfl (E_assign (I 0) rfl (by kernel_rfl))) ?_
    refine XL_nil ?_
    kernel_rfl
  refine V_seq ?_
  refine V_sreg [false, false, false, true, false, false, true, true, true, false, false, false, false, false, false, false, false, false, false, false] [] (s1 := ⟨[.bot, .bot, .bot, I 0, .bot, .bot, .c (.sl (b1.map c5)), I ((b1.length : Int)), I 0, .bot, .bot, .bot, .bot, .bot, .bot, .bot, .bot, .bot, .bot, .bot], []⟩) ?_ ?_
  · refine XL_cons rfl (X_of_Y0 rfl (E_move (.c (.sl (b1.map c5))) rfl (by kernel_rfl))) ?_
    refine XL_cons rfl (X_of_Y0 rfl (Y0_lenM (c := c5) (xs := b1) Try.underlying41 rfl (by kernel_rfl))) ?_
    refine XL_cons rfl (X_of_Y0 rfl (E_move (I 0) rfl (by kernel_rfl))) ?_
    refine XL_nil ?_
    kernel_rfl
  obtain ⟨o5, hLo5, h⟩ := of_bind h
  refine V_toK [false, false, false, true, false, false, false, false, false, false, false, false, false, false, false, false, false, false, false, false] [] (s1 := ⟨[.bot, .bot, .bot, I o5, .bot, .bot, .bot, .bot, .bot, .bot, .bot, .bot, .bot, .bot, .bot, .bot, .bot, .bot, .bot, .bot], []⟩) ?_ ?_
  · clear h
    refine V_block (V_loop (fun n s => ∃ (vn2 : Int) (t3 : Int), s.keep [false, false, false, true, false, false, true, true, true, false, false, false, false, false, false, false, false, false, false, false] [] = (⟨[.bot, .bot, .bot, I vn2, .bot, .bot, .c (.sl (b1.map c5)), I ((b1.length : Int)), I t3, .bot, .bot, .bot, .bot, .bot, .bot, .bot, .bot, .bot, .bot, .bot], []⟩ : St) ∧ r_laws_numberOf_L4 b1 n vn2 t3 = some o5) FU ⟨_, _,  by rfl, hLo5⟩ ?_)
    clear hLo5
    rintro n s ⟨vn2, t3, hs, h⟩
    refine V_keep _ _ hs ?_
    clear hs
    cases n with
    | zero => cases h
    | succ n =>
      rw [r_laws_numberOf_L4] at h
      refine V_sreg [false, false, false, true, false, false, true, true, true, true, false, false, false, false, false, false, false, false, false, false] [] (s1 := ⟨[.bot, .bot, .bot, I vn2, .bot, .bot, .c (.sl (b1.map c5)), I ((b1.length : Int)), I t3, Bo (ltI t3 ((b1.length : Int))), .bot, .bot, .bot, .bot, .bot, .bot, .bot, .bot, .bot, .bot], []⟩) ?_ ?_
      · refine XL_cons rfl (X_of_Y0 rfl (Y0_ltw (k := .i64) (a := t3) (b := (b1.length : Int)) rfl (by kernel_rfl) (by kernel_rfl))) ?_
        refine XL_nil ?_
        kernel_rfl
      refine V_seq ?_
      refine V_cond rfl (fun hc6 => ?_) (fun hc6 => ?_)
      · have h := of_true h hc6
        refine V_skip ?_
        show V _ _ _ _
        refine V_seq ?_
        refine V_block ?_
        obtain ⟨e7, he7, h⟩ := of_bind h
        refine V_sreg [false, false, false, true, false, true, true, true, true, false, false, false, false, false, false, false, false, false, false, false] [] (s1 := ⟨[.bot, .bot, .bot, I vn2, .bot, .c (.v (.int .u8 e7)), .c (.sl (b1.map c5)), I ((b1.length : Int)), I t3, .bot, .bot, .bot, .bot, .bot, .bot, .bot, .bot, .bot, .bot, .bot], []⟩) ?_ ?_
        · refine XL_cons rfl (X_of_Y0 rfl (Y0_idxM (c := c5) (xs := b1) (v := e7) (n := t3) Try.underlying41 sz5 rfl (by kernel_rfl) (by kernel_rfl) he7)) ?_
          refine XL_cons rfl (X_of_Y0 rfl (Y0_load1 (c := .v (.int .u8 e7)) (cs := []) sc5 rfl (by kernel_rfl))) ?_
          refine XL_cons rfl (X_of_Y0 rfl (E_assign (.c (.v (.int .u8 e7))) rfl (by kernel_rfl))) ?_
          refine XL_nil ?_
          kernel_rfl
        obtain ⟨vn8, hvn8, h⟩ := of_sI h
        refine V_reg [false, false, false, true, false, false, true, true, true, false, false, false, false, false, false, false, false, false, false, false] [] (s1 := ⟨[.bot, .bot, .bot, I vn8, .bot, .bot, .c (.sl (b1.map c5)), I ((b1.length : Int)), I t3, .bot, .bot, .bot, .bot, .bot, .bot, .bot, .bot, .bot, .bot, .bot], []⟩) ?_ ?_
        · refine XL_cons rfl (X_of_Y0 rfl (E_move (I vn2) rfl (by kernel_rfl))) ?_
          refine XL_cons rfl (X_of_Y0 rfl (Y0_mul64 (a := 31) (b := vn2) rfl (by kernel_rfl) (by kernel_rfl))) ?_
          refine XL_cons rfl (X_of_Y0 rfl (E_move (.c (.v (.int .u8 e7))) rfl (by kernel_rfl))) ?_
          refine XL_cons rfl (X_of_Y0 rfl (Y0_conv (k2 := .u8) (a := e7) Try.underlying5 Try.underlying3 rfl (by kernel_rfl))) ?_
          refine XL_cons rfl (X_of_Y0 rfl (Y0_add64 (a := w64 (31 * vn2)) (b := IntKind.i64.wrap e7) rfl (by kernel_rfl) (by kernel_rfl))) ?_
          refine XL_cons rfl (X_of_Y0 rfl (Y0_rem (k := .i64) (a := w64 ((w64 (31 * vn2)) + (IntKind.i64.wrap e7))) (b := 1000003) rfl (by kernel_rfl) (by kernel_rfl) (by decide))) ?_
          refine XL_cons rfl (X_of_Y0 rfl (E_assign (I (Int.tmod (w64 ((w64 (31 * vn2)) + (IntKind.i64.wrap e7))) 1000003)) rfl (by kernel_rfl))) ?_
          refine XL_nil ?_
          subst hvn8
          kernel_rfl
        show V _ _ _ _
        obtain ⟨t9, ht9, h⟩ := of_sI h
        refine V_reg [false, false, false, true, false, false, true, true, true, false, false, false, false, false, false, false, false, false, false, false] [] (s1 := ⟨[.bot, .bot, .bot, I vn8, .bot, .bot, .c (.sl (b1.map c5)), I ((b1.length : Int)), I t9, .bot, .bot, .bot, .bot, .bot, .bot, .bot, .bot, .bot, .bot, .bot], []⟩) ?_ ?_
        · refine XL_cons rfl (X_of_Y0 rfl (Y0_add64 (a := t3) (b := 1) rfl (by kernel_rfl) (by kernel_rfl))) ?_
          refine XL_cons rfl (X_of_Y0 rfl (E_move (I (w64 (t3 + 1))) rfl (by kernel_rfl))) ?_
          refine XL_nil ?_
          subst ht9
          kernel_rfl
        exact ⟨n, Nat.lt_succ_self n, _, _,  by rfl, h⟩
      · have h := of_false h hc6
        refine V_exit ?_
        obtain rfl := some_inj h
        show St.keep _ _ _ = _
        rfl
  show V _ _ _ _
  refine V_sreg [false, false, true, false, false, false, false, false, false, false, false, false, false, false, false, false, false, false, false, false] [] (s1 := ⟨[.bot, .bot, I o5, .bot, .bot, .bot, .bot, .bot, .bot, .bot, .bot, .bot, .bot, .bot, .bot, .bot, .bot, .bot, .bot, .bot], []⟩) ?_ ?_
  · refine XL_cons rfl (X_of_Y0 rfl (E_move (I o5) rfl (by kernel_rfl))) ?_
    refine XL_cons rfl (X_of_Y0 rfl (E_assign (I o5) rfl (by kernel_rfl))) ?_
    refine XL_nil ?_
    kernel_rfl
  refine V_ret ?_
  obtain rfl := some_inj h
  show Post _ _ _ _ _
  exact ⟨.inr rfl, rfl, rfl, rfl⟩
theorem cf_impl_isSum : ∀ args w, (callFunc 108 args).run Try.prog w = .ok (.enter 108 args) w := run_callFunc Try.func108 (by kernel_rfl) (by kernel_rfl)
set_option maxRecDepth 100000 in
set_option maxHeartbeats 400000 in
theorem s_impl_isSum {vn1 : Int} {r : Bool} (h : r_impl_isSum vn1 = some r) : CallS Try.prog 108 [I vn1] (Bo r) [] := by
  refine CallS_of_text (rs := [.t 2]) (vs := [.tmp 2]) Try.func108 rfl rfl (.cons rfl FitsL.nil) (by decide) 9 rfl ?_
  unfold r_impl_isSum at h
  show V _ _ ⟨[I vn1, .bot, .bot, .bot, .bot, .bot, .bot, .bot, .bot], []⟩ _
  refine V_sreg [true, false, false, false, false, false, false, false, false] [] (s1 := ⟨[I vn1, .bot, .bot, .bot, .bot, .bot, .bot, .bot, .bot], []⟩) ?_ ?_
  · refine XL_cons rfl (X_of_Y0 rfl (E_assign (Bo false) rfl (by kernel_rfl))) ?_
    refine XL_nil ?_
    kernel_rfl
  refine V_sreg [false, false, true, false, false, false, false, false, false] [] (s1 := ⟨[.bot, .bot, Bo (bif (leI 0 vn1) then (leI vn1 10000) else false), .bot, .bot, .bot, .bot, .bot, .bot], []⟩) ?_ ?_
  · refine XL_cons rfl (X_of_Y0 rfl (E_move (I vn1) rfl (by kernel_rfl))) ?_
    refine XL_cons rfl (X_of_Y0 rfl (Y0_gew (k := .i64) (a := vn1) (b := 0) rfl (by kernel_rfl) (by kernel_rfl))) ?_
    refine XL_cons rfl (X_of_Y0 rfl (E_move (Bo (leI 0 vn1)) rfl (by kernel_rfl))) ?_
    refine XL_split (leI 0 vn1) (fun hc2 => ?_) (fun hc2 => ?_)
    · refine XL_takeC (leI 0 vn1) rfl rfl (by kernel_rfl) hc2 (X_of_Y0 rfl (E_move (I vn1) rfl (by kernel_rfl))) ?_
      refine XL_takeC (leI 0 vn1) rfl rfl (by kernel_rfl) hc2 (X_of_Y0 rfl (Y0_lew (k := .i64) (a := vn1) (b := 10000) rfl (by kernel_rfl) (by kernel_rfl))) ?_
      refine XL_cons rfl (X_of_Y0 rfl (Y0_pick1 (b := leI 0 vn1) (p := leI vn1 10000) (q := false) rfl (by kernel_rfl) hc2 (by kernel_rfl))) ?_
      refine XL_cons rfl (X_of_Y0 rfl (E_assign (Bo (bif (leI 0 vn1) then (leI vn1 10000) else false)) rfl (by kernel_rfl))) ?_
      refine XL_nil ?_
      kernel_rfl
    · refine XL_skipT (leI 0 vn1) rfl rfl (by kernel_rfl) hc2 rfl ?_
      refine XL_skipT (leI 0 vn1) rfl rfl (by kernel_rfl) hc2 rfl ?_
      refine XL_cons rfl (X_of_Y0 rfl (Y0_pick0 (b := leI 0 vn1) (p := leI vn1 10000) (q := false) rfl (by kernel_rfl) hc2 (by kernel_rfl))) ?_
      refine XL_cons rfl (X_of_Y0 rfl (E_assign (Bo (bif (leI 0 vn1) then (leI vn1 10000) else false)) rfl (by kernel_rfl))) ?_
      refine XL_nil ?_
      kernel_rfl
  refine V_ret ?_
  obtain rfl := some_inj h
  show Post _ _ _ _ _
  exact ⟨.inr rfl, rfl, rfl, rfl⟩
theorem cf_impl_squareCounts : ∀ args w, (callFunc 109 args).run Try.prog w = .ok (.enter 109 args) w := run_callFunc Try.func109 (by kernel_rfl) (by kernel_rfl)
set_option maxRecDepth 100000 in
set_option maxHeartbeats 400000 in
theorem s_impl_squareCounts {k1 : Int} {most2 : Int} {r : List Int} (h : r_impl_squareCounts k1 most2 = some r) : CallS Try.prog 109 [I k1, I most2] (.c (.sl (r.map c3))) [] := by
  refine CallS_of_text (rs := [.t 4]) (vs := [.tmp 4]) Try.func109 rfl rfl (.cons rfl FitsL.nil) (by decide) 56 rfl ?_
  unfold r_impl_squareCounts at h
  show V _ _ ⟨[I k1, I most2, .bot, .bot, .bot, .bot, .bot, .bot, .bot, .bot, .bot, .bot, .bot, .bot, .bot, .bot, .bot, .bot, .bot, .bot, .bot, .bot, .bot, .bot, .bot, .bot, .bot, .bot, .bot, .bot, .bot, .bot, .bot, .bot, .bot, .bot, .bot, .bot, .bot, .bot, .bot, .bot, .bot, .bot, .bot, .bot, .bot, .bot, .bot, .bot, .bot, .bot, .bot, .bot, .bot, .bot], []⟩ _
  refine V_sreg [true, true, false, false, false, false, false, false, false, false, false, false, false, false, false, false, false, false, false, false, false, false, false, false, false, false, false, false, false, false, false, false, false, false, false, false, false, false, false, false, false, false, false, false, false, false, false, false, false, false, false, false, false, false, false, false] [] (s1 := ⟨[I k1, I most2, .bot, .bot, .bot, .bot, .bot, .bot, .bot, .bot, .bot, .bot, .bot, .bot, .bot, .bot, .bot, .bot, .bot, .bot, .bot, .bot, .bot, .bot, .bot, .bot, .bot, .bot, .bot, .bot, .bot, .bot, .bot, .bot, .bot, .bot, .bot, .bot, .bot, .bot, .bot, .bot, .bot, .bot, .bot, .bot, .bot, .bot, .bot, .bot, .bot, .bot, .bot, .bot, .bot, .bot], []⟩) ?_ ?_
  · refine XL_cons rfl (X_of_Y1 rfl (Y1_nil (e := 3) 1 (by decide) (.inl rfl))) ?_
    refine XL_nil ?_
    kernel_rfl
  obtain ⟨u3, hu3, h⟩ := of_bind h
  refine V_sreg [true, true, false, false, false, true, false, false, false, false, false, false, false, false, false, false, false, false, false, false, false, false, false, false, false, false, false, false, false, false, false, false, false, false, false, false, false, false, false, false, false, false, false, false, false, false, false, false, false, false, false, false, false, false, false, false] [96] (s1 := ⟨[I k1, I most2, .bot, .bot, .bot, .ow 96, .bot, .bot, .bot, .bot, .bot, .bot, .bot, .bot, .bot, .bot, .bot, .bot, .bot, .bot, .bot, .bot, .bot, .bot, .bot, .bot, .bot, .bot, .bot, .bot, .bot, .bot, .bot, .bot, .bot, .bot, .bot, .bot, .bot, .bot, .bot, .bot, .bot, .bot, .bot, .bot, .bot, .bot, .bot, .bot, .bot, .bot, .bot, .bot, .bot, .bot], [(96, .arr 3 1 ((List.replicate (Int.toNat (w64 (most2 + 1))) ((0 : Int))).map c3))]⟩) ?_ ?_
  · refine XL_cons rfl (X_of_Y0 rfl (E_move (I most2) rfl (by kernel_rfl))) ?_
    refine XL_cons rfl (X_of_Y0 rfl (Y0_add64 (a := most2) (b := 1) rfl (by kernel_rfl) (by kernel_rfl))) ?_
    refine XL_cons rfl (X_of_Y1 rfl (Y1_make (c := c3) (zx := (0 : Int)) (z := zv3) (l := w64 (most2 + 1)) (k := w64 (most2 + 1)) Try.underlying25 izb3 rfl rfl (by decide) rfl rfl (by kernel_rfl) (by kernel_rfl) (mk_some hu3) (by decide))) ?_
    refine XL_cons rfl (X_of_Y0 rfl (E_assign (.ow 96) rfl (by kernel_rfl))) ?_
    refine XL_nil ?_
    kernel_rfl
  obtain ⟨e4, he4, h⟩ := of_bind h
  obtain ⟨e5, he5, h⟩ := of_bind h
  obtain ⟨l6, hl6, h⟩ := of_bind h
  have hl6 := some_inj hl6
  refine V_sreg [true, true, false, false, false, true, false, false, false, false, false, false, false, false, false, false, false, false, false, false, false, false, false, false, false, false, false, false, false, false, false, false, false, false, false, false, false, false, false, false, false, false, false, false, false, false, false, false, false, false, false, false, false, false, false, false] [96] (s1 := ⟨[I k1, I most2, .bot, .bot, .bot, .ow 96, .bot, .bot, .bot, .bot, .bot, .bot, .bot, .bot, .bot, .bot, .bot, .bot, .bot, .bot, .bot, .bot, .bot, .bot, .bot, .bot, .bot, .bot, .bot, .bot, .bot, .bot, .bot, .bot, .bot, .bot, .bot, .bot, .bot, .bot, .bot, .bot, .bot, .bot, .bot, .bot, .bot, .bot, .bot, .bot, .bot, .bot, .bot, .bot, .bot, .bot], [(96, .arr 3 1 (l6.map c3))]⟩) ?_ ?_
  · refine XL_cons rfl (X_of_Y0 rfl (E_move (.ow 96) rfl (by kernel_rfl))) ?_
    refine XL_cons rfl (X_of_Y0 rfl (Y0_idxoM (c := c3) (xs := List.replicate (Int.toNat (w64 (most2 + 1))) ((0 : Int))) (v := e4) (id := 96) (T := 3) (sz := 1) (n := 0) Try.underlying25 sz3 rfl (by kernel_rfl) (by kernel_rfl) (by kernel_rfl) he4)) ?_
    refine XL_cons rfl (X_storeoM (c := c3) (xs := List.replicate (Int.toNat (w64 (most2 + 1))) ((0 : Int))) (v := e5) (u := 1) (id := 96) (sz := 1) (off := 0) (T0 := 3) (n := 0) (vc := [Ti 1]) rfl rfl (by kernel_rfl) (by kernel_rfl) he5 (by kernel_rfl) sz3 (Nat.le_of_ble_eq_true rfl) (by kernel_rfl)) ?_
    refine XL_nil ?_
    subst hl6
    kernel_rfl
  refine V_seq ?_
  refine V_freeze 96 (T := 3) (sz := 1) (els := l6.map c3) (s1 := ⟨[I k1, I most2, .bot, .bot, .bot, .c (.sl (l6.map c3)), .bot, .bot, .bot, .bot, .bot, .bot, .bot, .bot, .bot, .bot, .bot, .bot, .bot, .bot, .bot, .bot, .bot, .bot, .bot, .bot, .bot, .bot, .bot, .bot, .bot, .bot, .bot, .bot, .bot, .bot, .bot, .bot, .bot, .bot, .bot, .bot, .bot, .bot, .bot, .bot, .bot, .bot, .bot, .bot, .bot, .bot, .bot, .bot, .bot, .bot], []⟩) (by kernel_rfl) (by kernel_rfl) ?_
  obtain ⟨o10, hLo10, h⟩ := of_bind h
  refine V_toK [false, false, false, false, false, true, false, false, false, false, false, false, false, false, false, false, false, false, false, false, false, false, false, false, false, false, false, false, false, false, false, false, false, false, false, false, false, false, false, false, false, false, false, false, false, false, false, false, false, false, false, false, false, false, false, false] [] (s1 := ⟨[.bot, .bot, .bot, .bot, .bot, .c (.sl (o10.map c3)), .bot, .bot, .bot, .bot, .bot, .bot, .bot, .bot, .bot, .bot, .bot, .bot, .bot, .bot, .bot, .bot, .bot, .bot, .bot, .bot, .bot, .bot, .bot, .bot, .bot, .bot, .bot, .bot, .bot, .bot, .bot, .bot, .bot, .bot, .bot, .bot, .bot, .bot, .bot, .bot, .bot, .bot, .bot, .bot, .bot, .bot, .bot, .bot, .bot, .bot], []⟩) ?_ ?_
  · clear h
    refine V_block (V_loop (fun n s => ∃ (k7 : Int) (counts8 : List Int), s.keep [true, true, false, false, false, true, false, false, false, false, false, false, false, false, false, false, false, false, false, false, false, false, false, false, false, false, false, false, false, false, false, false, false, false, false, false, false, false, false, false, false, false, false, false, false, false, false, false, false, false, false, false, false, false, false, false] [] = (⟨[I k7, I most2, .bot, .bot, .bot, .c (.sl (counts8.map c3)), .bot, .bot, .bot, .bot, .bot, .bot, .bot, .bot, .bot, .bot, .bot, .bot, .bot, .bot, .bot, .bot, .bot, .bot, .bot, .bot, .bot, .bot, .bot, .bot, .bot, .bot, .bot, .bot, .bot, .bot, .bot, .bot, .bot, .bot, .bot, .bot, .bot, .bot, .bot, .bot, .bot, .bot, .bot, .bot, .bot, .bot, .bot, .bot, .bot, .bot], []⟩ : St) ∧ r_impl_squareCounts_L9 most2 n k7 counts8 = some o10) FU ⟨_, _,  by rfl, hLo10⟩ ?_)
    clear hLo10
    rintro n s ⟨k7, counts8, hs, h⟩
    refine V_keep _ _ hs ?_
    clear hs
    cases n with
    | zero => cases h
    | succ n =>
      rw [r_impl_squareCounts_L9] at h
      refine V_seq ?_
      refine V_sreg [true, true, false, false, false, true, false, false, false, false, false, false, false, false, false, false, true, false, false, false, false, false, false, false, false, false, false, false, false, false, false, false, false, false, false, false, false, false, false, false, false, false, false, false, false, false, false, false, false, false, false, false, false, false, false, false] [] (s1 := ⟨[I k7, I most2, .bot, .bot, .bot, .c (.sl (counts8.map c3)), .bot, .bot, .bot, .bot, .bot, .bot, .bot, .bot, .bot, .bot, Bo (ltI 0 k7), .bot, .bot, .bot, .bot, .bot, .bot, .bot, .bot, .bot, .bot, .bot, .bot, .bot, .bot, .bot, .bot, .bot, .bot, .bot, .bot, .bot, .bot, .bot, .bot, .bot, .bot, .bot, .bot, .bot, .bot, .bot, .bot, .bot, .bot, .bot, .bot, .bot, .bot, .bot], []⟩) ?_ ?_
      · refine XL_cons rfl (X_of_Y0 rfl (E_move (I k7) rfl (by kernel_rfl))) ?_
        refine XL_cons rfl (X_of_Y0 rfl (Y0_gtw (k := .i64) (a := k7) (b := 0) rfl (by kernel_rfl) (by kernel_rfl))) ?_
        refine XL_nil ?_
        kernel_rfl
      refine V_cond rfl (fun hc11 => ?_) (fun hc11 => ?_)
      · have h := of_true h hc11
        refine V_skip ?_
        show V _ _ _ _
        refine V_seq ?_
        refine V_block ?_
        obtain ⟨u12, hu12, h⟩ := of_bind h
        refine V_sreg [true, true, false, false, false, true, true, false, false, false, false, false, false, false, false, false, false, false, false, false, false, false, false, false, false, false, false, false, false, false, false, false, false, false, false, false, false, false, false, false, false, false, false, false, false, false, false, false, false, false, false, false, false, false, false, false] [168] (s1 := ⟨[I k7, I most2, .bot, .bot, .bot, .c (.sl (counts8.map c3)), .ow 168, .bot, .bot, .bot, .bot, .bot, .bot, .bot, .bot, .bot, .bot, .bot, .bot, .bot, .bot, .bot, .bot, .bot, .bot, .bot, .bot, .bot, .bot, .bot, .bot, .bot, .bot, .bot, .bot, .bot, .bot, .bot, .bot, .bot, .bot, .bot, .bot, .bot, .bot, .bot, .bot, .bot, .bot, .bot, .bot, .bot, .bot, .bot, .bot, .bot], [(168, .arr 3 1 ((List.replicate (Int.toNat (w64 (most2 + 1))) ((0 : Int))).map c3))]⟩) ?_ ?_
        · refine XL_cons rfl (X_of_Y0 rfl (E_move (I most2) rfl (by kernel_rfl))) ?_
          refine XL_cons rfl (X_of_Y0 rfl (Y0_add64 (a := most2) (b := 1) rfl (by kernel_rfl) (by kernel_rfl))) ?_
          refine XL_cons rfl (X_of_Y1 rfl (Y1_make (c := c3) (zx := (0 : Int)) (z := zv3) (l := w64 (most2 + 1)) (k := w64 (most2 + 1)) Try.underlying25 izb3 rfl rfl (by decide) rfl rfl (by kernel_rfl) (by kernel_rfl) (mk_some hu12) (by decide))) ?_
          refine XL_cons rfl (X_of_Y0 rfl (E_assign (.ow 168) rfl (by kernel_rfl))) ?_
          refine XL_nil ?_
          kernel_rfl
        refine V_seq ?_
        refine V_sreg [true, true, false, false, false, false, true, false, false, false, false, false, false, false, false, false, false, false, false, false, false, false, true, true, true, false, false, false, false, false, false, false, false, false, false, false, false, false, false, false, false, false, false, false, false, false, false, false, false, false, false, false, false, false, false, false] [168] (s1 := ⟨[I k7, I most2, .bot, .bot, .bot, .bot, .ow 168, .bot, .bot, .bot, .bot, .bot, .bot, .bot, .bot, .bot, .bot, .bot, .bot, .bot, .bot, .bot, .c (.sl (counts8.map c3)), I ((counts8.length : Int)), I 0, .bot, .bot, .bot, .bot, .bot, .bot, .bot, .bot, .bot, .bot, .bot, .bot, .bot, .bot, .bot, .bot, .bot, .bot, .bot, .bot, .bot, .bot, .bot, .bot, .bot, .bot, .bot, .bot, .bot, .bot, .bot], [(168, .arr 3 1 ((List.replicate (Int.toNat (w64 (most2 + 1))) ((0 : Int))).map c3))]⟩) ?_ ?_
        · refine XL_cons rfl (X_of_Y0 rfl (E_move (.c (.sl (counts8.map c3))) rfl (by kernel_rfl))) ?_
          refine XL_cons rfl (X_of_Y0 rfl (Y0_lenM (c := c3) (xs := counts8) Try.underlying25 rfl (by kernel_rfl))) ?_
          refine XL_cons rfl (X_of_Y0 rfl (E_move (I 0) rfl (by kernel_rfl))) ?_
          refine XL_nil ?_
          kernel_rfl
        obtain ⟨o16, hLo16, h⟩ := of_bind h
        refine V_toK [true, true, false, false, false, false, true, false, false, false, false, false, false, false, false, false, false, false, false, false, false, false, false, false, false, false, false, false, false, false, false, false, false, false, false, false, false, false, false, false, false, false, false, false, false, false, false, false, false, false, false, false, false, false, false, false] [168] (s1 := ⟨[I k7, I most2, .bot, .bot, .bot, .bot, .ow 168, .bot, .bot, .bot, .bot, .bot, .bot, .bot, .bot, .bot, .bot, .bot, .bot, .bot, .bot, .bot, .bot, .bot, .bot, .bot, .bot, .bot, .bot, .bot, .bot, .bot, .bot, .bot, .bot, .bot, .bot, .bot, .bot, .bot, .bot, .bot, .bot, .bot, .bot, .bot, .bot, .bot, .bot, .bot, .bot, .bot, .bot, .bot, .bot, .bot], [(168, .arr 3 1 (o16.map c3))]⟩) ?_ ?_
        · clear h
          refine V_block (V_loop (fun n s => ∃ (t13 : Int) (l14 : List Int), s.keep [true, true, false, false, false, false, true, false, false, false, false, false, false, false, false, false, false, false, false, false, false, false, true, true, true, false, false, false, false, false, false, false, false, false, false, false, false, false, false, false, false, false, false, false, false, false, false, false, false, false, false, false, false, false, false, false] [168] = (⟨[I k7, I most2, .bot, .bot, .bot, .bot, .ow 168, .bot, .bot, .bot, .bot, .bot, .bot, .bot, .bot, .bot, .bot, .bot, .bot, .bot, .bot, .bot, .c (.sl (counts8.map c3)), I ((counts8.length : Int)), I t13, .bot, .bot, .bot, .bot, .bot, .bot, .bot, .bot, .bot, .bot, .bot, .bot, .bot, .bot, .bot, .bot, .bot, .bot, .bot, .bot, .bot, .bot, .bot, .bot, .bot, .bot, .bot, .bot, .bot, .bot, .bot], [(168, .arr 3 1 (l14.map c3))]⟩ : St) ∧ r_impl_squareCounts_L15 counts8 k7 most2 n t13 l14 = some o16) FU ⟨_, _,  by rfl, hLo16⟩ ?_)
          clear hLo16
          rintro n s ⟨t13, l14, hs, h⟩
          refine V_keep _ _ hs ?_
          clear hs
          cases n with
          | zero => cases h
          | succ n =>
            rw [r_impl_squareCounts_L15] at h
            refine V_sreg [true, true, false, false, false, false, true, false, false, false, false, false, false, false, false, false, false, false, false, false, false, false, true, true, true, true, false, false, false, false, false, false, false, false, false, false, false, false, false, false, false, false, false, false, false, false, false, false, false, false, false, false, false, false, false, false] [168] (s1 := ⟨[I k7, I most2, .bot, .bot, .bot, .bot, .ow 168, .bot, .bot, .bot, .bot, .bot, .bot, .bot, .bot, .bot, .bot, .bot, .bot, .bot, .bot, .bot, .c (.sl (counts8.map c3)), I ((counts8.length : Int)), I t13, Bo (ltI t13 ((counts8.length : Int))), .bot, .bot, .bot, .bot, .bot, .bot, .bot, .bot, .bot, .bot, .bot, .bot, .bot, .bot, .bot, .bot, .bot, .bot, .bot, .bot, .bot, .bot, .bot, .bot, .bot, .bot, .bot, .bot, .bot, .bot], [(168, .arr 3 1 (l14.map c3))]⟩) ?_ ?_
            · refine XL_cons rfl (X_of_Y0 rfl (Y0_ltw (k := .i64) (a := t13) (b := (counts8.length : Int)) rfl (by kernel_rfl) (by kernel_rfl))) ?_
              refine XL_nil ?_
              kernel_rfl
            refine V_seq ?_
            refine V_cond rfl (fun hc17 => ?_) (fun hc17 => ?_)
            · have h := of_true h hc17
              refine V_skip ?_
              show V _ _ _ _
              refine V_seq ?_
              refine V_block ?_
              obtain ⟨e18, he18, h⟩ := of_bind h
              refine V_sreg [true, true, false, false, false, false, true, true, true, false, false, false, false, false, false, false, false, false, false, false, false, false, true, true, true, false, false, false, false, false, false, false, false, false, false, false, false, false, false, false, false, false, false, false, false, false, false, false, false, false, false, false, false, false, false, false] [168] (s1 := ⟨[I k7, I most2, .bot, .bot, .bot, .bot, .ow 168, I t13, I e18, .bot, .bot, .bot, .bot, .bot, .bot, .bot, .bot, .bot, .bot, .bot, .bot, .bot, .c (.sl (counts8.map c3)), I ((counts8.length : Int)), I t13, .bot, .bot, .bot, .bot, .bot, .bot, .bot, .bot, .bot, .bot, .bot, .bot, .bot, .bot, .bot, .bot, .bot, .bot, .bot, .bot, .bot, .bot, .bot, .bot, .bot, .bot, .bot, .bot, .bot, .bot, .bot], [(168, .arr 3 1 (l14.map c3))]⟩) ?_ ?_
              · refine XL_cons rfl (X_of_Y0 rfl (E_move (I t13) rfl (by kernel_rfl))) ?_
                refine XL_cons rfl (X_of_Y0 rfl (Y0_idxM (c := c3) (xs := counts8) (v := e18) (n := t13) Try.underlying25 sz3 rfl (by kernel_rfl) (by kernel_rfl) he18)) ?_
                refine XL_cons rfl (X_of_Y0 rfl (Y0_load1 (c := Ti e18) (cs := []) sc3 rfl (by kernel_rfl))) ?_
                refine XL_cons rfl (X_of_Y0 rfl (E_assign (I t13) rfl (by kernel_rfl))) ?_
                refine XL_cons rfl (X_of_Y0 rfl (E_assign (I e18) rfl (by kernel_rfl))) ?_
                refine XL_nil ?_
                kernel_rfl
              refine V_sreg [true, true, false, false, false, false, true, true, true, true, false, false, false, false, false, false, false, false, false, false, false, false, true, true, true, false, false, false, false, false, false, false, false, false, false, false, false, false, false, false, false, false, false, false, false, false, false, false, false, false, false, false, false, false, false, false] [168] (s1 := ⟨[I k7, I most2, .bot, .bot, .bot, .bot, .ow 168, I t13, I e18, I 0, .bot, .bot, .bot, .bot, .bot, .bot, .bot, .bot, .bot, .bot, .bot, .bot, .c (.sl (counts8.map c3)), I ((counts8.length : Int)), I t13, .bot, .bot, .bot, .bot, .bot, .bot, .bot, .bot, .bot, .bot, .bot, .bot, .bot, .bot, .bot, .bot, .bot, .bot, .bot, .bot, .bot, .bot, .bot, .bot, .bot, .bot, .bot, .bot, .bot, .bot, .bot], [(168, .arr 3 1 (l14.map c3))]⟩) ?_ ?_
              · refine XL_cons rfl (X_of_Y0 rfl (E_assign (I 0) rfl (by kernel_rfl))) ?_
                refine XL_nil ?_
                kernel_rfl
              obtain ⟨o22, hLo22, h⟩ := of_bind h
              refine V_toK [true, true, false, false, false, false, true, false, false, false, false, false, false, false, false, false, false, false, false, false, false, false, true, true, true, false, false, false, false, false, false, false, false, false, false, false, false, false, false, false, false, false, false, false, false, false, false, false, false, false, false, false, false, false, false, false] [168] (s1 := ⟨[I k7, I most2, .bot, .bot, .bot, .bot, .ow 168, .bot, .bot, .bot, .bot, .bot, .bot, .bot, .bot, .bot, .bot, .bot, .bot, .bot, .bot, .bot, .c (.sl (counts8.map c3)), I ((counts8.length : Int)), I t13, .bot, .bot, .bot, .bot, .bot, .bot, .bot, .bot, .bot, .bot, .bot, .bot, .bot, .bot, .bot, .bot, .bot, .bot, .bot, .bot, .bot, .bot, .bot, .bot, .bot, .bot, .bot, .bot, .bot, .bot, .bot], [(168, .arr 3 1 (o22.map c3))]⟩) ?_ ?_
              · clear h
                refine V_block (V_loop (fun n s => ∃ (x19 : Int) (l20 : List Int), s.keep [true, true, false, false, false, false, true, true, true, true, false, false, false, false, false, false, false, false, false, false, false, false, true, true, true, false, false, false, false, false, false, false, false, false, false, false, false, false, false, false, false, false, false, false, false, false, false, false, false, false, false, false, false, false, false, false] [168] = (⟨[I k7, I most2, .bot, .bot, .bot, .bot, .ow 168, I t13, I e18, I x19, .bot, .bot, .bot, .bot, .bot, .bot, .bot, .bot, .bot, .bot, .bot, .bot, .c (.sl (counts8.map c3)), I ((counts8.length : Int)), I t13, .bot, .bot, .bot, .bot, .bot, .bot, .bot, .bot, .bot, .bot, .bot, .bot, .bot, .bot, .bot, .bot, .bot, .bot, .bot, .bot, .bot, .bot, .bot, .bot, .bot, .bot, .bot, .bot, .bot, .bot, .bot], [(168, .arr 3 1 (l20.map c3))]⟩ : St) ∧ r_impl_squareCounts_L21 counts8 e18 k7 most2 t13 n x19 l20 = some o22) FU ⟨_, _,  by rfl, hLo22⟩ ?_)
                clear hLo22
                rintro n s ⟨x19, l20, hs, h⟩
                refine V_keep _ _ hs ?_
                clear hs
                cases n with
                | zero => cases h
                | succ n =>
                  rw [r_impl_squareCounts_L21] at h
                  refine V_seq ?_
                  refine V_sreg [true, true, false, false, false, false, true, true, true, true, false, false, false, false, false, false, false, false, false, false, false, false, true, true, true, false, false, false, false, false, false, false, false, false, false, true, false, false, false, false, false, false, false, false, false, false, false, false, false, false, false, false, false, false, false, false] [168] (s1 := ⟨[I k7, I most2, .bot, .bot, .bot, .bot, .ow 168, I t13, I e18, I x19, .bot, .bot, .bot, .bot, .bot, .bot, .bot, .bot, .bot, .bot, .bot, .bot, .c (.sl (counts8.map c3)), I ((counts8.length : Int)), I t13, .bot, .bot, .bot, .bot, .bot, .bot, .bot, .bot, .bot, .bot, Bo (leI (w64 (t13 + (w64 (x19 * x19)))) most2), .bot, .bot, .bot, .bot, .bot, .bot, .bot, .bot, .bot, .bot, .bot, .bot, .bot, .bot, .bot, .bot, .bot, .bot, .bot, .bot], [(168, .arr 3 1 (l20.map c3))]⟩) ?_ ?_
                  · refine XL_cons rfl (X_of_Y0 rfl (E_move (I t13) rfl (by kernel_rfl))) ?_
                    refine XL_cons rfl (X_of_Y0 rfl (E_move (I x19) rfl (by kernel_rfl))) ?_
                    refine XL_cons rfl (X_of_Y0 rfl (E_move (I x19) rfl (by kernel_rfl))) ?_
                    refine XL_cons rfl (X_of_Y0 rfl (Y0_mul64 (a := x19) (b := x19) rfl (by kernel_rfl) (by kernel_rfl))) ?_
                    refine XL_cons rfl (X_of_Y0 rfl (Y0_add64 (a := t13) (b := w64 (x19 * x19)) rfl (by kernel_rfl) (by kernel_rfl))) ?_
                    refine XL_cons rfl (X_of_Y0 rfl (E_move (I most2) rfl (by kernel_rfl))) ?_
                    refine XL_cons rfl (X_of_Y0 rfl (Y0_lew (k := .i64) (a := w64 (t13 + (w64 (x19 * x19)))) (b := most2) rfl (by kernel_rfl) (by kernel_rfl))) ?_
                    refine XL_nil ?_
                    kernel_rfl
                  refine V_cond rfl (fun hc23 => ?_) (fun hc23 => ?_)
                  · have h := of_true h hc23
                    refine V_skip ?_
                    show V _ _ _ _
                    refine V_seq ?_
                    refine V_block ?_
                    obtain ⟨e24, he24, h⟩ := of_bind h
                    obtain ⟨e25, he25, h⟩ := of_bind h
                    obtain ⟨e26, he26, h⟩ := of_bind h
                    obtain ⟨e27, he27, h⟩ := of_bind h
                    obtain ⟨l28, hl28, h⟩ := of_bind h
                    have hl28 := some_inj hl28
                    refine V_reg [true, true, false, false, false, false, true, true, true, true, false, false, false, false, false, false, false, false, false, false, false, false, true, true, true, false, false, false, false, false, false, false, false, false, false, false, false, false, false, false, false, false, false, false, false, false, false, false, false, false, false, false, false, false, false, false] [168] (s1 := ⟨[I k7, I most2, .bot, .bot, .bot, .bot, .ow 168, I t13, I e18, I x19, .bot, .bot, .bot, .bot, .bot, .bot, .bot, .bot, .bot, .bot, .bot, .bot, .c (.sl (counts8.map c3)), I ((counts8.length : Int)), I t13, .bot, .bot, .bot, .bot, .bot, .bot, .bot, .bot, .bot, .bot, .bot, .bot, .bot, .bot, .bot, .bot, .bot, .bot, .bot, .bot, .bot, .bot, .bot, .bot, .bot, .bot, .bot, .bot, .bot, .bot, .bot], [(168, .arr 3 1 (l28.map c3))]⟩) ?_ ?_
                    · refine XL_cons rfl (X_of_Y0 rfl (E_move (.ow 168) rfl (by kernel_rfl))) ?_
                      refine XL_cons rfl (X_of_Y0 rfl (E_move (I t13) rfl (by kernel_rfl))) ?_
                      refine XL_cons rfl (X_of_Y0 rfl (E_move (I x19) rfl (by kernel_rfl))) ?_
                      refine XL_cons rfl (X_of_Y0 rfl (E_move (I x19) rfl (by kernel_rfl))) ?_
                      refine XL_cons rfl (X_of_Y0 rfl (Y0_mul64 (a := x19) (b := x19) rfl (by kernel_rfl) (by kernel_rfl))) ?_
                      refine XL_cons rfl (X_of_Y0 rfl (Y0_add64 (a := t13) (b := w64 (x19 * x19)) rfl (by kernel_rfl) (by kernel_rfl))) ?_
                      refine XL_cons rfl (X_of_Y0 rfl (Y0_idxoM (c := c3) (xs := l20) (v := e24) (id := 168) (T := 3) (sz := 1) (n := w64 (t13 + (w64 (x19 * x19)))) Try.underlying25 sz3 rfl (by kernel_rfl) (by kernel_rfl) (by kernel_rfl) he24)) ?_
                      refine XL_cons rfl (X_of_Y0 rfl (Y0_loado1 (c := c3) (xs := l20) (v := e25) (id := 168) (sz := 1) (T := 3) (off := 0) (n := w64 (t13 + (w64 (x19 * x19)))) (d := Ti e25) (ds := []) sc3 rfl (by kernel_rfl) (by kernel_rfl) he25 (by kernel_rfl))) ?_
                      refine XL_cons rfl (X_of_Y0 rfl (E_move (I e18) rfl (by kernel_rfl))) ?_
                      refine XL_cons rfl (X_of_Y0 rfl (E_move (I x19) rfl (by kernel_rfl))) ?_
                      refine XL_cons rfl (X_of_Y0 rfl (Y0_add64 (a := x19) (b := 1) rfl (by kernel_rfl) (by kernel_rfl))) ?_
                      refine XL_cons rfl (X_of_Y0 rfl (Y0_min (a := w64 (x19 + 1)) (b := 2) rfl (by kernel_rfl) (by kernel_rfl))) ?_
                      refine XL_cons rfl (X_of_Y0 rfl (Y0_mul64 (a := e18) (b := mnI (w64 (x19 + 1)) 2) rfl (by kernel_rfl) (by kernel_rfl))) ?_
                      refine XL_cons rfl (X_of_Y0 rfl (Y0_add64 (a := e25) (b := w64 (e18 * (mnI (w64 (x19 + 1)) 2))) rfl (by kernel_rfl) (by kernel_rfl))) ?_
                      refine XL_cons rfl (X_of_Y0 rfl (Y0_idxoM (c := c3) (xs := l20) (v := e26) (id := 168) (T := 3) (sz := 1) (n := w64 (t13 + (w64 (x19 * x19)))) Try.underlying25 sz3 rfl (by kernel_rfl) (by kernel_rfl) (by kernel_rfl) he26)) ?_
                      refine XL_cons rfl (X_storeoM (c := c3) (xs := l20) (v := e27) (u := w64 (e25 + (w64 (e18 * (mnI (w64 (x19 + 1)) 2))))) (id := 168) (sz := 1) (off := 0) (T0 := 3) (n := w64 (t13 + (w64 (x19 * x19)))) (vc := [Ti (w64 (e25 + (w64 (e18 * (mnI (w64 (x19 + 1)) 2)))))]) rfl rfl (by kernel_rfl) (by kernel_rfl) he27 (by kernel_rfl) sz3 (Nat.le_of_ble_eq_true rfl) (by kernel_rfl)) ?_
                      refine XL_nil ?_
                      subst hl28
                      kernel_rfl
                    show V _ _ _ _
                    obtain ⟨x29, hx29, h⟩ := of_sI h
                    refine V_reg [true, true, false, false, false, false, true, true, true, true, false, false, false, false, false, false, false, false, false, false, false, false, true, true, true, false, false, false, false, false, false, false, false, false, false, false, false, false, false, false, false, false, false, false, false, false, false, false, false, false, false, false, false, false, false, false] [168] (s1 := ⟨[I k7, I most2, .bot, .bot, .bot, .bot, .ow 168, I t13, I e18, I x29, .bot, .bot, .bot, .bot, .bot, .bot, .bot, .bot, .bot, .bot, .bot, .bot, .c (.sl (counts8.map c3)), I ((counts8.length : Int)), I t13, .bot, .bot, .bot, .bot, .bot, .bot, .bot, .bot, .bot, .bot, .bot, .bot, .bot, .bot, .bot, .bot, .bot, .bot, .bot, .bot, .bot, .bot, .bot, .bot, .bot, .bot, .bot, .bot, .bot, .bot, .bot], [(168, .arr 3 1 (l28.map c3))]⟩) ?_ ?_
                    · refine XL_cons rfl (X_of_Y0 rfl (E_move (I x19) rfl (by kernel_rfl))) ?_
                      refine XL_cons rfl (X_of_Y0 rfl (Y0_add64 (a := x19) (b := 1) rfl (by kernel_rfl) (by kernel_rfl))) ?_
                      refine XL_cons rfl (X_of_Y0 rfl (E_assign (I (w64 (x19 + 1))) rfl (by kernel_rfl))) ?_
                      refine XL_nil ?_
                      subst hx29
                      kernel_rfl
                    exact ⟨n, Nat.lt_succ_self n, _, _,  by rfl, h⟩
                  · have h := of_false h hc23
                    refine V_exit ?_
                    obtain rfl := some_inj h
                    show St.keep _ _ _ = _
                    rfl
              show V _ _ _ _
              obtain ⟨t30, ht30, h⟩ := of_sI h
              refine V_reg [true, true, false, false, false, false, true, false, false, false, false, false, false, false, false, false, false, false, false, false, false, false, true, true, true, false, false, false, false, false, false, false, false, false, false, false, false, false, false, false, false, false, false, false, false, false, false, false, false, false, false, false, false, false, false, false] [168] (s1 := ⟨[I k7, I most2, .bot, .bot, .bot, .bot, .ow 168, .bot, .bot, .bot, .bot, .bot, .bot, .bot, .bot, .bot, .bot, .bot, .bot, .bot, .bot, .bot, .c (.sl (counts8.map c3)), I ((counts8.length : Int)), I t30, .bot, .bot, .bot, .bot, .bot, .bot, .bot, .bot, .bot, .bot, .bot, .bot, .bot, .bot, .bot, .bot, .bot, .bot, .bot, .bot, .bot, .bot, .bot, .bot, .bot, .bot, .bot, .bot, .bot, .bot, .bot], [(168, .arr 3 1 (o22.map c3))]⟩) ?_ ?_
              · refine XL_cons rfl (X_of_Y0 rfl (Y0_add64 (a := t13) (b := 1) rfl (by kernel_rfl) (by kernel_rfl))) ?_
                refine XL_cons rfl (X_of_Y0 rfl (E_move (I (w64 (t13 + 1))) rfl (by kernel_rfl))) ?_
                refine XL_nil ?_
                subst ht30
                kernel_rfl
              exact ⟨n, Nat.lt_succ_self n, _, _,  by rfl, h⟩
            · have h := of_false h hc17
              refine V_exit ?_
              obtain rfl := some_inj h
              show St.keep _ _ _ = _
              rfl
        show V _ _ _ _
        refine V_freeze 168 (T := 3) (sz := 1) (els := o16.map c3) (s1 := ⟨[I k7, I most2, .bot, .bot, .bot, .bot, .c (.sl (o16.map c3)), .bot, .bot, .bot, .bot, .bot, .bot, .bot, .bot, .bot, .bot, .bot, .bot, .bot, .bot, .bot, .bot, .bot, .bot, .bot, .bot, .bot, .bot, .bot, .bot, .bot, .bot, .bot, .bot, .bot, .bot, .bot, .bot, .bot, .bot, .bot, .bot, .bot, .bot, .bot, .bot, .bot, .bot, .bot, .bot, .bot, .bot, .bot, .bot, .bot], []⟩) (by kernel_rfl) (by kernel_rfl) ?_
        refine V_reg [true, true, false, false, false, true, false, false, false, false, false, false, false, false, false, false, false, false, false, false, false, false, false, false, false, false, false, false, false, false, false, false, false, false, false, false, false, false, false, false, false, false, false, false, false, false, false, false, false, false, false, false, false, false, false, false] [] (s1 := ⟨[I k7, I most2, .bot, .bot, .bot, .c (.sl (o16.map c3)), .bot, .bot, .bot, .bot, .bot, .bot, .bot, .bot, .bot, .bot, .bot, .bot, .bot, .bot, .bot, .bot, .bot, .bot, .bot, .bot, .bot, .bot, .bot, .bot, .bot, .bot, .bot, .bot, .bot, .bot, .bot, .bot, .bot, .bot, .bot, .bot, .bot, .bot, .bot, .bot, .bot, .bot, .bot, .bot, .bot, .bot, .bot, .bot, .bot, .bot], []⟩) ?_ ?_
        · refine XL_cons rfl (X_of_Y0 rfl (E_move (.c (.sl (o16.map c3))) rfl (by kernel_rfl))) ?_
          refine XL_cons rfl (X_of_Y0 rfl (E_assign (.c (.sl (o16.map c3))) rfl (by kernel_rfl))) ?_
          refine XL_nil ?_
          kernel_rfl
        show V _ _ _ _
        obtain ⟨k31, hk31, h⟩ := of_sI h
        refine V_reg [true, true, false, false, false, true, false, false, false, false, false, false, false, false, false, false, false, false, false, false, false, false, false, false, false, false, false, false, false, false, false, false, false, false, false, false, false, false, false, false, false, false, false, false, false, false, false, false, false, false, false, false, false, false, false, false] [] (s1 := ⟨[I k31, I most2, .bot, .bot, .bot, .c (.sl (o16.map c3)), .bot, .bot, .bot, .bot, .bot, .bot, .bot, .bot, .bot, .bot, .bot, .bot, .bot, .bot, .bot, .bot, .bot, .bot, .bot, .bot, .bot, .bot, .bot, .bot, .bot, .bot, .bot, .bot, .bot, .bot, .bot, .bot, .bot, .bot, .bot, .bot, .bot, .bot, .bot, .bot, .bot, .bot, .bot, .bot, .bot, .bot, .bot, .bot, .bot, .bot], []⟩) ?_ ?_
        · refine XL_cons rfl (X_of_Y0 rfl (E_move (I k7) rfl (by kernel_rfl))) ?_
          refine XL_cons rfl (X_of_Y0 rfl (Y0_sub64 (a := k7) (b := 1) rfl (by kernel_rfl) (by kernel_rfl))) ?_
          refine XL_cons rfl (X_of_Y0 rfl (E_assign (I (w64 (k7 - 1))) rfl (by kernel_rfl))) ?_
          refine XL_nil ?_
          subst hk31
          kernel_rfl
        exact ⟨n, Nat.lt_succ_self n, _, _,  by rfl, h⟩
      · have h := of_false h hc11
        refine V_exit ?_
        obtain rfl := some_inj h
        show St.keep _ _ _ = _
        rfl
  show V _ _ _ _
  refine V_sreg [false, false, false, false, true, false, false, false, false, false, false, false, false, false, false, false, false, false, false, false, false, false, false, false, false, false, false, false, false, false, false, false, false, false, false, false, false, false, false, false, false, false, false, false, false, false, false, false, false, false, false, false, false, false, false, false] [] (s1 := ⟨[.bot, .bot, .bot, .bot, .c (.sl (o10.map c3)), .bot, .bot, .bot, .bot, .bot, .bot, .bot, .bot, .bot, .bot, .bot, .bot, .bot, .bot, .bot, .bot, .bot, .bot, .bot, .bot, .bot, .bot, .bot, .bot, .bot, .bot, .bot, .bot, .bot, .bot, .bot, .bot, .bot, .bot, .bot, .bot, .bot, .bot, .bot, .bot, .bot, .bot, .bot, .bot, .bot, .bot, .bot, .bot, .bot, .bot, .bot], []⟩) ?_ ?_
  · refine XL_cons rfl (X_of_Y0 rfl (E_move (.c (.sl (o10.map c3))) rfl (by kernel_rfl))) ?_
    refine XL_cons rfl (X_of_Y0 rfl (E_assign (.c (.sl (o10.map c3))) rfl (by kernel_rfl))) ?_
    refine XL_nil ?_
    kernel_rfl
  refine V_ret ?_
  obtain rfl := some_inj h
  show Post _ _ _ _ _
  exact ⟨.inr rfl, rfl, rfl, rfl⟩
theorem cf_impl_countSquares : ∀ args w, (callFunc 66 args).run Try.prog w = .ok (.enter 66 args) w := run_callFunc Try.func66 (by kernel_rfl) (by kernel_rfl)
set_option maxRecDepth 100000 in
set_option maxHeartbeats 400000 in
theorem s_impl_countSquares {k1 : Int} {vn2 : Int} {r : (Int × Bool)} (h : r_impl_countSquares k1 vn2 = some r) : CallS Try.prog 66 [I k1, I vn2] (.tc (I r.1) (.tc (Bo r.2) .tn)) [] := by
  refine CallS_of_text (rs := [.t 4, .t 5]) (vs := [.tmp 4, .tmp 5]) Try.func66 rfl rfl (.cons rfl (.cons rfl FitsL.nil)) (by decide) 15 rfl ?_
  unfold r_impl_countSquares at h
  show V _ _ ⟨[I k1, I vn2, .bot, .bot, .bot, .bot, .bot, .bot, .bot, .bot, .bot, .bot, .bot, .bot, .bot], []⟩ _
  refine V_sreg [true, true, false, false, false, false, false, false, false, false, false, false, false, false, false] [] (s1 := ⟨[I k1, I vn2, .bot, .bot, .bot, .bot, .bot, .bot, .bot, .bot, .bot, .bot, .bot, .bot, .bot], []⟩) ?_ ?_
  · refine XL_cons rfl (X_of_Y0 rfl (E_assign (I 0) rfl (by kernel_rfl))) ?_
    refine XL_cons rfl (X_of_Y0 rfl (E_assign (Bo false) rfl (by kernel_rfl))) ?_
    refine XL_nil ?_
    kernel_rfl
  refine V_seq ?_
  obtain ⟨y3, hy3, h⟩ := of_bind h
  refine V_sreg [true, true, false, false, false, false, false, false, true, false, false, false, false, false, false] [] (s1 := ⟨[I k1, I vn2, .bot, .bot, .bot, .bot, .bot, .bot, Bo (!y3), .bot, .bot, .bot, .bot, .bot, .bot], []⟩) ?_ ?_
  · refine XL_cons rfl (X_of_Y0 rfl (E_move (I vn2) rfl (by kernel_rfl))) ?_
    refine XL_cons rfl (X_of_Y1 rfl (Y1_call (s_impl_isSum hy3) cf_impl_isSum rfl (by kernel_rfl))) ?_
    refine XL_cons rfl (X_of_Y0 rfl (Y0_not (b := y3) rfl (by kernel_rfl))) ?_
    refine XL_nil ?_
    kernel_rfl
  refine V_cond rfl (fun hc4 => ?_) (fun hc4 => ?_)
  · have h := of_true h hc4
    refine V_sreg [false, false, false, false, true, true, false, false, false, false, false, false, false, false, false] [] (s1 := ⟨[.bot, .bot, .bot, .bot, I 0, Bo false, .bot, .bot, .bot, .bot, .bot, .bot, .bot, .bot, .bot], []⟩) ?_ ?_
    · refine XL_cons rfl (X_of_Y0 rfl (E_assign (I 0) rfl (by kernel_rfl))) ?_
      refine XL_cons rfl (X_of_Y0 rfl (E_assign (Bo false) rfl (by kernel_rfl))) ?_
      refine XL_nil ?_
      kernel_rfl
    refine V_ret ?_
    obtain rfl := some_inj h
    show Post _ _ _ _ _
    exact ⟨.inr rfl, rfl, rfl, rfl⟩
  · have h := of_false h hc4
    refine V_skip ?_
    show V _ _ _ _
    obtain ⟨y5, hy5, h⟩ := of_bind h
    obtain ⟨e6, he6, h⟩ := of_bind h
    refine V_sreg [false, false, false, false, true, true, false, false, false, false, false, false, false, false, false] [] (s1 := ⟨[.bot, .bot, .bot, .bot, I e6, Bo true, .bot, .bot, .bot, .bot, .bot, .bot, .bot, .bot, .bot], []⟩) ?_ ?_
    · refine XL_cons rfl (X_of_Y0 rfl (E_move (I k1) rfl (by kernel_rfl))) ?_
      refine XL_cons rfl (X_of_Y0 rfl (E_move (I vn2) rfl (by kernel_rfl))) ?_
      refine XL_cons rfl (X_of_Y1 rfl (Y1_call (s_impl_squareCounts hy5) cf_impl_squareCounts rfl (by kernel_rfl))) ?_
      refine XL_cons rfl (X_of_Y0 rfl (E_move (I vn2) rfl (by kernel_rfl))) ?_
      refine XL_cons rfl (X_of_Y0 rfl (Y0_idxM (c := c3) (xs := y5) (v := e6) (n := vn2) Try.underlying25 sz3 rfl (by kernel_rfl) (by kernel_rfl) he6)) ?_
      refine XL_cons rfl (X_of_Y0 rfl (Y0_load1 (c := Ti e6) (cs := []) sc3 rfl (by kernel_rfl))) ?_
      refine XL_cons rfl (X_of_Y0 rfl (E_assign (I e6) rfl (by kernel_rfl))) ?_
      refine XL_cons rfl (X_of_Y0 rfl (E_assign (Bo true) rfl (by kernel_rfl))) ?_
      refine XL_nil ?_
      kernel_rfl
    refine V_ret ?_
    obtain rfl := some_inj h
    show Post _ _ _ _ _
    exact ⟨.inr rfl, rfl, rfl, rfl⟩
theorem cf_impl_CountThree : ∀ args w, (callFunc 27 args).run Try.prog w = .ok (.enter 27 args) w := run_callFunc Try.func27 (by kernel_rfl) (by kernel_rfl)
set_option maxRecDepth 100000 in
set_option maxHeartbeats 400000 in
theorem s_impl_CountThree {vn1 : Int} {r : (Int × Bool)} (h : r_impl_CountThree vn1 = some r) : CallS Try.prog 27 [I vn1] (.tc (I r.1) (.tc (Bo r.2) .tn)) [] := by
  refine CallS_of_text (rs := [.t 2, .t 3]) (vs := [.tmp 2, .tmp 3]) Try.func27 rfl rfl (.cons rfl (.cons rfl FitsL.nil)) (by decide) 8 rfl ?_
  unfold r_impl_CountThree at h
  show V _ _ ⟨[I vn1, .bot, .bot, .bot, .bot, .bot, .bot, .bot], []⟩ _
  refine V_sreg [true, false, false, false, false, false, false, false] [] (s1 := ⟨[I vn1, .bot, .bot, .bot, .bot, .bot, .bot, .bot], []⟩) ?_ ?_
  · refine XL_cons rfl (X_of_Y0 rfl (E_assign (I 0) rfl (by kernel_rfl))) ?_
    refine XL_cons rfl (X_of_Y0 rfl (E_assign (Bo false) rfl (by kernel_rfl))) ?_
    refine XL_nil ?_
    kernel_rfl
  obtain ⟨y2, hy2, h⟩ := of_bind h
  refine V_sreg [false, false, true, true, false, false, false, false] [] (s1 := ⟨[.bot, .bot, I y2.1, Bo y2.2, .bot, .bot, .bot, .bot], []⟩) ?_ ?_
  · refine XL_cons rfl (X_of_Y0 rfl (E_move (I vn1) rfl (by kernel_rfl))) ?_
    refine XL_cons rfl (X_of_Y1 rfl (Y1_call (s_impl_countSquares hy2) cf_impl_countSquares rfl (by kernel_rfl))) ?_
    refine XL_cons rfl (X_of_Y0 rfl (E_ext (n := 0) (I y2.1) (.tc (Bo y2.2) .tn) (I y2.1) rfl (by kernel_rfl) (by kernel_rfl) (by intro hh; cases hh))) ?_
    refine XL_cons rfl (X_of_Y0 rfl (E_ext (n := 1) (I y2.1) (.tc (Bo y2.2) .tn) (Bo y2.2) rfl (by kernel_rfl) (by kernel_rfl) (by intro hh; cases hh))) ?_
    refine XL_cons rfl (X_of_Y0 rfl (E_assign (I y2.1) rfl (by kernel_rfl))) ?_
    refine XL_cons rfl (X_of_Y0 rfl (E_assign (Bo y2.2) rfl (by kernel_rfl))) ?_
    refine XL_nil ?_
    kernel_rfl
  refine V_ret ?_
  obtain rfl := some_inj h
  show Post _ _ _ _ _
  exact ⟨.inr rfl, rfl, rfl, rfl⟩
theorem cf_spec_l1In : ∀ args w, (callFunc 83 args).run Try.prog w = .ok (.enter 83 args) w := run_callFunc Try.func83 (by kernel_rfl) (by kernel_rfl)
set_option maxRecDepth 100000 in
set_option maxHeartbeats 400000 in
theorem s_spec_l1In {vn1 : Int} {lo2 : Int} {hi3 : Int} {r : Bool} (h : r_spec_l1In vn1 lo2 hi3 = some r) : CallS Try.prog 83 [I vn1, I lo2, I hi3] (Bo r) [] := by
  refine CallS_of_text (rs := [.t 6]) (vs := [.tmp 6]) Try.func83 rfl rfl (.cons rfl FitsL.nil) (by decide) 15 rfl ?_
  unfold r_spec_l1In at h
  show V _ _ ⟨[I vn1, I lo2, I hi3, .bot, .bot, .bot, .bot, .bot, .bot, .bot, .bot, .bot, .bot, .bot, .bot], []⟩ _
  refine V_sreg [true, true, true, false, false, false, false, false, false, false, false, false, false, false, false] [] (s1 := ⟨[I vn1, I lo2, I hi3, .bot, .bot, .bot, .bot, .bot, .bot, .bot, .bot, .bot, .bot, .bot, .bot], []⟩) ?_ ?_
  · refine XL_cons rfl (X_of_Y0 rfl (E_assign (Bo false) rfl (by kernel_rfl))) ?_
    refine XL_nil ?_
    kernel_rfl
  refine V_sreg [false, false, false, false, false, false, true, false, false, false, false, false, false, false, false] [] (s1 := ⟨[.bot, .bot, .bot, .bot, .bot, .bot, Bo (bif (leI lo2 vn1) then (leI vn1 hi3) else false), .bot, .bot, .bot, .bot, .bot, .bot, .bot, .bot], []⟩) ?_ ?_
  · refine XL_cons rfl (X_of_Y0 rfl (E_move (I vn1) rfl (by kernel_rfl))) ?_
    refine XL_cons rfl (X_of_Y0 rfl (E_move (I lo2) rfl (by kernel_rfl))) ?_
    refine XL_cons rfl (X_of_Y0 rfl (Y0_gew (k := .i64) (a := vn1) (b := lo2) rfl (by kernel_rfl) (by kernel_rfl))) ?_
    refine XL_cons rfl (X_of_Y0 rfl (E_move (Bo (leI lo2 vn1)) rfl (by kernel_rfl))) ?_
    refine XL_split (leI lo2 vn1) (fun hc4 => ?_) (fun hc4 => ?_)
    · refine XL_takeC (leI lo2 vn1) rfl rfl (by kernel_rfl) hc4 (X_of_Y0 rfl (E_move (I vn1) rfl (by kernel_rfl))) ?_
      refine XL_takeC (leI lo2 vn1) rfl rfl (by kernel_rfl) hc4 (X_of_Y0 rfl (E_move (I hi3) rfl (by kernel_rfl))) ?_
      refine XL_takeC (leI lo2 vn1) rfl rfl (by kernel_rfl) hc4 (X_of_Y0 rfl (Y0_lew (k := .i64) (a := vn1) (b := hi3) rfl (by kernel_rfl) (by kernel_rfl))) ?_
      refine XL_cons rfl (X_of_Y0 rfl (Y0_pick1 (b := leI lo2 vn1) (p := leI vn1 hi3) (q := false) rfl (by kernel_rfl) hc4 (by kernel_rfl))) ?_
      refine XL_cons rfl (X_of_Y0 rfl (E_assign (Bo (bif (leI lo2 vn1) then (leI vn1 hi3) else false)) rfl (by kernel_rfl))) ?_
      refine XL_nil ?_
      kernel_rfl
    · refine XL_skipT (leI lo2 vn1) rfl rfl (by kernel_rfl) hc4 rfl ?_
      refine XL_skipT (leI lo2 vn1) rfl rfl (by kernel_rfl) hc4 rfl ?_
      refine XL_skipT (leI lo2 vn1) rfl rfl (by kernel_rfl) hc4 rfl ?_
      refine XL_cons rfl (X_of_Y0 rfl (Y0_pick0 (b := leI lo2 vn1) (p := leI vn1 hi3) (q := false) rfl (by kernel_rfl) hc4 (by kernel_rfl))) ?_
      refine XL_cons rfl (X_of_Y0 rfl (E_assign (Bo (bif (leI lo2 vn1) then (leI vn1 hi3) else false)) rfl (by kernel_rfl))) ?_
      refine XL_nil ?_
      kernel_rfl
  refine V_ret ?_
  obtain rfl := some_inj h
  show Post _ _ _ _ _
  exact ⟨.inr rfl, rfl, rfl, rfl⟩
theorem cf_spec_sqGood : ∀ args w, (callFunc 67 args).run Try.prog w = .ok (.enter 67 args) w := run_callFunc Try.func67 (by kernel_rfl) (by kernel_rfl)
set_option maxRecDepth 100000 in
set_option maxHeartbeats 400000 in
theorem s_spec_sqGood {vn1 : Int} {r : Bool} (h : r_spec_sqGood vn1 = some r) : CallS Try.prog 67 [I vn1] (Bo r) [] := by
  refine CallS_of_text (rs := [.t 2]) (vs := [.tmp 2]) Try.func67 rfl rfl (.cons rfl FitsL.nil) (by decide) 5 rfl ?_
  unfold r_spec_sqGood at h
  show V _ _ ⟨[I vn1, .bot, .bot, .bot, .bot], []⟩ _
  refine V_sreg [true, false, false, false, false] [] (s1 := ⟨[I vn1, .bot, .bot, .bot, .bot], []⟩) ?_ ?_
  · refine XL_cons rfl (X_of_Y0 rfl (E_assign (Bo false) rfl (by kernel_rfl))) ?_
    refine XL_nil ?_
    kernel_rfl
  obtain ⟨y2, hy2, h⟩ := of_bind h
  refine V_sreg [false, false, true, false, false] [] (s1 := ⟨[.bot, .bot, Bo y2, .bot, .bot], []⟩) ?_ ?_
  · refine XL_cons rfl (X_of_Y0 rfl (E_move (I vn1) rfl (by kernel_rfl))) ?_
    refine XL_cons rfl (X_of_Y1 rfl (Y1_call (s_spec_l1In hy2) cf_spec_l1In rfl (by kernel_rfl))) ?_
    refine XL_cons rfl (X_of_Y0 rfl (E_assign (Bo y2) rfl (by kernel_rfl))) ?_
    refine XL_nil ?_
    kernel_rfl
  refine V_ret ?_
  obtain rfl := some_inj h
  show Post _ _ _ _ _
  exact ⟨.inr rfl, rfl, rfl, rfl⟩
theorem cf_spec_nuRoot : ∀ args w, (callFunc 150 args).run Try.prog w = .ok (.enter 150 args) w := run_callFunc Try.func150 (by kernel_rfl) (by kernel_rfl)
set_option maxRecDepth 100000 in
set_option maxHeartbeats 400000 in
theorem s_spec_nuRoot {vn1 : Int} {r : Int} (h : r_spec_nuRoot vn1 = some r) : CallS Try.prog 150 [I vn1] (I r) [] := by
  refine CallS_of_text (rs := [.t 2]) (vs := [.tmp 2]) Try.func150 rfl rfl (.cons rfl FitsL.nil) (by decide) 23 rfl ?_
  unfold r_spec_nuRoot at h
  show V _ _ ⟨[I vn1, .bot, .bot, .bot, .bot, .bot, .bot, .bot, .bot, .bot, .bot, .bot, .bot, .bot, .bot, .bot, .bot, .bot, .bot, .bot, .bot, .bot, .bot], []⟩ _
  refine V_sreg [true, false, false, false, false, false, false, false, false, false, false, false, false, false, false, false, false, false, false, false, false, false, false] [] (s1 := ⟨[I vn1, .bot, .bot, .bot, .bot, .bot, .bot, .bot, .bot, .bot, .bot, .bot, .bot, .bot, .bot, .bot, .bot, .bot, .bot, .bot, .bot, .bot, .bot], []⟩) ?_ ?_
  · refine XL_cons rfl (X_of_Y0 rfl (E_assign (I 0) rfl (by kernel_rfl))) ?_
    refine XL_nil ?_
    kernel_rfl
  refine V_sreg [true, false, false, true, true, false, false, false, false, false, false, false, false, false, false, false, false, false, false, false, false, false, false] [] (s1 := ⟨[I vn1, .bot, .bot, I 0, I 1000000000, .bot, .bot, .bot, .bot, .bot, .bot, .bot, .bot, .bot, .bot, .bot, .bot, .bot, .bot, .bot, .bot, .bot, .bot], []⟩) ?_ ?_
  · refine XL_cons rfl (X_of_Y0 rfl (E_assign (I 0) rfl (by kernel_rfl))) ?_
    refine XL_cons rfl (X_of_Y0 rfl (E_assign (I 1000000000) rfl (by kernel_rfl))) ?_
    refine XL_nil ?_
    kernel_rfl
  refine V_seq ?_
  obtain ⟨o5, hLo5, h⟩ := of_bind h
  refine V_toK [false, false, false, true, false, false, false, false, false, false, false, false, false, false, false, false, false, false, false, false, false, false, false] [] (s1 := ⟨[.bot, .bot, .bot, I o5, .bot, .bot, .bot, .bot, .bot, .bot, .bot, .bot, .bot, .bot, .bot, .bot, .bot, .bot, .bot, .bot, .bot, .bot, .bot], []⟩) ?_ ?_
  · clear h
    refine V_block (V_loop (fun n s => ∃ (lo2 : Int) (hi3 : Int), s.keep [true, false, false, true, true, false, false, false, false, false, false, false, false, false, false, false, false, false, false, false, false, false, false] [] = (⟨[I vn1, .bot, .bot, I lo2, I hi3, .bot, .bot, .bot, .bot, .bot, .bot, .bot, .bot, .bot, .bot, .bot, .bot, .bot, .bot, .bot, .bot, .bot, .bot], []⟩ : St) ∧ r_spec_nuRoot_L4 vn1 n lo2 hi3 = some o5) FU ⟨_, _,  by rfl, hLo5⟩ ?_)
    clear hLo5
    rintro n s ⟨lo2, hi3, hs, h⟩
    refine V_keep _ _ hs ?_
    clear hs
    cases n with
    | zero => cases h
    | succ n =>
      rw [r_spec_nuRoot_L4] at h
      refine V_seq ?_
      refine V_sreg [true, false, false, true, true, false, false, false, true, false, false, false, false, false, false, false, false, false, false, false, false, false, false] [] (s1 := ⟨[I vn1, .bot, .bot, I lo2, I hi3, .bot, .bot, .bot, Bo (ltI lo2 hi3), .bot, .bot, .bot, .bot, .bot, .bot, .bot, .bot, .bot, .bot, .bot, .bot, .bot, .bot], []⟩) ?_ ?_
      · refine XL_cons rfl (X_of_Y0 rfl (E_move (I lo2) rfl (by kernel_rfl))) ?_
        refine XL_cons rfl (X_of_Y0 rfl (E_move (I hi3) rfl (by kernel_rfl))) ?_
        refine XL_cons rfl (X_of_Y0 rfl (Y0_ltw (k := .i64) (a := lo2) (b := hi3) rfl (by kernel_rfl) (by kernel_rfl))) ?_
        refine XL_nil ?_
        kernel_rfl
      refine V_cond rfl (fun hc6 => ?_) (fun hc6 => ?_)
      · have h := of_true h hc6
        refine V_skip ?_
        show V _ _ _ _
        refine V_block ?_
        obtain ⟨mid7, hmid7, h⟩ := of_sI h
        refine V_sreg [true, false, false, true, true, true, false, false, false, false, false, false, false, false, false, false, false, false, false, false, false, false, false] [] (s1 := ⟨[I vn1, .bot, .bot, I lo2, I hi3, I mid7, .bot, .bot, .bot, .bot, .bot, .bot, .bot, .bot, .bot, .bot, .bot, .bot, .bot, .bot, .bot, .bot, .bot], []⟩) ?_ ?_
        · refine XL_cons rfl (X_of_Y0 rfl (E_move (I lo2) rfl (by kernel_rfl))) ?_
          refine XL_cons rfl (X_of_Y0 rfl (E_move (I hi3) rfl (by kernel_rfl))) ?_
          refine XL_cons rfl (X_of_Y0 rfl (Y0_add64 (a := lo2) (b := hi3) rfl (by kernel_rfl) (by kernel_rfl))) ?_
          refine XL_cons rfl (X_of_Y0 rfl (Y0_add64 (a := w64 (lo2 + hi3)) (b := 1) rfl (by kernel_rfl) (by kernel_rfl))) ?_
          refine XL_cons rfl (X_of_Y0 rfl (Y0_quo64 (a := w64 ((w64 (lo2 + hi3)) + 1)) (b := 2) rfl (by kernel_rfl) (by kernel_rfl) (by decide))) ?_
          refine XL_cons rfl (X_of_Y0 rfl (E_assign (I (w64 (Int.tdiv (w64 ((w64 (lo2 + hi3)) + 1)) 2))) rfl (by kernel_rfl))) ?_
          refine XL_nil ?_
          subst hmid7
          kernel_rfl
        refine V_sreg [true, false, false, true, true, true, false, false, false, false, false, false, false, false, false, false, false, false, true, false, false, false, false] [] (s1 := ⟨[I vn1, .bot, .bot, I lo2, I hi3, I mid7, .bot, .bot, .bot, .bot, .bot, .bot, .bot, .bot, .bot, .bot, .bot, .bot, Bo (leI (w64 (mid7 * mid7)) vn1), .bot, .bot, .bot, .bot], []⟩) ?_ ?_
        · refine XL_cons rfl (X_of_Y0 rfl (E_move (I mid7) rfl (by kernel_rfl))) ?_
          refine XL_cons rfl (X_of_Y0 rfl (E_move (I mid7) rfl (by kernel_rfl))) ?_
          refine XL_cons rfl (X_of_Y0 rfl (Y0_mul64 (a := mid7) (b := mid7) rfl (by kernel_rfl) (by kernel_rfl))) ?_
          refine XL_cons rfl (X_of_Y0 rfl (E_move (I vn1) rfl (by kernel_rfl))) ?_
          refine XL_cons rfl (X_of_Y0 rfl (Y0_lew (k := .i64) (a := w64 (mid7 * mid7)) (b := vn1) rfl (by kernel_rfl) (by kernel_rfl))) ?_
          refine XL_nil ?_
          kernel_rfl
        refine V_cond rfl (fun hc8 => ?_) (fun hc8 => ?_)
        · have h := of_true h hc8
          refine V_reg [true, false, false, true, true, false, false, false, false, false, false, false, false, false, false, false, false, false, false, false, false, false, false] [] (s1 := ⟨[I vn1, .bot, .bot, I mid7, I hi3, .bot, .bot, .bot, .bot, .bot, .bot, .bot, .bot, .bot, .bot, .bot, .bot, .bot, .bot, .bot, .bot, .bot, .bot], []⟩) ?_ ?_
          · refine XL_cons rfl (X_of_Y0 rfl (E_move (I mid7) rfl (by kernel_rfl))) ?_
            refine XL_cons rfl (X_of_Y0 rfl (E_assign (I mid7) rfl (by kernel_rfl))) ?_
            refine XL_nil ?_
            kernel_rfl
          exact ⟨n, Nat.lt_succ_self n, _, _,  by rfl, h⟩
        · have h := of_false h hc8
          obtain ⟨hi9, hhi9, h⟩ := of_sI h
          refine V_reg [true, false, false, true, true, false, false, false, false, false, false, false, false, false, false, false, false, false, false, false, false, false, false] [] (s1 := ⟨[I vn1, .bot, .bot, I lo2, I hi9, .bot, .bot, .bot, .bot, .bot, .bot, .bot, .bot, .bot, .bot, .bot, .bot, .bot, .bot, .bot, .bot, .bot, .bot], []⟩) ?_ ?_
          · refine XL_cons rfl (X_of_Y0 rfl (E_move (I mid7) rfl (by kernel_rfl))) ?_
            refine XL_cons rfl (X_of_Y0 rfl (Y0_sub64 (a := mid7) (b := 1) rfl (by kernel_rfl) (by kernel_rfl))) ?_
            refine XL_cons rfl (X_of_Y0 rfl (E_assign (I (w64 (mid7 - 1))) rfl (by kernel_rfl))) ?_
            refine XL_nil ?_
            subst hhi9
            kernel_rfl
          exact ⟨n, Nat.lt_succ_self n, _, _,  by rfl, h⟩
      · have h := of_false h hc6
        refine V_exit ?_
        obtain rfl := some_inj h
        show St.keep _ _ _ = _
        rfl
  show V _ _ _ _
  refine V_sreg [false, false, true, false, false, false, false, false, false, false, false, false, false, false, false, false, false, false, false, false, false, false, false] [] (s1 := ⟨[.bot, .bot, I o5, .bot, .bot, .bot, .bot, .bot, .bot, .bot, .bot, .bot, .bot, .bot, .bot, .bot, .bot, .bot, .bot, .bot, .bot, .bot, .bot], []⟩) ?_ ?_
  · refine XL_cons rfl (X_of_Y0 rfl (E_move (I o5) rfl (by kernel_rfl))) ?_
    refine XL_cons rfl (X_of_Y0 rfl (E_assign (I o5) rfl (by kernel_rfl))) ?_
    refine XL_nil ?_
    kernel_rfl
  refine V_ret ?_
  obtain rfl := some_inj h
  show Post _ _ _ _ _
  exact ⟨.inr rfl, rfl, rfl, rfl⟩
theorem cf_spec_nuSquare : ∀ args w, (callFunc 138 args).run Try.prog w = .ok (.enter 138 args) w := run_callFunc Try.func138 (by kernel_rfl) (by kernel_rfl)
set_option maxRecDepth 100000 in
set_option maxHeartbeats 400000 in
theorem s_spec_nuSquare {vn1 : Int} {r : Bool} (h : r_spec_nuSquare vn1 = some r) : CallS Try.prog 138 [I vn1] (Bo r) [] := by
  refine CallS_of_text (rs := [.t 2]) (vs := [.tmp 2]) Try.func138 rfl rfl (.cons rfl FitsL.nil) (by decide) 13 rfl ?_
  unfold r_spec_nuSquare at h
  show V _ _ ⟨[I vn1, .bot, .bot, .bot, .bot, .bot, .bot, .bot, .bot, .bot, .bot, .bot, .bot], []⟩ _
  refine V_sreg [true, false, false, false, false, false, false, false, false, false, false, false, false] [] (s1 := ⟨[I vn1, .bot, .bot, .bot, .bot, .bot, .bot, .bot, .bot, .bot, .bot, .bot, .bot], []⟩) ?_ ?_
  · refine XL_cons rfl (X_of_Y0 rfl (E_assign (Bo false) rfl (by kernel_rfl))) ?_
    refine XL_nil ?_
    kernel_rfl
  refine V_seq ?_
  refine V_sreg [true, false, false, false, false, true, false, false, false, false, false, false, false] [] (s1 := ⟨[I vn1, .bot, .bot, .bot, .bot, Bo (ltI vn1 0), .bot, .bot, .bot, .bot, .bot, .bot, .bot], []⟩) ?_ ?_
  · refine XL_cons rfl (X_of_Y0 rfl (E_move (I vn1) rfl (by kernel_rfl))) ?_
    refine XL_cons rfl (X_of_Y0 rfl (Y0_ltw (k := .i64) (a := vn1) (b := 0) rfl (by kernel_rfl) (by kernel_rfl))) ?_
    refine XL_nil ?_
    kernel_rfl
  refine V_cond rfl (fun hc2 => ?_) (fun hc2 => ?_)
  · have h := of_true h hc2
    refine V_sreg [false, false, true, false, false, false, false, false, false, false, false, false, false] [] (s1 := ⟨[.bot, .bot, Bo false, .bot, .bot, .bot, .bot, .bot, .bot, .bot, .bot, .bot, .bot], []⟩) ?_ ?_
    · refine XL_cons rfl (X_of_Y0 rfl (E_assign (Bo false) rfl (by kernel_rfl))) ?_
      refine XL_nil ?_
      kernel_rfl
    refine V_ret ?_
    obtain rfl := some_inj h
    show Post _ _ _ _ _
    exact ⟨.inr rfl, rfl, rfl, rfl⟩
  · have h := of_false h hc2
    refine V_skip ?_
    show V _ _ _ _
    obtain ⟨y3, hy3, h⟩ := of_bind h
    refine V_sreg [true, false, false, true, false, false, false, false, false, false, false, false, false] [] (s1 := ⟨[I vn1, .bot, .bot, I y3, .bot, .bot, .bot, .bot, .bot, .bot, .bot, .bot, .bot], []⟩) ?_ ?_
    · refine XL_cons rfl (X_of_Y0 rfl (E_move (I vn1) rfl (by kernel_rfl))) ?_
      refine XL_cons rfl (X_of_Y1 rfl (Y1_call (s_spec_nuRoot hy3) cf_spec_nuRoot rfl (by kernel_rfl))) ?_
      refine XL_cons rfl (X_of_Y0 rfl (E_assign (I y3) rfl (by kernel_rfl))) ?_
      refine XL_nil ?_
      kernel_rfl
    refine V_sreg [false, false, true, false, false, false, false, false, false, false, false, false, false] [] (s1 := ⟨[.bot, .bot, Bo (eqI (w64 (y3 * y3)) vn1), .bot, .bot, .bot, .bot, .bot, .bot, .bot, .bot, .bot, .bot], []⟩) ?_ ?_
    · refine XL_cons rfl (X_of_Y0 rfl (E_move (I y3) rfl (by kernel_rfl))) ?_
      refine XL_cons rfl (X_of_Y0 rfl (E_move (I y3) rfl (by kernel_rfl))) ?_
      refine XL_cons rfl (X_of_Y0 rfl (Y0_mul64 (a := y3) (b := y3) rfl (by kernel_rfl) (by kernel_rfl))) ?_
      refine XL_cons rfl (X_of_Y0 rfl (E_move (I vn1) rfl (by kernel_rfl))) ?_
      refine XL_cons rfl (X_of_Y0 rfl (Y0_eqw (k := .i64) (a := w64 (y3 * y3)) (b := vn1) rfl (by kernel_rfl) (by kernel_rfl))) ?_
      refine XL_cons rfl (X_of_Y0 rfl (E_assign (Bo (eqI (w64 (y3 * y3)) vn1)) rfl (by kernel_rfl))) ?_
      refine XL_nil ?_
      kernel_rfl
    refine V_ret ?_
    obtain rfl := some_inj h
    show Post _ _ _ _ _
    exact ⟨.inr rfl, rfl, rfl, rfl⟩
theorem cf_spec_sqTwo : ∀ args w, (callFunc 110 args).run Try.prog w = .ok (.enter 110 args) w := run_callFunc Try.func110 (by kernel_rfl) (by kernel_rfl)
set_option maxRecDepth 100000 in
set_option maxHeartbeats 400000 in
theorem s_spec_sqTwo {vn1 : Int} {r : Int} (h : r_spec_sqTwo vn1 = some r) : CallS Try.prog 110 [I vn1] (I r) [] := by
  refine CallS_of_text (rs := [.t 2]) (vs := [.tmp 2]) Try.func110 rfl rfl (.cons rfl FitsL.nil) (by decide) 35 rfl ?_
  unfold r_spec_sqTwo at h
  show V _ _ ⟨[I vn1, .bot, .bot, .bot, .bot, .bot, .bot, .bot, .bot, .bot, .bot, .bot, .bot, .bot, .bot, .bot, .bot, .bot, .bot, .bot, .bot, .bot, .bot, .bot, .bot, .bot, .bot, .bot, .bot, .bot, .bot, .bot, .bot, .bot, .bot], []⟩ _
  refine V_sreg [true, false, false, false, false, false, false, false, false, false, false, false, false, false, false, false, false, false, false, false, false, false, false, false, false, false, false, false, false, false, false, false, false, false, false] [] (s1 := ⟨[I vn1, .bot, .bot, .bot, .bot, .bot, .bot, .bot, .bot, .bot, .bot, .bot, .bot, .bot, .bot, .bot, .bot, .bot, .bot, .bot, .bot, .bot, .bot, .bot, .bot, .bot, .bot, .bot, .bot, .bot, .bot, .bot, .bot, .bot, .bot], []⟩) ?_ ?_
  · refine XL_cons rfl (X_of_Y0 rfl (E_assign (I 0) rfl (by kernel_rfl))) ?_
    refine XL_nil ?_
    kernel_rfl
  refine V_sreg [true, false, false, true, false, false, false, false, false, false, false, false, false, false, false, false, false, false, false, false, false, false, false, false, false, false, false, false, false, false, false, false, false, false, false] [] (s1 := ⟨[I vn1, .bot, .bot, I 0, .bot, .bot, .bot, .bot, .bot, .bot, .bot, .bot, .bot, .bot, .bot, .bot, .bot, .bot, .bot, .bot, .bot, .bot, .bot, .bot, .bot, .bot, .bot, .bot, .bot, .bot, .bot, .bot, .bot, .bot, .bot], []⟩) ?_ ?_
  · refine XL_cons rfl (X_of_Y0 rfl (E_assign (I 0) rfl (by kernel_rfl))) ?_
    refine XL_nil ?_
    kernel_rfl
  refine V_seq ?_
  refine V_sreg [true, false, false, true, true, false, false, false, false, false, false, false, false, false, false, false, false, false, false, false, false, false, false, false, false, false, false, false, false, false, false, false, false, false, false] [] (s1 := ⟨[I vn1, .bot, .bot, I 0, I 0, .bot, .bot, .bot, .bot, .bot, .bot, .bot, .bot, .bot, .bot, .bot, .bot, .bot, .bot, .bot, .bot, .bot, .bot, .bot, .bot, .bot, .bot, .bot, .bot, .bot, .bot, .bot, .bot, .bot, .bot], []⟩) ?_ ?_
  · refine XL_cons rfl (X_of_Y0 rfl (E_assign (I 0) rfl (by kernel_rfl))) ?_
    refine XL_nil ?_
    kernel_rfl
  obtain ⟨o5, hLo5, h⟩ := of_bind h
  refine V_toK [false, false, false, true, false, false, false, false, false, false, false, false, false, false, false, false, false, false, false, false, false, false, false, false, false, false, false, false, false, false, false, false, false, false, false] [] (s1 := ⟨[.bot, .bot, .bot, I o5, .bot, .bot, .bot, .bot, .bot, .bot, .bot, .bot, .bot, .bot, .bot, .bot, .bot, .bot, .bot, .bot, .bot, .bot, .bot, .bot, .bot, .bot, .bot, .bot, .bot, .bot, .bot, .bot, .bot, .bot, .bot], []⟩) ?_ ?_
  · clear h
    refine V_block (V_loop (fun n s => ∃ (x2 : Int) (count3 : Int), s.keep [true, false, false, true, true, false, false, false, false, false, false, false, false, false, false, false, false, false, false, false, false, false, false, false, false, false, false, false, false, false, false, false, false, false, false] [] = (⟨[I vn1, .bot, .bot, I count3, I x2, .bot, .bot, .bot, .bot, .bot, .bot, .bot, .bot, .bot, .bot, .bot, .bot, .bot, .bot, .bot, .bot, .bot, .bot, .bot, .bot, .bot, .bot, .bot, .bot, .bot, .bot, .bot, .bot, .bot, .bot], []⟩ : St) ∧ r_spec_sqTwo_L4 vn1 n x2 count3 = some o5) FU ⟨_, _,  by rfl, hLo5⟩ ?_)
    clear hLo5
    rintro n s ⟨x2, count3, hs, h⟩
    refine V_keep _ _ hs ?_
    clear hs
    cases n with
    | zero => cases h
    | succ n =>
      rw [r_spec_sqTwo_L4] at h
      refine V_seq ?_
      refine V_sreg [true, false, false, true, true, false, false, false, false, false, true, false, false, false, false, false, false, false, false, false, false, false, false, false, false, false, false, false, false, false, false, false, false, false, false] [] (s1 := ⟨[I vn1, .bot, .bot, I count3, I x2, .bot, .bot, .bot, .bot, .bot, Bo (leI (w64 (x2 * x2)) vn1), .bot, .bot, .bot, .bot, .bot, .bot, .bot, .bot, .bot, .bot, .bot, .bot, .bot, .bot, .bot, .bot, .bot, .bot, .bot, .bot, .bot, .bot, .bot, .bot], []⟩) ?_ ?_
      · refine XL_cons rfl (X_of_Y0 rfl (E_move (I x2) rfl (by kernel_rfl))) ?_
        refine XL_cons rfl (X_of_Y0 rfl (E_move (I x2) rfl (by kernel_rfl))) ?_
        refine XL_cons rfl (X_of_Y0 rfl (Y0_mul64 (a := x2) (b := x2) rfl (by kernel_rfl) (by kernel_rfl))) ?_
        refine XL_cons rfl (X_of_Y0 rfl (E_move (I vn1) rfl (by kernel_rfl))) ?_
        refine XL_cons rfl (X_of_Y0 rfl (Y0_lew (k := .i64) (a := w64 (x2 * x2)) (b := vn1) rfl (by kernel_rfl) (by kernel_rfl))) ?_
        refine XL_nil ?_
        kernel_rfl
      refine V_cond rfl (fun hc6 => ?_) (fun hc6 => ?_)
      · have h := of_true h hc6
        refine V_skip ?_
        show V _ _ _ _
        refine V_seq ?_
        refine V_block ?_
        refine V_seq ?_
        obtain ⟨y7, hy7, h⟩ := of_bind h
        refine V_sreg [true, false, false, true, true, false, false, false, false, false, false, false, false, false, false, false, false, false, false, true, false, false, false, false, false, false, false, false, false, false, false, false, false, false, false] [] (s1 := ⟨[I vn1, .bot, .bot, I count3, I x2, .bot, .bot, .bot, .bot, .bot, .bot, .bot, .bot, .bot, .bot, .bot, .bot, .bot, .bot, Bo (!y7), .bot, .bot, .bot, .bot, .bot, .bot, .bot, .bot, .bot, .bot, .bot, .bot, .bot, .bot, .bot], []⟩) ?_ ?_
        · refine XL_cons rfl (X_of_Y0 rfl (E_move (I vn1) rfl (by kernel_rfl))) ?_
          refine XL_cons rfl (X_of_Y0 rfl (E_move (I x2) rfl (by kernel_rfl))) ?_
          refine XL_cons rfl (X_of_Y0 rfl (E_move (I x2) rfl (by kernel_rfl))) ?_
          refine XL_cons rfl (X_of_Y0 rfl (Y0_mul64 (a := x2) (b := x2) rfl (by kernel_rfl) (by kernel_rfl))) ?_
          refine XL_cons rfl (X_of_Y0 rfl (Y0_sub64 (a := vn1) (b := w64 (x2 * x2)) rfl (by kernel_rfl) (by kernel_rfl))) ?_
          refine XL_cons rfl (X_of_Y1 rfl (Y1_call (s_spec_nuSquare hy7) cf_spec_nuSquare rfl (by kernel_rfl))) ?_
          refine XL_cons rfl (X_of_Y0 rfl (Y0_not (b := y7) rfl (by kernel_rfl))) ?_
          refine XL_nil ?_
          kernel_rfl
        refine V_cond rfl (fun hc8 => ?_) (fun hc8 => ?_)
        · have h := of_true h hc8
          refine V_exit ?_
          show V _ _ _ _
          obtain ⟨x9, hx9, h⟩ := of_sI h
          refine V_reg [true, false, false, true, true, false, false, false, false, false, false, false, false, false, false, false, false, false, false, false, false, false, false, false, false, false, false, false, false, false, false, false, false, false, false] [] (s1 := ⟨[I vn1, .bot, .bot, I count3, I x9, .bot, .bot, .bot, .bot, .bot, .bot, .bot, .bot, .bot, .bot, .bot, .bot, .bot, .bot, .bot, .bot, .bot, .bot, .bot, .bot, .bot, .bot, .bot, .bot, .bot, .bot, .bot, .bot, .bot, .bot], []⟩) ?_ ?_
          · refine XL_cons rfl (X_of_Y0 rfl (E_move (I x2) rfl (by kernel_rfl))) ?_
            refine XL_cons rfl (X_of_Y0 rfl (Y0_add64 (a := x2) (b := 1) rfl (by kernel_rfl) (by kernel_rfl))) ?_
            refine XL_cons rfl (X_of_Y0 rfl (E_assign (I (w64 (x2 + 1))) rfl (by kernel_rfl))) ?_
            refine XL_nil ?_
            subst hx9
            kernel_rfl
          exact ⟨n, Nat.lt_succ_self n, _, _,  by rfl, h⟩
        · have h := of_false h hc8
          refine V_skip ?_
          show V _ _ _ _
          refine V_sreg [true, false, false, true, true, true, false, false, false, false, false, false, false, false, false, false, false, false, false, false, false, false, false, false, false, false, false, false, false, false, false, false, false, false, false] [] (s1 := ⟨[I vn1, .bot, .bot, I count3, I x2, I 4, .bot, .bot, .bot, .bot, .bot, .bot, .bot, .bot, .bot, .bot, .bot, .bot, .bot, .bot, .bot, .bot, .bot, .bot, .bot, .bot, .bot, .bot, .bot, .bot, .bot, .bot, .bot, .bot, .bot], []⟩) ?_ ?_
          · refine XL_cons rfl (X_of_Y0 rfl (E_assign (I 4) rfl (by kernel_rfl))) ?_
            refine XL_nil ?_
            kernel_rfl
          obtain ⟨j10, hj10, h⟩ := of_bind h
          refine V_cutK [true, false, false, true, true, true, false, false, false, false, false, false, false, false, false, false, false, false, false, false, false, false, false, false, false, false, false, false, false, false, false, false, false, false, false] [] (s1 := ⟨[I vn1, .bot, .bot, I count3, I x2, I j10, .bot, .bot, .bot, .bot, .bot, .bot, .bot, .bot, .bot, .bot, .bot, .bot, .bot, .bot, .bot, .bot, .bot, .bot, .bot, .bot, .bot, .bot, .bot, .bot, .bot, .bot, .bot, .bot, .bot], []⟩) ?_ ?_
          · clear h
            have h := hj10
            clear hj10
            refine V_sreg [true, false, false, true, true, true, false, false, false, false, false, false, false, false, false, false, false, false, false, false, false, true, false, false, false, false, false, false, false, false, false, false, false, false, false] [] (s1 := ⟨[I vn1, .bot, .bot, I count3, I x2, I 4, .bot, .bot, .bot, .bot, .bot, .bot, .bot, .bot, .bot, .bot, .bot, .bot, .bot, .bot, .bot, Bo (eqI x2 0), .bot, .bot, .bot, .bot, .bot, .bot, .bot, .bot, .bot, .bot, .bot, .bot, .bot], []⟩) ?_ ?_
            · refine XL_cons rfl (X_of_Y0 rfl (E_move (I x2) rfl (by kernel_rfl))) ?_
              refine XL_cons rfl (X_of_Y0 rfl (Y0_eqw (k := .i64) (a := x2) (b := 0) rfl (by kernel_rfl) (by kernel_rfl))) ?_
              refine XL_nil ?_
              kernel_rfl
            refine V_cond rfl (fun hc11 => ?_) (fun hc11 => ?_)
            · have h := of_true h hc11
              obtain ⟨times12, htimes12, h⟩ := of_sI h
              refine V_reg [true, false, false, true, true, true, false, false, false, false, false, false, false, false, false, false, false, false, false, false, false, false, false, false, false, false, false, false, false, false, false, false, false, false, false] [] (s1 := ⟨[I vn1, .bot, .bot, I count3, I x2, I times12, .bot, .bot, .bot, .bot, .bot, .bot, .bot, .bot, .bot, .bot, .bot, .bot, .bot, .bot, .bot, .bot, .bot, .bot, .bot, .bot, .bot, .bot, .bot, .bot, .bot, .bot, .bot, .bot, .bot], []⟩) ?_ ?_
              · refine XL_cons rfl (X_of_Y0 rfl (E_move (I 4) rfl (by kernel_rfl))) ?_
                refine XL_cons rfl (X_of_Y0 rfl (Y0_quo64 (a := 4) (b := 2) rfl (by kernel_rfl) (by kernel_rfl) (by decide))) ?_
                refine XL_cons rfl (X_of_Y0 rfl (E_assign (I (w64 (Int.tdiv 4 2))) rfl (by kernel_rfl))) ?_
                refine XL_nil ?_
                subst htimes12
                kernel_rfl
              obtain rfl := some_inj h
              show St.keep _ _ _ = _
              rfl
            · have h := of_false h hc11
              refine V_skip ?_
              obtain rfl := some_inj h
              show St.keep _ _ _ = _
              rfl
          refine V_seq ?_
          refine V_sreg [true, false, false, true, true, true, false, false, false, false, false, false, false, false, false, false, false, false, false, false, false, false, false, false, false, false, false, false, true, false, false, false, false, false, false] [] (s1 := ⟨[I vn1, .bot, .bot, I count3, I x2, I j10, .bot, .bot, .bot, .bot, .bot, .bot, .bot, .bot, .bot, .bot, .bot, .bot, .bot, .bot, .bot, .bot, .bot, .bot, .bot, .bot, .bot, .bot, Bo (eqI (w64 (x2 * x2)) vn1), .bot, .bot, .bot, .bot, .bot, .bot], []⟩) ?_ ?_
          · refine XL_cons rfl (X_of_Y0 rfl (E_move (I x2) rfl (by kernel_rfl))) ?_
            refine XL_cons rfl (X_of_Y0 rfl (E_move (I x2) rfl (by kernel_rfl))) ?_
            refine XL_cons rfl (X_of_Y0 rfl (Y0_mul64 (a := x2) (b := x2) rfl (by kernel_rfl) (by kernel_rfl))) ?_
            refine XL_cons rfl (X_of_Y0 rfl (E_move (I vn1) rfl (by kernel_rfl))) ?_
            refine XL_cons rfl (X_of_Y0 rfl (Y0_eqw (k := .i64) (a := w64 (x2 * x2)) (b := vn1) rfl (by kernel_rfl) (by kernel_rfl))) ?_
            refine XL_nil ?_
            kernel_rfl
          refine V_cond rfl (fun hc13 => ?_) (fun hc13 => ?_)
          · have h := of_true h hc13
            obtain ⟨times14, htimes14, h⟩ := of_sI h
            refine V_reg [true, false, false, true, true, true, false, false, false, false, false, false, false, false, false, false, false, false, false, false, false, false, false, false, false, false, false, false, false, false, false, false, false, false, false] [] (s1 := ⟨[I vn1, .bot, .bot, I count3, I x2, I times14, .bot, .bot, .bot, .bot, .bot, .bot, .bot, .bot, .bot, .bot, .bot, .bot, .bot, .bot, .bot, .bot, .bot, .bot, .bot, .bot, .bot, .bot, .bot, .bot, .bot, .bot, .bot, .bot, .bot], []⟩) ?_ ?_
            · refine XL_cons rfl (X_of_Y0 rfl (E_move (I j10) rfl (by kernel_rfl))) ?_
              refine XL_cons rfl (X_of_Y0 rfl (Y0_quo64 (a := j10) (b := 2) rfl (by kernel_rfl) (by kernel_rfl) (by decide))) ?_
              refine XL_cons rfl (X_of_Y0 rfl (E_assign (I (w64 (Int.tdiv j10 2))) rfl (by kernel_rfl))) ?_
              refine XL_nil ?_
              subst htimes14
              kernel_rfl
            show V _ _ _ _
            obtain ⟨count15, hcount15, h⟩ := of_sI h
            refine V_reg [true, false, false, true, true, false, false, false, false, false, false, false, false, false, false, false, false, false, false, false, false, false, false, false, false, false, false, false, false, false, false, false, false, false, false] [] (s1 := ⟨[I vn1, .bot, .bot, I count15, I x2, .bot, .bot, .bot, .bot, .bot, .bot, .bot, .bot, .bot, .bot, .bot, .bot, .bot, .bot, .bot, .bot, .bot, .bot, .bot, .bot, .bot, .bot, .bot, .bot, .bot, .bot, .bot, .bot, .bot, .bot], []⟩) ?_ ?_
            · refine XL_cons rfl (X_of_Y0 rfl (E_move (I count3) rfl (by kernel_rfl))) ?_
              refine XL_cons rfl (X_of_Y0 rfl (E_move (I times14) rfl (by kernel_rfl))) ?_
              refine XL_cons rfl (X_of_Y0 rfl (Y0_add64 (a := count3) (b := times14) rfl (by kernel_rfl) (by kernel_rfl))) ?_
              refine XL_cons rfl (X_of_Y0 rfl (E_assign (I (w64 (count3 + times14))) rfl (by kernel_rfl))) ?_
              refine XL_nil ?_
              subst hcount15
              kernel_rfl
            show V _ _ _ _
            obtain ⟨x16, hx16, h⟩ := of_sI h
            refine V_reg [true, false, false, true, true, false, false, false, false, false, false, false, false, false, false, false, false, false, false, false, false, false, false, false, false, false, false, false, false, false, false, false, false, false, false] [] (s1 := ⟨[I vn1, .bot, .bot, I count15, I x16, .bot, .bot, .bot, .bot, .bot, .bot, .bot, .bot, .bot, .bot, .bot, .bot, .bot, .bot, .bot, .bot, .bot, .bot, .bot, .bot, .bot, .bot, .bot, .bot, .bot, .bot, .bot, .bot, .bot, .bot], []⟩) ?_ ?_
            · refine XL_cons rfl (X_of_Y0 rfl (E_move (I x2) rfl (by kernel_rfl))) ?_
              refine XL_cons rfl (X_of_Y0 rfl (Y0_add64 (a := x2) (b := 1) rfl (by kernel_rfl) (by kernel_rfl))) ?_
              refine XL_cons rfl (X_of_Y0 rfl (E_assign (I (w64 (x2 + 1))) rfl (by kernel_rfl))) ?_
              refine XL_nil ?_
              subst hx16
              kernel_rfl
            exact ⟨n, Nat.lt_succ_self n, _, _,  by rfl, h⟩
          · have h := of_false h hc13
            refine V_skip ?_
            show V _ _ _ _
            obtain ⟨count17, hcount17, h⟩ := of_sI h
            refine V_reg [true, false, false, true, true, false, false, false, false, false, false, false, false, false, false, false, false, false, false, false, false, false, false, false, false, false, false, false, false, false, false, false, false, false, false] [] (s1 := ⟨[I vn1, .bot, .bot, I count17, I x2, .bot, .bot, .bot, .bot, .bot, .bot, .bot, .bot, .bot, .bot, .bot, .bot, .bot, .bot, .bot, .bot, .bot, .bot, .bot, .bot, .bot, .bot, .bot, .bot, .bot, .bot, .bot, .bot, .bot, .bot], []⟩) ?_ ?_
            · refine XL_cons rfl (X_of_Y0 rfl (E_move (I count3) rfl (by kernel_rfl))) ?_
              refine XL_cons rfl (X_of_Y0 rfl (E_move (I j10) rfl (by kernel_rfl))) ?_
              refine XL_cons rfl (X_of_Y0 rfl (Y0_add64 (a := count3) (b := j10) rfl (by kernel_rfl) (by kernel_rfl))) ?_
              refine XL_cons rfl (X_of_Y0 rfl (E_assign (I (w64 (count3 + j10))) rfl (by kernel_rfl))) ?_
              refine XL_nil ?_
              subst hcount17
              kernel_rfl
            show V _ _ _ _
            obtain ⟨x18, hx18, h⟩ := of_sI h
            refine V_reg [true, false, false, true, true, false, false, false, false, false, false, false, false, false, false, false, false, false, false, false, false, false, false, false, false, false, false, false, false, false, false, false, false, false, false] [] (s1 := ⟨[I vn1, .bot, .bot, I count17, I x18, .bot, .bot, .bot, .bot, .bot, .bot, .bot, .bot, .bot, .bot, .bot, .bot, .bot, .bot, .bot, .bot, .bot, .bot, .bot, .bot, .bot, .bot, .bot, .bot, .bot, .bot, .bot, .bot, .bot, .bot], []⟩) ?_ ?_
            · refine XL_cons rfl (X_of_Y0 rfl (E_move (I x2) rfl (by kernel_rfl))) ?_
              refine XL_cons rfl (X_of_Y0 rfl (Y0_add64 (a := x2) (b := 1) rfl (by kernel_rfl) (by kernel_rfl))) ?_
              refine XL_cons rfl (X_of_Y0 rfl (E_assign (I (w64 (x2 + 1))) rfl (by kernel_rfl))) ?_
              refine XL_nil ?_
              subst hx18
              kernel_rfl
            exact ⟨n, Nat.lt_succ_self n, _, _,  by rfl, h⟩
      · have h := of_false h hc6
        refine V_exit ?_
        obtain rfl := some_inj h
        show St.keep _ _ _ = _
        rfl
  show V _ _ _ _
  refine V_sreg [false, false, true, false, false, false, false, false, false, false, false, false, false, false, false, false, false, false, false, false, false, false, false, false, false, false, false, false, false, false, false, false, false, false, false] [] (s1 := ⟨[.bot, .bot, I o5, .bot, .bot, .bot, .bot, .bot, .bot, .bot, .bot, .bot, .bot, .bot, .bot, .bot, .bot, .bot, .bot, .bot, .bot, .bot, .bot, .bot, .bot, .bot, .bot, .bot, .bot, .bot, .bot, .bot, .bot, .bot, .bot], []⟩) ?_ ?_
  · refine XL_cons rfl (X_of_Y0 rfl (E_move (I o5) rfl (by kernel_rfl))) ?_
    refine XL_cons rfl (X_of_Y0 rfl (E_assign (I o5) rfl (by kernel_rfl))) ?_
    refine XL_nil ?_
    kernel_rfl
  refine V_ret ?_
  obtain rfl := some_inj h
  show Post _ _ _ _ _
  exact ⟨.inr rfl, rfl, rfl, rfl⟩
theorem cf_spec_sqThree : ∀ args w, (callFunc 68 args).run Try.prog w = .ok (.enter 68 args) w := run_callFunc Try.func68 (by kernel_rfl) (by kernel_rfl)
set_option maxRecDepth 100000 in
set_option maxHeartbeats 400000 in
theorem s_spec_sqThree {vn1 : Int} {r : Int} (h : r_spec_sqThree vn1 = some r) : CallS Try.prog 68 [I vn1] (I r) [] := by
  refine CallS_of_text (rs := [.t 2]) (vs := [.tmp 2]) Try.func68 rfl rfl (.cons rfl FitsL.nil) (by decide) 24 rfl ?_
  unfold r_spec_sqThree at h
  show V _ _ ⟨[I vn1, .bot, .bot, .bot, .bot, .bot, .bot, .bot, .bot, .bot, .bot, .bot, .bot, .bot, .bot, .bot, .bot, .bot, .bot, .bot, .bot, .bot, .bot, .bot], []⟩ _
  refine V_sreg [true, false, false, false, false, false, false, false, false, false, false, false, false, false, false, false, false, false, false, false, false, false, false, false] [] (s1 := ⟨[I vn1, .bot, .bot, .bot, .bot, .bot, .bot, .bot, .bot, .bot, .bot, .bot, .bot, .bot, .bot, .bot, .bot, .bot, .bot, .bot, .bot, .bot, .bot, .bot], []⟩) ?_ ?_
  · refine XL_cons rfl (X_of_Y0 rfl (E_assign (I 0) rfl (by kernel_rfl))) ?_
    refine XL_nil ?_
    kernel_rfl
  obtain ⟨y2, hy2, h⟩ := of_bind h
  refine V_sreg [true, false, false, true, false, false, false, false, false, false, false, false, false, false, false, false, false, false, false, false, false, false, false, false] [] (s1 := ⟨[I vn1, .bot, .bot, I y2, .bot, .bot, .bot, .bot, .bot, .bot, .bot, .bot, .bot, .bot, .bot, .bot, .bot, .bot, .bot, .bot, .bot, .bot, .bot, .bot], []⟩) ?_ ?_
  · refine XL_cons rfl (X_of_Y0 rfl (E_move (I vn1) rfl (by kernel_rfl))) ?_
    refine XL_cons rfl (X_of_Y1 rfl (Y1_call (s_spec_sqTwo hy2) cf_spec_sqTwo rfl (by kernel_rfl))) ?_
    refine XL_cons rfl (X_of_Y0 rfl (E_assign (I y2) rfl (by kernel_rfl))) ?_
    refine XL_nil ?_
    kernel_rfl
  refine V_seq ?_
  refine V_sreg [true, false, false, true, true, false, false, false, false, false, false, false, false, false, false, false, false, false, false, false, false, false, false, false] [] (s1 := ⟨[I vn1, .bot, .bot, I y2, I 1, .bot, .bot, .bot, .bot, .bot, .bot, .bot, .bot, .bot, .bot, .bot, .bot, .bot, .bot, .bot, .bot, .bot, .bot, .bot], []⟩) ?_ ?_
  · refine XL_cons rfl (X_of_Y0 rfl (E_assign (I 1) rfl (by kernel_rfl))) ?_
    refine XL_nil ?_
    kernel_rfl
  obtain ⟨o6, hLo6, h⟩ := of_bind h
  refine V_toK [false, false, false, true, false, false, false, false, false, false, false, false, false, false, false, false, false, false, false, false, false, false, false, false] [] (s1 := ⟨[.bot, .bot, .bot, I o6, .bot, .bot, .bot, .bot, .bot, .bot, .bot, .bot, .bot, .bot, .bot, .bot, .bot, .bot, .bot, .bot, .bot, .bot, .bot, .bot], []⟩) ?_ ?_
  · clear h
    refine V_block (V_loop (fun n s => ∃ (count3 : Int) (x4 : Int), s.keep [true, false, false, true, true, false, false, false, false, false, false, false, false, false, false, false, false, false, false, false, false, false, false, false] [] = (⟨[I vn1, .bot, .bot, I count3, I x4, .bot, .bot, .bot, .bot, .bot, .bot, .bot, .bot, .bot, .bot, .bot, .bot, .bot, .bot, .bot, .bot, .bot, .bot, .bot], []⟩ : St) ∧ r_spec_sqThree_L5 vn1 n count3 x4 = some o6) FU ⟨_, _,  by rfl, hLo6⟩ ?_)
    clear hLo6
    rintro n s ⟨count3, x4, hs, h⟩
    refine V_keep _ _ hs ?_
    clear hs
    cases n with
    | zero => cases h
    | succ n =>
      rw [r_spec_sqThree_L5] at h
      refine V_seq ?_
      refine V_sreg [true, false, false, true, true, false, false, false, false, false, false, true, false, false, false, false, false, false, false, false, false, false, false, false] [] (s1 := ⟨[I vn1, .bot, .bot, I count3, I x4, .bot, .bot, .bot, .bot, .bot, .bot, Bo (leI (w64 (x4 * x4)) vn1), .bot, .bot, .bot, .bot, .bot, .bot, .bot, .bot, .bot, .bot, .bot, .bot], []⟩) ?_ ?_
      · refine XL_cons rfl (X_of_Y0 rfl (E_move (I x4) rfl (by kernel_rfl))) ?_
        refine XL_cons rfl (X_of_Y0 rfl (E_move (I x4) rfl (by kernel_rfl))) ?_
        refine XL_cons rfl (X_of_Y0 rfl (Y0_mul64 (a := x4) (b := x4) rfl (by kernel_rfl) (by kernel_rfl))) ?_
        refine XL_cons rfl (X_of_Y0 rfl (E_move (I vn1) rfl (by kernel_rfl))) ?_
        refine XL_cons rfl (X_of_Y0 rfl (Y0_lew (k := .i64) (a := w64 (x4 * x4)) (b := vn1) rfl (by kernel_rfl) (by kernel_rfl))) ?_
        refine XL_nil ?_
        kernel_rfl
      refine V_cond rfl (fun hc7 => ?_) (fun hc7 => ?_)
      · have h := of_true h hc7
        refine V_skip ?_
        show V _ _ _ _
        refine V_seq ?_
        refine V_block ?_
        obtain ⟨y8, hy8, h⟩ := of_bind h
        obtain ⟨count9, hcount9, h⟩ := of_sI h
        refine V_reg [true, false, false, true, true, false, false, false, false, false, false, false, false, false, false, false, false, false, false, false, false, false, false, false] [] (s1 := ⟨[I vn1, .bot, .bot, I count9, I x4, .bot, .bot, .bot, .bot, .bot, .bot, .bot, .bot, .bot, .bot, .bot, .bot, .bot, .bot, .bot, .bot, .bot, .bot, .bot], []⟩) ?_ ?_
        · refine XL_cons rfl (X_of_Y0 rfl (E_move (I count3) rfl (by kernel_rfl))) ?_
          refine XL_cons rfl (X_of_Y0 rfl (E_move (I vn1) rfl (by kernel_rfl))) ?_
          refine XL_cons rfl (X_of_Y0 rfl (E_move (I x4) rfl (by kernel_rfl))) ?_
          refine XL_cons rfl (X_of_Y0 rfl (E_move (I x4) rfl (by kernel_rfl))) ?_
          refine XL_cons rfl (X_of_Y0 rfl (Y0_mul64 (a := x4) (b := x4) rfl (by kernel_rfl) (by kernel_rfl))) ?_
          refine XL_cons rfl (X_of_Y0 rfl (Y0_sub64 (a := vn1) (b := w64 (x4 * x4)) rfl (by kernel_rfl) (by kernel_rfl))) ?_
          refine XL_cons rfl (X_of_Y1 rfl (Y1_call (s_spec_sqTwo hy8) cf_spec_sqTwo rfl (by kernel_rfl))) ?_
          refine XL_cons rfl (X_of_Y0 rfl (Y0_mul64 (a := 2) (b := y8) rfl (by kernel_rfl) (by kernel_rfl))) ?_
          refine XL_cons rfl (X_of_Y0 rfl (Y0_add64 (a := count3) (b := w64 (2 * y8)) rfl (by kernel_rfl) (by kernel_rfl))) ?_
          refine XL_cons rfl (X_of_Y0 rfl (E_assign (I (w64 (count3 + (w64 (2 * y8))))) rfl (by kernel_rfl))) ?_
          refine XL_nil ?_
          subst hcount9
          kernel_rfl
        show V _ _ _ _
        obtain ⟨x10, hx10, h⟩ := of_sI h
        refine V_reg [true, false, false, true, true, false, false, false, false, false, false, false, false, false, false, false, false, false, false, false, false, false, false, false] [] (s1 := ⟨[I vn1, .bot, .bot, I count9, I x10, .bot, .bot, .bot, .bot, .bot, .bot, .bot, .bot, .bot, .bot, .bot, .bot, .bot, .bot, .bot, .bot, .bot, .bot, .bot], []⟩) ?_ ?_
        · refine XL_cons rfl (X_of_Y0 rfl (E_move (I x4) rfl (by kernel_rfl))) ?_
          refine XL_cons rfl (X_of_Y0 rfl (Y0_add64 (a := x4) (b := 1) rfl (by kernel_rfl) (by kernel_rfl))) ?_
          refine XL_cons rfl (X_of_Y0 rfl (E_assign (I (w64 (x4 + 1))) rfl (by kernel_rfl))) ?_
          refine XL_nil ?_
          subst hx10
          kernel_rfl
        exact ⟨n, Nat.lt_succ_self n, _, _,  by rfl, h⟩
      · have h := of_false h hc7
        refine V_exit ?_
        obtain rfl := some_inj h
        show St.keep _ _ _ = _
        rfl
  show V _ _ _ _
  refine V_sreg [false, false, true, false, false, false, false, false, false, false, false, false, false, false, false, false, false, false, false, false, false, false, false, false] [] (s1 := ⟨[.bot, .bot, I o6, .bot, .bot, .bot, .bot, .bot, .bot, .bot, .bot, .bot, .bot, .bot, .bot, .bot, .bot, .bot, .bot, .bot, .bot, .bot, .bot, .bot], []⟩) ?_ ?_
  · refine XL_cons rfl (X_of_Y0 rfl (E_move (I o6) rfl (by kernel_rfl))) ?_
    refine XL_cons rfl (X_of_Y0 rfl (E_assign (I o6) rfl (by kernel_rfl))) ?_
    refine XL_nil ?_
    kernel_rfl
  refine V_ret ?_
  obtain rfl := some_inj h
  show Post _ _ _ _ _
  exact ⟨.inr rfl, rfl, rfl, rfl⟩
theorem cf_spec_CountThree : ∀ args w, (callFunc 28 args).run Try.prog w = .ok (.enter 28 args) w := run_callFunc Try.func28 (by kernel_rfl) (by kernel_rfl)
set_option maxRecDepth 100000 in
set_option maxHeartbeats 400000 in
theorem s_spec_CountThree {vn1 : Int} {r : (Int × Bool)} (h : r_spec_CountThree vn1 = some r) : CallS Try.prog 28 [I vn1] (.tc (I r.1) (.tc (Bo r.2) .tn)) [] := by
  refine CallS_of_text (rs := [.t 2, .t 3]) (vs := [.tmp 2, .tmp 3]) Try.func28 rfl rfl (.cons rfl (.cons rfl FitsL.nil)) (by decide) 9 rfl ?_
  unfold r_spec_CountThree at h
  show V _ _ ⟨[I vn1, .bot, .bot, .bot, .bot, .bot, .bot, .bot, .bot], []⟩ _
  refine V_sreg [true, false, false, false, false, false, false, false, false] [] (s1 := ⟨[I vn1, .bot, .bot, .bot, .bot, .bot, .bot, .bot, .bot], []⟩) ?_ ?_
  · refine XL_cons rfl (X_of_Y0 rfl (E_assign (I 0) rfl (by kernel_rfl))) ?_
    refine XL_cons rfl (X_of_Y0 rfl (E_assign (Bo false) rfl (by kernel_rfl))) ?_
    refine XL_nil ?_
    kernel_rfl
  refine V_seq ?_
  obtain ⟨y2, hy2, h⟩ := of_bind h
  refine V_sreg [true, false, false, false, false, false, true, false, false] [] (s1 := ⟨[I vn1, .bot, .bot, .bot, .bot, .bot, Bo (!y2), .bot, .bot], []⟩) ?_ ?_
  · refine XL_cons rfl (X_of_Y0 rfl (E_move (I vn1) rfl (by kernel_rfl))) ?_
    refine XL_cons rfl (X_of_Y1 rfl (Y1_call (s_spec_sqGood hy2) cf_spec_sqGood rfl (by kernel_rfl))) ?_
    refine XL_cons rfl (X_of_Y0 rfl (Y0_not (b := y2) rfl (by kernel_rfl))) ?_
    refine XL_nil ?_
    kernel_rfl
  refine V_cond rfl (fun hc3 => ?_) (fun hc3 => ?_)
  · have h := of_true h hc3
    refine V_sreg [false, false, true, true, false, false, false, false, false] [] (s1 := ⟨[.bot, .bot, I 0, Bo false, .bot, .bot, .bot, .bot, .bot], []⟩) ?_ ?_
    · refine XL_cons rfl (X_of_Y0 rfl (E_assign (I 0) rfl (by kernel_rfl))) ?_
      refine XL_cons rfl (X_of_Y0 rfl (E_assign (Bo false) rfl (by kernel_rfl))) ?_
      refine XL_nil ?_
      kernel_rfl
    refine V_ret ?_
    obtain rfl := some_inj h
    show Post _ _ _ _ _
    exact ⟨.inr rfl, rfl, rfl, rfl⟩
  · have h := of_false h hc3
    refine V_skip ?_
    show V _ _ _ _
    obtain ⟨y4, hy4, h⟩ := of_bind h
    refine V_sreg [false, false, true, true, false, false, false, false, false] [] (s1 := ⟨[.bot, .bot, I y4, Bo true, .bot, .bot, .bot, .bot, .bot], []⟩) ?_ ?_
    · refine XL_cons rfl (X_of_Y0 rfl (E_move (I vn1) rfl (by kernel_rfl))) ?_
      refine XL_cons rfl (X_of_Y1 rfl (Y1_call (s_spec_sqThree hy4) cf_spec_sqThree rfl (by kernel_rfl))) ?_
      refine XL_cons rfl (X_of_Y0 rfl (E_assign (I y4) rfl (by kernel_rfl))) ?_
      refine XL_cons rfl (X_of_Y0 rfl (E_assign (Bo true) rfl (by kernel_rfl))) ?_
      refine XL_nil ?_
      kernel_rfl
    refine V_ret ?_
    obtain rfl := some_inj h
    show Post _ _ _ _ _
    exact ⟨.inr rfl, rfl, rfl, rfl⟩
theorem cf_impl_mod : ∀ args w, (callFunc 113 args).run Try.prog w = .ok (.enter 113 args) w := run_callFunc Try.func113 (by kernel_rfl) (by kernel_rfl)
set_option maxRecDepth 100000 in
set_option maxHeartbeats 400000 in
theorem s_impl_mod {a1 : Int} {vm2 : Int} {r : Int} (h : r_impl_mod a1 vm2 = some r) : CallS Try.prog 113 [I a1, I vm2] (I r) [] := by
  refine CallS_of_text (rs := [.t 4]) (vs := [.tmp 4]) Try.func113 rfl rfl (.cons rfl FitsL.nil) (by decide) 15 rfl ?_
  unfold r_impl_mod at h
  show V _ _ ⟨[I a1, I vm2, .bot, .bot, .bot, .bot, .bot, .bot, .bot, .bot, .bot, .bot, .bot, .bot, .bot], []⟩ _
  refine V_sreg [true, true, false, false, false, false, false, false, false, false, false, false, false, false, false] [] (s1 := ⟨[I a1, I vm2, .bot, .bot, .bot, .bot, .bot, .bot, .bot, .bot, .bot, .bot, .bot, .bot, .bot], []⟩) ?_ ?_
  · refine XL_cons rfl (X_of_Y0 rfl (E_assign (I 0) rfl (by kernel_rfl))) ?_
    refine XL_nil ?_
    kernel_rfl
  obtain ⟨z3, hz3, h⟩ := of_bind h
  obtain ⟨vr4, hvr4, h⟩ := of_sI h
  refine V_sreg [false, true, false, false, false, true, false, false, false, false, false, false, false, false, false] [] (s1 := ⟨[.bot, I vm2, .bot, .bot, .bot, I vr4, .bot, .bot, .bot, .bot, .bot, .bot, .bot, .bot, .bot], []⟩) ?_ ?_
  · refine XL_cons rfl (X_of_Y0 rfl (E_move (I a1) rfl (by kernel_rfl))) ?_
    refine XL_cons rfl (X_of_Y0 rfl (E_move (I vm2) rfl (by kernel_rfl))) ?_
    refine XL_cons rfl (X_of_Y0 rfl (Y0_rem (k := .i64) (a := a1) (b := vm2) rfl (by kernel_rfl) (by kernel_rfl) (nz_some hz3))) ?_
    refine XL_cons rfl (X_of_Y0 rfl (E_assign (I (Int.tmod a1 vm2)) rfl (by kernel_rfl))) ?_
    refine XL_nil ?_
    subst hvr4
    kernel_rfl
  refine V_seq ?_
  refine V_sreg [false, true, false, false, false, true, false, false, false, false, true, false, false, false, false] [] (s1 := ⟨[.bot, I vm2, .bot, .bot, .bot, I vr4, .bot, .bot, .bot, .bot, Bo (ltI vr4 0), .bot, .bot, .bot, .bot], []⟩) ?_ ?_
  · refine XL_cons rfl (X_of_Y0 rfl (E_move (I vr4) rfl (by kernel_rfl))) ?_
    refine XL_cons rfl (X_of_Y0 rfl (Y0_ltw (k := .i64) (a := vr4) (b := 0) rfl (by kernel_rfl) (by kernel_rfl))) ?_
    refine XL_nil ?_
    kernel_rfl
  refine V_cond rfl (fun hc5 => ?_) (fun hc5 => ?_)
  · have h := of_true h hc5
    obtain ⟨vr6, hvr6, h⟩ := of_sI h
    refine V_reg [false, false, false, false, false, true, false, false, false, false, false, false, false, false, false] [] (s1 := ⟨[.bot, .bot, .bot, .bot, .bot, I vr6, .bot, .bot, .bot, .bot, .bot, .bot, .bot, .bot, .bot], []⟩) ?_ ?_
    · refine XL_cons rfl (X_of_Y0 rfl (E_move (I vr4) rfl (by kernel_rfl))) ?_
      refine XL_cons rfl (X_of_Y0 rfl (E_move (I vm2) rfl (by kernel_rfl))) ?_
      refine XL_cons rfl (X_of_Y0 rfl (Y0_add64 (a := vr4) (b := vm2) rfl (by kernel_rfl) (by kernel_rfl))) ?_
      refine XL_cons rfl (X_of_Y0 rfl (E_assign (I (w64 (vr4 + vm2))) rfl (by kernel_rfl))) ?_
      refine XL_nil ?_
      subst hvr6
      kernel_rfl
    show V _ _ _ _
    refine V_sreg [false, false, false, false, true, false, false, false, false, false, false, false, false, false, false] [] (s1 := ⟨[.bot, .bot, .bot, .bot, I vr6, .bot, .bot, .bot, .bot, .bot, .bot, .bot, .bot, .bot, .bot], []⟩) ?_ ?_
    · refine XL_cons rfl (X_of_Y0 rfl (E_move (I vr6) rfl (by kernel_rfl))) ?_
      refine XL_cons rfl (X_of_Y0 rfl (E_assign (I vr6) rfl (by kernel_rfl))) ?_
      refine XL_nil ?_
      kernel_rfl
    refine V_ret ?_
    obtain rfl := some_inj h
    show Post _ _ _ _ _
    exact ⟨.inr rfl, rfl, rfl, rfl⟩
  · have h := of_false h hc5
    refine V_skip ?_
    show V _ _ _ _
    refine V_sreg [false, false, false, false, true, false, false, false, false, false, false, false, false, false, false] [] (s1 := ⟨[.bot, .bot, .bot, .bot, I vr4, .bot, .bot, .bot, .bot, .bot, .bot, .bot, .bot, .bot, .bot], []⟩) ?_ ?_
    · refine XL_cons rfl (X_of_Y0 rfl (E_move (I vr4) rfl (by kernel_rfl))) ?_
      refine XL_cons rfl (X_of_Y0 rfl (E_assign (I vr4) rfl (by kernel_rfl))) ?_
      refine XL_nil ?_
      kernel_rfl
    refine V_ret ?_
    obtain rfl := some_inj h
    show Post _ _ _ _ _
    exact ⟨.inr rfl, rfl, rfl, rfl⟩
theorem cf_impl_isNegativeDisc : ∀ args w, (callFunc 71 args).run Try.prog w = .ok (.enter 71 args) w := run_callFunc Try.func71 (by kernel_rfl) (by kernel_rfl)
set_option maxRecDepth 100000 in
set_option maxHeartbeats 400000 in
theorem s_impl_isNegativeDisc {d1 : Int} {r : Bool} (h : r_impl_isNegativeDisc d1 = some r) : CallS Try.prog 71 [I d1] (Bo r) [] := by
  refine CallS_of_text (rs := [.t 2]) (vs := [.tmp 2]) Try.func71 rfl rfl (.cons rfl FitsL.nil) (by decide) 14 rfl ?_
  unfold r_impl_isNegativeDisc at h
  show V _ _ ⟨[I d1, .bot, .bot, .bot, .bot, .bot, .bot, .bot, .bot, .bot, .bot, .bot, .bot, .bot], []⟩ _
  refine V_sreg [true, false, false, false, false, false, false, false, false, false, false, false, false, false] [] (s1 := ⟨[I d1, .bot, .bot, .bot, .bot, .bot, .bot, .bot, .bot, .bot, .bot, .bot, .bot, .bot], []⟩) ?_ ?_
  · refine XL_cons rfl (X_of_Y0 rfl (E_assign (Bo false) rfl (by kernel_rfl))) ?_
    refine XL_nil ?_
    kernel_rfl
  obtain ⟨b5, hb5, h⟩ := of_bind h
  refine V_sreg [false, false, true, false, false, false, false, false, false, false, false, false, false, false] [] (s1 := ⟨[.bot, .bot, Bo b5, .bot, .bot, .bot, .bot, .bot, .bot, .bot, .bot, .bot, .bot, .bot], []⟩) ?_ ?_
  · refine XL_cons rfl (X_of_Y0 rfl (E_move (I d1) rfl (by kernel_rfl))) ?_
    refine XL_cons rfl (X_of_Y0 rfl (Y0_gew (k := .i64) (a := d1) (b := -2000) rfl (by kernel_rfl) (by kernel_rfl))) ?_
    refine XL_cons rfl (X_of_Y0 rfl (E_move (Bo (leI (-2000) d1)) rfl (by kernel_rfl))) ?_
    refine XL_split (leI (-2000) d1) (fun hc2 => ?_) (fun hc2 => ?_)
    · refine XL_takeC (leI (-2000) d1) rfl rfl (by kernel_rfl) hc2 (X_of_Y0 rfl (E_move (I d1) rfl (by kernel_rfl))) ?_
      refine XL_takeC (leI (-2000) d1) rfl rfl (by kernel_rfl) hc2 (X_of_Y0 rfl (Y0_lew (k := .i64) (a := d1) (b := -3) rfl (by kernel_rfl) (by kernel_rfl))) ?_
      refine XL_cons rfl (X_of_Y0 rfl (Y0_pick1 (b := leI (-2000) d1) (p := leI d1 (-3)) (q := false) rfl (by kernel_rfl) hc2 (by kernel_rfl))) ?_
      refine XL_cons rfl (X_of_Y0 rfl (E_move (Bo (bif (leI (-2000) d1) then (leI d1 (-3)) else false)) rfl (by kernel_rfl))) ?_
      refine XL_split (bif (leI (-2000) d1) then (leI d1 (-3)) else false) (fun hc3 => ?_) (fun hc3 => ?_)
      · have hb5 := of_true hb5 hc3
        obtain ⟨y4, hy4, hb5⟩ := of_bind hb5
        have hb5 := some_inj hb5
        refine XL_takeC (bif (leI (-2000) d1) then (leI d1 (-3)) else false) rfl rfl (by kernel_rfl) hc3 (X_of_Y0 rfl (E_move (I d1) rfl (by kernel_rfl))) ?_
        refine XL_takeC (bif (leI (-2000) d1) then (leI d1 (-3)) else false) rfl rfl (by kernel_rfl) hc3 (X_of_Y1 rfl (Y1_call (s_impl_mod hy4) cf_impl_mod rfl (by kernel_rfl))) ?_
        refine XL_takeC (bif (leI (-2000) d1) then (leI d1 (-3)) else false) rfl rfl (by kernel_rfl) hc3 (X_of_Y0 rfl (Y0_lew (k := .i64) (a := y4) (b := 1) rfl (by kernel_rfl) (by kernel_rfl))) ?_
        refine XL_cons rfl (X_of_Y0 rfl (Y0_pickTe (b := bif (leI (-2000) d1) then (leI d1 (-3)) else false) (p := leI y4 1) rfl (by kernel_rfl) hc3 (by kernel_rfl) hb5)) ?_
        refine XL_cons rfl (X_of_Y0 rfl (E_assign (Bo b5) rfl (by kernel_rfl))) ?_
        refine XL_nil ?_
        kernel_rfl
      · have hb5 := some_inj (of_false hb5 hc3)
        refine XL_skipT (bif (leI (-2000) d1) then (leI d1 (-3)) else false) rfl rfl (by kernel_rfl) hc3 rfl ?_
        refine XL_skipT (bif (leI (-2000) d1) then (leI d1 (-3)) else false) rfl rfl (by kernel_rfl) hc3 rfl ?_
        refine XL_skipT (bif (leI (-2000) d1) then (leI d1 (-3)) else false) rfl rfl (by kernel_rfl) hc3 rfl ?_
        refine XL_cons rfl (X_of_Y0 rfl (Y0_pickFe (b := bif (leI (-2000) d1) then (leI d1 (-3)) else false) (p := false) rfl (by kernel_rfl) hc3 (by kernel_rfl) hb5)) ?_
        refine XL_cons rfl (X_of_Y0 rfl (E_assign (Bo b5) rfl (by kernel_rfl))) ?_
        refine XL_nil ?_
        kernel_rfl
    · refine XL_skipT (leI (-2000) d1) rfl rfl (by kernel_rfl) hc2 rfl ?_
      refine XL_skipT (leI (-2000) d1) rfl rfl (by kernel_rfl) hc2 rfl ?_
      refine XL_cons rfl (X_of_Y0 rfl (Y0_pick0 (b := leI (-2000) d1) (p := leI d1 (-3)) (q := false) rfl (by kernel_rfl) hc2 (by kernel_rfl))) ?_
      refine XL_cons rfl (X_of_Y0 rfl (E_move (Bo (bif (leI (-2000) d1) then (leI d1 (-3)) else false)) rfl (by kernel_rfl))) ?_
      refine XL_split (bif (leI (-2000) d1) then (leI d1 (-3)) else false) (fun hc3 => ?_) (fun hc3 => ?_)
      · have hb5 := of_true hb5 hc3
        obtain ⟨y4, hy4, hb5⟩ := of_bind hb5
        have hb5 := some_inj hb5
        refine XL_takeC (bif (leI (-2000) d1) then (leI d1 (-3)) else false) rfl rfl (by kernel_rfl) hc3 (X_of_Y0 rfl (E_move (I d1) rfl (by kernel_rfl))) ?_
        refine XL_takeC (bif (leI (-2000) d1) then (leI d1 (-3)) else false) rfl rfl (by kernel_rfl) hc3 (X_of_Y1 rfl (Y1_call (s_impl_mod hy4) cf_impl_mod rfl (by kernel_rfl))) ?_
        refine XL_takeC (bif (leI (-2000) d1) then (leI d1 (-3)) else false) rfl rfl (by kernel_rfl) hc3 (X_of_Y0 rfl (Y0_lew (k := .i64) (a := y4) (b := 1) rfl (by kernel_rfl) (by kernel_rfl))) ?_
        refine XL_cons rfl (X_of_Y0 rfl (Y0_pickTe (b := bif (leI (-2000) d1) then (leI d1 (-3)) else false) (p := leI y4 1) rfl (by kernel_rfl) hc3 (by kernel_rfl) hb5)) ?_
        refine XL_cons rfl (X_of_Y0 rfl (E_assign (Bo b5) rfl (by kernel_rfl))) ?_
        refine XL_nil ?_
        kernel_rfl
      · have hb5 := some_inj (of_false hb5 hc3)
        refine XL_skipT (bif (leI (-2000) d1) then (leI d1 (-3)) else false) rfl rfl (by kernel_rfl) hc3 rfl ?_
        refine XL_skipT (bif (leI (-2000) d1) then (leI d1 (-3)) else false) rfl rfl (by kernel_rfl) hc3 rfl ?_
        refine XL_skipT (bif (leI (-2000) d1) then (leI d1 (-3)) else false) rfl rfl (by kernel_rfl) hc3 rfl ?_
        refine XL_cons rfl (X_of_Y0 rfl (Y0_pickFe (b := bif (leI (-2000) d1) then (leI d1 (-3)) else false) (p := false) rfl (by kernel_rfl) hc3 (by kernel_rfl) hb5)) ?_
        refine XL_cons rfl (X_of_Y0 rfl (E_assign (Bo b5) rfl (by kernel_rfl))) ?_
        refine XL_nil ?_
        kernel_rfl
  refine V_ret ?_
  obtain rfl := some_inj h
  show Post _ _ _ _ _
  exact ⟨.inr rfl, rfl, rfl, rfl⟩
theorem cf_impl_Form_isNormal : ∀ args w, (callFunc 151 args).run Try.prog w = .ok (.enter 151 args) w := run_callFunc Try.func151 (by kernel_rfl) (by kernel_rfl)
set_option maxRecDepth 100000 in
set_option maxHeartbeats 400000 in
theorem s_impl_Form_isNormal {f1 : (Int × Int × Int)} {r : Bool} (h : r_impl_Form_isNormal f1 = some r) : CallS Try.prog 151 [.ag [Ti f1.1, Ti f1.2.1, Ti f1.2.2]] (Bo r) [] := by
  refine CallS_of_text (rs := [.t 2]) (vs := [.tmp 2]) Try.func151 rfl rfl (.cons rfl FitsL.nil) (by decide) 16 rfl ?_
  unfold r_impl_Form_isNormal at h
  show V _ _ ⟨[.ag [Ti f1.1, Ti f1.2.1, Ti f1.2.2], .bot, .bot, .bot, .bot, .bot, .bot, .bot, .bot, .bot, .bot, .bot, .bot, .bot, .bot, .bot], []⟩ _
  refine V_sreg [false, true, false, false, false, false, false, false, false, false, false, false, false, false, false, false] [8] (s1 := ⟨[.bot, .pt 8 0, .bot, .bot, .bot, .bot, .bot, .bot, .bot, .bot, .bot, .bot, .bot, .bot, .bot, .bot], [(8, .box [Ti f1.1, Ti f1.2.1, Ti f1.2.2])]⟩) ?_ ?_
  · refine XL_cons rfl (X_of_Y1 rfl (Y1_box (cs := [Ti f1.1, Ti f1.2.1, Ti f1.2.2]) rfl (by kernel_rfl))) ?_
    refine XL_cons rfl (X_of_Y0 rfl (E_assign (Bo false) rfl (by kernel_rfl))) ?_
    refine XL_nil ?_
    kernel_rfl
  obtain ⟨t3, ht3, h⟩ := of_bind h
  have ht3 := some_inj ht3
  refine V_sreg [false, false, true, false, false, false, false, false, false, false, false, false, false, false, false, false] [] (s1 := ⟨[.bot, .bot, Bo t3, .bot, .bot, .bot, .bot, .bot, .bot, .bot, .bot, .bot, .bot, .bot, .bot, .bot], []⟩) ?_ ?_
  · refine XL_cons rfl (X_of_Y0 rfl (E_field (.pt 8 0) Try.underlying36 rfl sz3 rfl (by kernel_rfl) (by intro hh; cases hh))) ?_
    refine XL_cons rfl (X_of_Y0 rfl (Y0_load1 (c := Ti f1.1) (cs := [Ti f1.2.1, Ti f1.2.2]) sc3 rfl (by kernel_rfl))) ?_
    refine XL_cons rfl (X_of_Y0 rfl (Y0_neg64 (a := f1.1) rfl (by kernel_rfl))) ?_
    refine XL_cons rfl (X_of_Y0 rfl (E_field (.pt 8 1) Try.underlying36 rfl sz3 rfl (by kernel_rfl) (by intro hh; cases hh))) ?_
    refine XL_cons rfl (X_of_Y0 rfl (Y0_load1 (c := Ti f1.2.1) (cs := [Ti f1.2.2]) sc3 rfl (by kernel_rfl))) ?_
    refine XL_cons rfl (X_of_Y0 rfl (Y0_ltw (k := .i64) (a := w64 (0 - f1.1)) (b := f1.2.1) rfl (by kernel_rfl) (by kernel_rfl))) ?_
    refine XL_cons rfl (X_of_Y0 rfl (E_move (Bo (ltI (w64 (0 - f1.1)) f1.2.1)) rfl (by kernel_rfl))) ?_
    refine XL_split (ltI (w64 (0 - f1.1)) f1.2.1) (fun hc2 => ?_) (fun hc2 => ?_)
    · refine XL_takeC (ltI (w64 (0 - f1.1)) f1.2.1) rfl rfl (by kernel_rfl) hc2 (X_of_Y0 rfl (E_field (.pt 8 1) Try.underlying36 rfl sz3 rfl (by kernel_rfl) (by intro hh; cases hh))) ?_
      refine XL_takeC (ltI (w64 (0 - f1.1)) f1.2.1) rfl rfl (by kernel_rfl) hc2 (X_of_Y0 rfl (Y0_load1 (c := Ti f1.2.1) (cs := [Ti f1.2.2]) sc3 rfl (by kernel_rfl))) ?_
      refine XL_takeC (ltI (w64 (0 - f1.1)) f1.2.1) rfl rfl (by kernel_rfl) hc2 (X_of_Y0 rfl (E_field (.pt 8 0) Try.underlying36 rfl sz3 rfl (by kernel_rfl) (by intro hh; cases hh))) ?_
      refine XL_takeC (ltI (w64 (0 - f1.1)) f1.2.1) rfl rfl (by kernel_rfl) hc2 (X_of_Y0 rfl (Y0_load1 (c := Ti f1.1) (cs := [Ti f1.2.1, Ti f1.2.2]) sc3 rfl (by kernel_rfl))) ?_
      refine XL_takeC (ltI (w64 (0 - f1.1)) f1.2.1) rfl rfl (by kernel_rfl) hc2 (X_of_Y0 rfl (Y0_lew (k := .i64) (a := f1.2.1) (b := f1.1) rfl (by kernel_rfl) (by kernel_rfl))) ?_
      refine XL_cons rfl (X_of_Y0 rfl (Y0_pick1 (b := ltI (w64 (0 - f1.1)) f1.2.1) (p := leI f1.2.1 f1.1) (q := false) rfl (by kernel_rfl) hc2 (by kernel_rfl))) ?_
      refine XL_cons rfl (X_of_Y0 rfl (E_assign (Bo (bif (ltI (w64 (0 - f1.1)) f1.2.1) then (leI f1.2.1 f1.1) else false)) rfl (by kernel_rfl))) ?_
      refine XL_nil ?_
      subst ht3
      kernel_rfl
    · refine XL_skipT (ltI (w64 (0 - f1.1)) f1.2.1) rfl rfl (by kernel_rfl) hc2 rfl ?_
      refine XL_skipT (ltI (w64 (0 - f1.1)) f1.2.1) rfl rfl (by kernel_rfl) hc2 rfl ?_
      refine XL_skipT (ltI (w64 (0 - f1.1)) f1.2.1) rfl rfl (by kernel_rfl) hc2 rfl ?_
      refine XL_skipT (ltI (w64 (0 - f1.1)) f1.2.1) rfl rfl (by kernel_rfl) hc2 rfl ?_
      refine XL_skipT (ltI (w64 (0 - f1.1)) f1.2.1) rfl rfl (by kernel_rfl) hc2 rfl ?_
      refine XL_cons rfl (X_of_Y0 rfl (Y0_pick0 (b := ltI (w64 (0 - f1.1)) f1.2.1) (p := leI f1.2.1 f1.1) (q := false) rfl (by kernel_rfl) hc2 (by kernel_rfl))) ?_
      refine XL_cons rfl (X_of_Y0 rfl (E_assign (Bo (bif (ltI (w64 (0 - f1.1)) f1.2.1) then (leI f1.2.1 f1.1) else false)) rfl (by kernel_rfl))) ?_
      refine XL_nil ?_
      subst ht3
      kernel_rfl
  refine V_ret ?_
  obtain rfl := some_inj h
  show Post _ _ _ _ _
  exact ⟨.inr rfl, rfl, rfl, rfl⟩
theorem cf_impl_Form_isReduced : ∀ args w, (callFunc 139 args).run Try.prog w = .ok (.enter 139 args) w := run_callFunc Try.func139 (by kernel_rfl) (by kernel_rfl)
set_option maxRecDepth 100000 in
set_option maxHeartbeats 400000 in
theorem s_impl_Form_isReduced {f1 : (Int × Int × Int)} {r : Bool} (h : r_impl_Form_isReduced f1 = some r) : CallS Try.prog 139 [.ag [Ti f1.1, Ti f1.2.1, Ti f1.2.2]] (Bo r) [] := by
  refine CallS_of_text (rs := [.t 2]) (vs := [.tmp 2]) Try.func139 rfl rfl (.cons rfl FitsL.nil) (by decide) 24 rfl ?_
  unfold r_impl_Form_isReduced at h
  show V _ _ ⟨[.ag [Ti f1.1, Ti f1.2.1, Ti f1.2.2], .bot, .bot, .bot, .bot, .bot, .bot, .bot, .bot, .bot, .bot, .bot, .bot, .bot, .bot, .bot, .bot, .bot, .bot, .bot, .bot, .bot, .bot, .bot], []⟩ _
  refine V_sreg [false, true, false, false, false, false, false, false, false, false, false, false, false, false, false, false, false, false, false, false, false, false, false, false] [8] (s1 := ⟨[.bot, .pt 8 0, .bot, .bot, .bot, .bot, .bot, .bot, .bot, .bot, .bot, .bot, .bot, .bot, .bot, .bot, .bot, .bot, .bot, .bot, .bot, .bot, .bot, .bot], [(8, .box [Ti f1.1, Ti f1.2.1, Ti f1.2.2])]⟩) ?_ ?_
  · refine XL_cons rfl (X_of_Y1 rfl (Y1_box (cs := [Ti f1.1, Ti f1.2.1, Ti f1.2.2]) rfl (by kernel_rfl))) ?_
    refine XL_cons rfl (X_of_Y0 rfl (E_assign (Bo false) rfl (by kernel_rfl))) ?_
    refine XL_nil ?_
    kernel_rfl
  obtain ⟨y2, hy2, h⟩ := of_bind h
  obtain ⟨t6, ht6, h⟩ := of_bind h
  have ht6 := some_inj ht6
  refine V_sreg [false, false, true, false, false, false, false, false, false, false, false, false, false, false, false, false, false, false, false, false, false, false, false, false] [] (s1 := ⟨[.bot, .bot, Bo t6, .bot, .bot, .bot, .bot, .bot, .bot, .bot, .bot, .bot, .bot, .bot, .bot, .bot, .bot, .bot, .bot, .bot, .bot, .bot, .bot, .bot], []⟩) ?_ ?_
  · refine XL_cons rfl (X_of_Y0 rfl (E_loadn (cs := [Ti f1.1, Ti f1.2.1, Ti f1.2.2]) [Ti f1.1, Ti f1.2.1, Ti f1.2.2] wd36 rfl (by kernel_rfl) (Nat.le_of_ble_eq_true rfl) (by kernel_rfl))) ?_
    refine XL_cons rfl (X_of_Y1 rfl (Y1_call (s_impl_Form_isNormal hy2) cf_impl_Form_isNormal rfl (by kernel_rfl))) ?_
    refine XL_cons rfl (X_of_Y0 rfl (E_move (Bo y2) rfl (by kernel_rfl))) ?_
    refine XL_split y2 (fun hc3 => ?_) (fun hc3 => ?_)
    · refine XL_takeC (y2) rfl rfl (by kernel_rfl) hc3 (X_of_Y0 rfl (E_field (.pt 8 0) Try.underlying36 rfl sz3 rfl (by kernel_rfl) (by intro hh; cases hh))) ?_
      refine XL_takeC (y2) rfl rfl (by kernel_rfl) hc3 (X_of_Y0 rfl (Y0_load1 (c := Ti f1.1) (cs := [Ti f1.2.1, Ti f1.2.2]) sc3 rfl (by kernel_rfl))) ?_
      refine XL_takeC (y2) rfl rfl (by kernel_rfl) hc3 (X_of_Y0 rfl (E_field (.pt 8 2) Try.underlying36 rfl sz3 rfl (by kernel_rfl) (by intro hh; cases hh))) ?_
      refine XL_takeC (y2) rfl rfl (by kernel_rfl) hc3 (X_of_Y0 rfl (Y0_load1 (c := Ti f1.2.2) (cs := []) sc3 rfl (by kernel_rfl))) ?_
      refine XL_takeC (y2) rfl rfl (by kernel_rfl) hc3 (X_of_Y0 rfl (Y0_ltw (k := .i64) (a := f1.1) (b := f1.2.2) rfl (by kernel_rfl) (by kernel_rfl))) ?_
      refine XL_takeC (y2) rfl rfl (by kernel_rfl) hc3 (X_of_Y0 rfl (E_move (Bo (ltI f1.1 f1.2.2)) rfl (by kernel_rfl))) ?_
      refine XL_split (ltI f1.1 f1.2.2) (fun hc4 => ?_) (fun hc4 => ?_)
      · refine XL_skipF (ltI f1.1 f1.2.2) rfl rfl (by kernel_rfl) hc4 rfl ?_
        refine XL_skipF (ltI f1.1 f1.2.2) rfl rfl (by kernel_rfl) hc4 rfl ?_
        refine XL_skipF (ltI f1.1 f1.2.2) rfl rfl (by kernel_rfl) hc4 rfl ?_
        refine XL_skipF (ltI f1.1 f1.2.2) rfl rfl (by kernel_rfl) hc4 rfl ?_
        refine XL_skipF (ltI f1.1 f1.2.2) rfl rfl (by kernel_rfl) hc4 rfl ?_
        refine XL_skipF (ltI f1.1 f1.2.2) rfl rfl (by kernel_rfl) hc4 rfl ?_
        refine XL_skip2 rfl rfl (by kernel_rfl) rfl ?_
        refine XL_skip2 rfl rfl (by kernel_rfl) rfl ?_
        refine XL_skip2 rfl rfl (by kernel_rfl) rfl ?_
        refine XL_skipF (ltI f1.1 f1.2.2) rfl rfl (by kernel_rfl) hc4 rfl ?_
        refine XL_takeC (y2) rfl rfl (by kernel_rfl) hc3 (X_of_Y0 rfl (Y0_pick1 (b := ltI f1.1 f1.2.2) (p := true) (q := bif (eqI f1.1 f1.2.2) then (leI 0 f1.2.1) else false) rfl (by kernel_rfl) hc4 (by kernel_rfl))) ?_
        refine XL_cons rfl (X_of_Y0 rfl (Y0_pick1 (b := y2) (p := bif (ltI f1.1 f1.2.2) then true else (bif (eqI f1.1 f1.2.2) then (leI 0 f1.2.1) else false)) (q := false) rfl (by kernel_rfl) hc3 (by kernel_rfl))) ?_
        refine XL_cons rfl (X_of_Y0 rfl (E_assign (Bo (bif y2 then (bif (ltI f1.1 f1.2.2) then true else (bif (eqI f1.1 f1.2.2) then (leI 0 f1.2.1) else false)) else false)) rfl (by kernel_rfl))) ?_
        refine XL_nil ?_
        subst ht6
        kernel_rfl
      · refine XL_takeC (ltI f1.1 f1.2.2) rfl rfl (by kernel_rfl) hc4 (X_of_Y0 rfl (E_field (.pt 8 0) Try.underlying36 rfl sz3 rfl (by kernel_rfl) (by intro hh; cases hh))) ?_
        refine XL_takeC (ltI f1.1 f1.2.2) rfl rfl (by kernel_rfl) hc4 (X_of_Y0 rfl (Y0_load1 (c := Ti f1.1) (cs := [Ti f1.2.1, Ti f1.2.2]) sc3 rfl (by kernel_rfl))) ?_
        refine XL_takeC (ltI f1.1 f1.2.2) rfl rfl (by kernel_rfl) hc4 (X_of_Y0 rfl (E_field (.pt 8 2) Try.underlying36 rfl sz3 rfl (by kernel_rfl) (by intro hh; cases hh))) ?_
        refine XL_takeC (ltI f1.1 f1.2.2) rfl rfl (by kernel_rfl) hc4 (X_of_Y0 rfl (Y0_load1 (c := Ti f1.2.2) (cs := []) sc3 rfl (by kernel_rfl))) ?_
        refine XL_takeC (ltI f1.1 f1.2.2) rfl rfl (by kernel_rfl) hc4 (X_of_Y0 rfl (Y0_eqw (k := .i64) (a := f1.1) (b := f1.2.2) rfl (by kernel_rfl) (by kernel_rfl))) ?_
        refine XL_takeC (ltI f1.1 f1.2.2) rfl rfl (by kernel_rfl) hc4 (X_of_Y0 rfl (E_move (Bo (eqI f1.1 f1.2.2)) rfl (by kernel_rfl))) ?_
        refine XL_split (eqI f1.1 f1.2.2) (fun hc5 => ?_) (fun hc5 => ?_)
        · refine XL_takeC (eqI f1.1 f1.2.2) rfl rfl (by kernel_rfl) hc5 (X_of_Y0 rfl (E_field (.pt 8 1) Try.underlying36 rfl sz3 rfl (by kernel_rfl) (by intro hh; cases hh))) ?_
          refine XL_takeC (eqI f1.1 f1.2.2) rfl rfl (by kernel_rfl) hc5 (X_of_Y0 rfl (Y0_load1 (c := Ti f1.2.1) (cs := [Ti f1.2.2]) sc3 rfl (by kernel_rfl))) ?_
          refine XL_takeC (eqI f1.1 f1.2.2) rfl rfl (by kernel_rfl) hc5 (X_of_Y0 rfl (Y0_gew (k := .i64) (a := f1.2.1) (b := 0) rfl (by kernel_rfl) (by kernel_rfl))) ?_
          refine XL_takeC (ltI f1.1 f1.2.2) rfl rfl (by kernel_rfl) hc4 (X_of_Y0 rfl (Y0_pick1 (b := eqI f1.1 f1.2.2) (p := leI 0 f1.2.1) (q := false) rfl (by kernel_rfl) hc5 (by kernel_rfl))) ?_
          refine XL_takeC (y2) rfl rfl (by kernel_rfl) hc3 (X_of_Y0 rfl (Y0_pick0 (b := ltI f1.1 f1.2.2) (p := true) (q := bif (eqI f1.1 f1.2.2) then (leI 0 f1.2.1) else false) rfl (by kernel_rfl) hc4 (by kernel_rfl))) ?_
          refine XL_cons rfl (X_of_Y0 rfl (Y0_pick1 (b := y2) (p := bif (ltI f1.1 f1.2.2) then true else (bif (eqI f1.1 f1.2.2) then (leI 0 f1.2.1) else false)) (q := false) rfl (by kernel_rfl) hc3 (by kernel_rfl))) ?_
          refine XL_cons rfl (X_of_Y0 rfl (E_assign (Bo (bif y2 then (bif (ltI f1.1 f1.2.2) then true else (bif (eqI f1.1 f1.2.2) then (leI 0 f1.2.1) else false)) else false)) rfl (by kernel_rfl))) ?_
          refine XL_nil ?_
          subst ht6
          kernel_rfl
        · refine XL_skipT (eqI f1.1 f1.2.2) rfl rfl (by kernel_rfl) hc5 rfl ?_
          refine XL_skipT (eqI f1.1 f1.2.2) rfl rfl (by kernel_rfl) hc5 rfl ?_
          refine XL_skipT (eqI f1.1 f1.2.2) rfl rfl (by kernel_rfl) hc5 rfl ?_
          refine XL_takeC (ltI f1.1 f1.2.2) rfl rfl (by kernel_rfl) hc4 (X_of_Y0 rfl (Y0_pick0 (b := eqI f1.1 f1.2.2) (p := leI 0 f1.2.1) (q := false) rfl (by kernel_rfl) hc5 (by kernel_rfl))) ?_
          refine XL_takeC (y2) rfl rfl (by kernel_rfl) hc3 (X_of_Y0 rfl (Y0_pick0 (b := ltI f1.1 f1.2.2) (p := true) (q := bif (eqI f1.1 f1.2.2) then (leI 0 f1.2.1) else false) rfl (by kernel_rfl) hc4 (by kernel_rfl))) ?_
          refine XL_cons rfl (X_of_Y0 rfl (Y0_pick1 (b := y2) (p := bif (ltI f1.1 f1.2.2) then true else (bif (eqI f1.1 f1.2.2) then (leI 0 f1.2.1) else false)) (q := false) rfl (by kernel_rfl) hc3 (by kernel_rfl))) ?_
          refine XL_cons rfl (X_of_Y0 rfl (E_assign (Bo (bif y2 then (bif (ltI f1.1 f1.2.2) then true else (bif (eqI f1.1 f1.2.2) then (leI 0 f1.2.1) else false)) else false)) rfl (by kernel_rfl))) ?_
          refine XL_nil ?_
          subst ht6
          kernel_rfl
    · refine XL_skipT (y2) rfl rfl (by kernel_rfl) hc3 rfl ?_
      refine XL_skipT (y2) rfl rfl (by kernel_rfl) hc3 rfl ?_
      refine XL_skipT (y2) rfl rfl (by kernel_rfl) hc3 rfl ?_
      refine XL_skipT (y2) rfl rfl (by kernel_rfl) hc3 rfl ?_
      refine XL_skipT (y2) rfl rfl (by kernel_rfl) hc3 rfl ?_
      refine XL_skipT (y2) rfl rfl (by kernel_rfl) hc3 rfl ?_
      refine XL_skip2 rfl rfl (by kernel_rfl) rfl ?_
      refine XL_skip2 rfl rfl (by kernel_rfl) rfl ?_
      refine XL_skip2 rfl rfl (by kernel_rfl) rfl ?_
      refine XL_skip2 rfl rfl (by kernel_rfl) rfl ?_
      refine XL_skip2 rfl rfl (by kernel_rfl) rfl ?_
      refine XL_skip2 rfl rfl (by kernel_rfl) rfl ?_
      refine XL_skip2 rfl rfl (by kernel_rfl) rfl ?_
      refine XL_skip2 rfl rfl (by kernel_rfl) rfl ?_
      refine XL_skip2 rfl rfl (by kernel_rfl) rfl ?_
      refine XL_skip2 rfl rfl (by kernel_rfl) rfl ?_
      refine XL_skipT (y2) rfl rfl (by kernel_rfl) hc3 rfl ?_
      refine XL_cons rfl (X_of_Y0 rfl (Y0_pick0 (b := y2) (p := bif (ltI f1.1 f1.2.2) then true else (bif (eqI f1.1 f1.2.2) then (leI 0 f1.2.1) else false)) (q := false) rfl (by kernel_rfl) hc3 (by kernel_rfl))) ?_
      refine XL_cons rfl (X_of_Y0 rfl (E_assign (Bo (bif y2 then (bif (ltI f1.1 f1.2.2) then true else (bif (eqI f1.1 f1.2.2) then (leI 0 f1.2.1) else false)) else false)) rfl (by kernel_rfl))) ?_
      refine XL_nil ?_
      subst ht6
      kernel_rfl
  refine V_ret ?_
  obtain rfl := some_inj h
  show Post _ _ _ _ _
  exact ⟨.inr rfl, rfl, rfl, rfl⟩
theorem cf_impl_allReduced : ∀ args w, (callFunc 111 args).run Try.prog w = .ok (.enter 111 args) w := run_callFunc Try.func111 (by kernel_rfl) (by kernel_rfl)
set_option maxRecDepth 100000 in
set_option maxHeartbeats 400000 in
theorem s_impl_allReduced {d1 : Int} {r : List ((Int × Int × Int))} (h : r_impl_allReduced d1 = some r) : CallS Try.prog 111 [I d1] (.ow 0) [(0, .arr 36 3 (r.map c36))] := by
  refine CallS_of_text (rs := [.t 2]) (vs := [.tmp 2]) Try.func111 rfl rfl (.cons rfl FitsL.nil) (by decide) 51 rfl ?_
  unfold r_impl_allReduced at h
  show V _ _ ⟨[I d1, .bot, .bot, .bot, .bot, .bot, .bot, .bot, .bot, .bot, .bot, .bot, .bot, .bot, .bot, .bot, .bot, .bot, .bot, .bot, .bot, .bot, .bot, .bot, .bot, .bot, .bot, .bot, .bot, .bot, .bot, .bot, .bot, .bot, .bot, .bot, .bot, .bot, .bot, .bot, .bot, .bot, .bot, .bot, .bot, .bot, .bot, .bot, .bot, .bot, .bot], []⟩ _
  refine V_sreg [true, false, false, false, false, false, false, false, false, false, false, false, false, false, false, false, false, false, false, false, false, false, false, false, false, false, false, false, false, false, false, false, false, false, false, false, false, false, false, false, false, false, false, false, false, false, false, false, false, false, false] [] (s1 := ⟨[I d1, .bot, .bot, .bot, .bot, .bot, .bot, .bot, .bot, .bot, .bot, .bot, .bot, .bot, .bot, .bot, .bot, .bot, .bot, .bot, .bot, .bot, .bot, .bot, .bot, .bot, .bot, .bot, .bot, .bot, .bot, .bot, .bot, .bot, .bot, .bot, .bot, .bot, .bot, .bot, .bot, .bot, .bot, .bot, .bot, .bot, .bot, .bot, .bot, .bot, .bot], []⟩) ?_ ?_
  · refine XL_cons rfl (X_of_Y1 rfl (Y1_nil (e := 36) 3 (by decide) (.inl rfl))) ?_
    refine XL_nil ?_
    kernel_rfl
  refine V_sreg [true, false, false, true, false, false, false, false, false, false, false, false, false, false, false, false, false, false, false, false, false, false, false, false, false, false, false, false, false, false, false, false, false, false, false, false, false, false, false, false, false, false, false, false, false, false, false, false, false, false, false] [56] (s1 := ⟨[I d1, .bot, .bot, .ow 56, .bot, .bot, .bot, .bot, .bot, .bot, .bot, .bot, .bot, .bot, .bot, .bot, .bot, .bot, .bot, .bot, .bot, .bot, .bot, .bot, .bot, .bot, .bot, .bot, .bot, .bot, .bot, .bot, .bot, .bot, .bot, .bot, .bot, .bot, .bot, .bot, .bot, .bot, .bot, .bot, .bot, .bot, .bot, .bot, .bot, .bot, .bot], [(56, .arr 36 3 ((([] : List ((Int × Int × Int)))).map c36))]⟩) ?_ ?_
  · refine XL_cons rfl (X_of_Y1 rfl (Y1_bslice0 Try.underlying53 sz36 (by decide) rfl rfl)) ?_
    refine XL_cons rfl (X_of_Y0 rfl (E_assign (.ow 56) rfl (by kernel_rfl))) ?_
    refine XL_nil ?_
    kernel_rfl
  refine V_seq ?_
  refine V_sreg [true, false, false, true, true, false, false, false, false, false, false, false, false, false, false, false, false, false, false, false, false, false, false, false, false, false, false, false, false, false, false, false, false, false, false, false, false, false, false, false, false, false, false, false, false, false, false, false, false, false, false] [56] (s1 := ⟨[I d1, .bot, .bot, .ow 56, I 1, .bot, .bot, .bot, .bot, .bot, .bot, .bot, .bot, .bot, .bot, .bot, .bot, .bot, .bot, .bot, .bot, .bot, .bot, .bot, .bot, .bot, .bot, .bot, .bot, .bot, .bot, .bot, .bot, .bot, .bot, .bot, .bot, .bot, .bot, .bot, .bot, .bot, .bot, .bot, .bot, .bot, .bot, .bot, .bot, .bot, .bot], [(56, .arr 36 3 ((([] : List ((Int × Int × Int)))).map c36))]⟩) ?_ ?_
  · refine XL_cons rfl (X_of_Y0 rfl (E_assign (I 1) rfl (by kernel_rfl))) ?_
    refine XL_nil ?_
    kernel_rfl
  obtain ⟨o5, hLo5, h⟩ := of_bind h
  refine V_toK [false, false, false, true, false, false, false, false, false, false, false, false, false, false, false, false, false, false, false, false, false, false, false, false, false, false, false, false, false, false, false, false, false, false, false, false, false, false, false, false, false, false, false, false, false, false, false, false, false, false, false] [56] (s1 := ⟨[.bot, .bot, .bot, .ow 56, .bot, .bot, .bot, .bot, .bot, .bot, .bot, .bot, .bot, .bot, .bot, .bot, .bot, .bot, .bot, .bot, .bot, .bot, .bot, .bot, .bot, .bot, .bot, .bot, .bot, .bot, .bot, .bot, .bot, .bot, .bot, .bot, .bot, .bot, .bot, .bot, .bot, .bot, .bot, .bot, .bot, .bot, .bot, .bot, .bot, .bot, .bot], [(56, .arr 36 3 (o5.map c36))]⟩) ?_ ?_
  · clear h
    refine V_block (V_loop (fun n s => ∃ (a2 : Int) (l3 : List ((Int × Int × Int))), s.keep [true, false, false, true, true, false, false, false, false, false, false, false, false, false, false, false, false, false, false, false, false, false, false, false, false, false, false, false, false, false, false, false, false, false, false, false, false, false, false, false, false, false, false, false, false, false, false, false, false, false, false] [56] = (⟨[I d1, .bot, .bot, .ow 56, I a2, .bot, .bot, .bot, .bot, .bot, .bot, .bot, .bot, .bot, .bot, .bot, .bot, .bot, .bot, .bot, .bot, .bot, .bot, .bot, .bot, .bot, .bot, .bot, .bot, .bot, .bot, .bot, .bot, .bot, .bot, .bot, .bot, .bot, .bot, .bot, .bot, .bot, .bot, .bot, .bot, .bot, .bot, .bot, .bot, .bot, .bot], [(56, .arr 36 3 (l3.map c36))]⟩ : St) ∧ r_impl_allReduced_L4 d1 n a2 l3 = some o5) FU ⟨_, _,  by rfl, hLo5⟩ ?_)
    clear hLo5
    rintro n s ⟨a2, l3, hs, h⟩
    refine V_keep _ _ hs ?_
    clear hs
    cases n with
    | zero => cases h
    | succ n =>
      rw [r_impl_allReduced_L4] at h
      refine V_seq ?_
      refine V_sreg [true, false, false, true, true, false, false, false, false, false, false, false, false, false, true, false, false, false, false, false, false, false, false, false, false, false, false, false, false, false, false, false, false, false, false, false, false, false, false, false, false, false, false, false, false, false, false, false, false, false, false] [56] (s1 := ⟨[I d1, .bot, .bot, .ow 56, I a2, .bot, .bot, .bot, .bot, .bot, .bot, .bot, .bot, .bot, Bo (leI (w64 ((w64 (3 * a2)) * a2)) (w64 (0 - d1))), .bot, .bot, .bot, .bot, .bot, .bot, .bot, .bot, .bot, .bot, .bot, .bot, .bot, .bot, .bot, .bot, .bot, .bot, .bot, .bot, .bot, .bot, .bot, .bot, .bot, .bot, .bot, .bot, .bot, .bot, .bot, .bot, .bot, .bot, .bot, .bot], [(56, .arr 36 3 (l3.map c36))]⟩) ?_ ?_
      · refine XL_cons rfl (X_of_Y0 rfl (E_move (I a2) rfl (by kernel_rfl))) ?_
        refine XL_cons rfl (X_of_Y0 rfl (Y0_mul64 (a := 3) (b := a2) rfl (by kernel_rfl) (by kernel_rfl))) ?_
        refine XL_cons rfl (X_of_Y0 rfl (E_move (I a2) rfl (by kernel_rfl))) ?_
        refine XL_cons rfl (X_of_Y0 rfl (Y0_mul64 (a := w64 (3 * a2)) (b := a2) rfl (by kernel_rfl) (by kernel_rfl))) ?_
        refine XL_cons rfl (X_of_Y0 rfl (E_move (I d1) rfl (by kernel_rfl))) ?_
        refine XL_cons rfl (X_of_Y0 rfl (Y0_neg64 (a := d1) rfl (by kernel_rfl))) ?_
        refine XL_cons rfl (X_of_Y0 rfl (Y0_lew (k := .i64) (a := w64 ((w64 (3 * a2)) * a2)) (b := w64 (0 - d1)) rfl (by kernel_rfl) (by kernel_rfl))) ?_
        refine XL_nil ?_
        kernel_rfl
      refine V_cond rfl (fun hc6 => ?_) (fun hc6 => ?_)
      · have h := of_true h hc6
        refine V_skip ?_
        show V _ _ _ _
        refine V_seq ?_
        refine V_block ?_
        obtain ⟨b7, hb7, h⟩ := of_sI h
        refine V_sreg [true, false, false, true, true, true, false, false, false, false, false, false, false, false, false, false, false, false, false, false, false, false, false, false, false, false, false, false, false, false, false, false, false, false, false, false, false, false, false, false, false, false, false, false, false, false, false, false, false, false, false] [56] (s1 := ⟨[I d1, .bot, .bot, .ow 56, I a2, I b7, .bot, .bot, .bot, .bot, .bot, .bot, .bot, .bot, .bot, .bot, .bot, .bot, .bot, .bot, .bot, .bot, .bot, .bot, .bot, .bot, .bot, .bot, .bot, .bot, .bot, .bot, .bot, .bot, .bot, .bot, .bot, .bot, .bot, .bot, .bot, .bot, .bot, .bot, .bot, .bot, .bot, .bot, .bot, .bot, .bot], [(56, .arr 36 3 (l3.map c36))]⟩) ?_ ?_
        · refine XL_cons rfl (X_of_Y0 rfl (E_move (I a2) rfl (by kernel_rfl))) ?_
          refine XL_cons rfl (X_of_Y0 rfl (Y0_sub64 (a := 1) (b := a2) rfl (by kernel_rfl) (by kernel_rfl))) ?_
          refine XL_cons rfl (X_of_Y0 rfl (E_assign (I (w64 (1 - a2))) rfl (by kernel_rfl))) ?_
          refine XL_nil ?_
          subst hb7
          kernel_rfl
        obtain ⟨o11, hLo11, h⟩ := of_bind h
        refine V_toK [true, false, false, true, true, false, false, false, false, false, false, false, false, false, false, false, false, false, false, false, false, false, false, false, false, false, false, false, false, false, false, false, false, false, false, false, false, false, false, false, false, false, false, false, false, false, false, false, false, false, false] [56] (s1 := ⟨[I d1, .bot, .bot, .ow 56, I a2, .bot, .bot, .bot, .bot, .bot, .bot, .bot, .bot, .bot, .bot, .bot, .bot, .bot, .bot, .bot, .bot, .bot, .bot, .bot, .bot, .bot, .bot, .bot, .bot, .bot, .bot, .bot, .bot, .bot, .bot, .bot, .bot, .bot, .bot, .bot, .bot, .bot, .bot, .bot, .bot, .bot, .bot, .bot, .bot, .bot, .bot], [(56, .arr 36 3 (o11.map c36))]⟩) ?_ ?_
        · clear h
          refine V_block (V_loop (fun n s => ∃ (b8 : Int) (l9 : List ((Int × Int × Int))), s.keep [true, false, false, true, true, true, false, false, false, false, false, false, false, false, false, false, false, false, false, false, false, false, false, false, false, false, false, false, false, false, false, false, false, false, false, false, false, false, false, false, false, false, false, false, false, false, false, false, false, false, false] [56] = (⟨[I d1, .bot, .bot, .ow 56, I a2, I b8, .bot, .bot, .bot, .bot, .bot, .bot, .bot, .bot, .bot, .bot, .bot, .bot, .bot, .bot, .bot, .bot, .bot, .bot, .bot, .bot, .bot, .bot, .bot, .bot, .bot, .bot, .bot, .bot, .bot, .bot, .bot, .bot, .bot, .bot, .bot, .bot, .bot, .bot, .bot, .bot, .bot, .bot, .bot, .bot, .bot], [(56, .arr 36 3 (l9.map c36))]⟩ : St) ∧ r_impl_allReduced_L10 a2 d1 n b8 l9 = some o11) FU ⟨_, _,  by rfl, hLo11⟩ ?_)
          clear hLo11
          rintro n s ⟨b8, l9, hs, h⟩
          refine V_keep _ _ hs ?_
          clear hs
          cases n with
          | zero => cases h
          | succ n =>
            rw [r_impl_allReduced_L10] at h
            refine V_seq ?_
            refine V_sreg [true, false, false, true, true, true, false, false, false, false, false, false, false, false, false, false, false, false, false, false, false, true, false, false, false, false, false, false, false, false, false, false, false, false, false, false, false, false, false, false, false, false, false, false, false, false, false, false, false, false, false] [56] (s1 := ⟨[I d1, .bot, .bot, .ow 56, I a2, I b8, .bot, .bot, .bot, .bot, .bot, .bot, .bot, .bot, .bot, .bot, .bot, .bot, .bot, .bot, .bot, Bo (leI b8 a2), .bot, .bot, .bot, .bot, .bot, .bot, .bot, .bot, .bot, .bot, .bot, .bot, .bot, .bot, .bot, .bot, .bot, .bot, .bot, .bot, .bot, .bot, .bot, .bot, .bot, .bot, .bot, .bot, .bot], [(56, .arr 36 3 (l9.map c36))]⟩) ?_ ?_
            · refine XL_cons rfl (X_of_Y0 rfl (E_move (I b8) rfl (by kernel_rfl))) ?_
              refine XL_cons rfl (X_of_Y0 rfl (E_move (I a2) rfl (by kernel_rfl))) ?_
              refine XL_cons rfl (X_of_Y0 rfl (Y0_lew (k := .i64) (a := b8) (b := a2) rfl (by kernel_rfl) (by kernel_rfl))) ?_
              refine XL_nil ?_
              kernel_rfl
            refine V_cond rfl (fun hc12 => ?_) (fun hc12 => ?_)
            · have h := of_true h hc12
              refine V_skip ?_
              show V _ _ _ _
              refine V_seq ?_
              refine V_block ?_
              refine V_seq ?_
              obtain ⟨z13, hz13, h⟩ := of_bind h
              obtain ⟨t14, ht14, h⟩ := of_bind h
              have ht14 := some_inj ht14
              refine V_sreg [true, false, false, true, true, true, false, false, false, false, false, false, false, false, false, false, false, false, false, false, false, false, false, false, false, false, false, false, false, false, false, false, true, false, false, false, false, false, false, false, false, false, false, false, false, false, false, false, false, false, false] [56] (s1 := ⟨[I d1, .bot, .bot, .ow 56, I a2, I b8, .bot, .bot, .bot, .bot, .bot, .bot, .bot, .bot, .bot, .bot, .bot, .bot, .bot, .bot, .bot, .bot, .bot, .bot, .bot, .bot, .bot, .bot, .bot, .bot, .bot, .bot, Bo t14, .bot, .bot, .bot, .bot, .bot, .bot, .bot, .bot, .bot, .bot, .bot, .bot, .bot, .bot, .bot, .bot, .bot, .bot], [(56, .arr 36 3 (l9.map c36))]⟩) ?_ ?_
              · refine XL_cons rfl (X_of_Y0 rfl (E_move (I b8) rfl (by kernel_rfl))) ?_
                refine XL_cons rfl (X_of_Y0 rfl (E_move (I b8) rfl (by kernel_rfl))) ?_
                refine XL_cons rfl (X_of_Y0 rfl (Y0_mul64 (a := b8) (b := b8) rfl (by kernel_rfl) (by kernel_rfl))) ?_
                refine XL_cons rfl (X_of_Y0 rfl (E_move (I d1) rfl (by kernel_rfl))) ?_
                refine XL_cons rfl (X_of_Y0 rfl (Y0_sub64 (a := w64 (b8 * b8)) (b := d1) rfl (by kernel_rfl) (by kernel_rfl))) ?_
                refine XL_cons rfl (X_of_Y0 rfl (E_move (I a2) rfl (by kernel_rfl))) ?_
                refine XL_cons rfl (X_of_Y0 rfl (Y0_mul64 (a := 4) (b := a2) rfl (by kernel_rfl) (by kernel_rfl))) ?_
                refine XL_cons rfl (X_of_Y0 rfl (Y0_rem (k := .i64) (a := w64 ((w64 (b8 * b8)) - d1)) (b := w64 (4 * a2)) rfl (by kernel_rfl) (by kernel_rfl) (nz_some hz13))) ?_
                refine XL_cons rfl (X_of_Y0 rfl (Y0_new (k := .i64) (a := Int.tmod (w64 ((w64 (b8 * b8)) - d1)) (w64 (4 * a2))) (b := 0) rfl (by kernel_rfl) (by kernel_rfl))) ?_
                refine XL_nil ?_
                subst ht14
                kernel_rfl
              refine V_cond rfl (fun hc15 => ?_) (fun hc15 => ?_)
              · have h := of_true h hc15
                refine V_exit ?_
                show V _ _ _ _
                obtain ⟨b16, hb16, h⟩ := of_sI h
                refine V_reg [true, false, false, true, true, true, false, false, false, false, false, false, false, false, false, false, false, false, false, false, false, false, false, false, false, false, false, false, false, false, false, false, false, false, false, false, false, false, false, false, false, false, false, false, false, false, false, false, false, false, false] [56] (s1 := ⟨[I d1, .bot, .bot, .ow 56, I a2, I b16, .bot, .bot, .bot, .bot, .bot, .bot, .bot, .bot, .bot, .bot, .bot, .bot, .bot, .bot, .bot, .bot, .bot, .bot, .bot, .bot, .bot, .bot, .bot, .bot, .bot, .bot, .bot, .bot, .bot, .bot, .bot, .bot, .bot, .bot, .bot, .bot, .bot, .bot, .bot, .bot, .bot, .bot, .bot, .bot, .bot], [(56, .arr 36 3 (l9.map c36))]⟩) ?_ ?_
                · refine XL_cons rfl (X_of_Y0 rfl (E_move (I b8) rfl (by kernel_rfl))) ?_
                  refine XL_cons rfl (X_of_Y0 rfl (Y0_add64 (a := b8) (b := 1) rfl (by kernel_rfl) (by kernel_rfl))) ?_
                  refine XL_cons rfl (X_of_Y0 rfl (E_assign (I (w64 (b8 + 1))) rfl (by kernel_rfl))) ?_
                  refine XL_nil ?_
                  subst hb16
                  kernel_rfl
                exact ⟨n, Nat.lt_succ_self n, _, _,  by rfl, h⟩
              · have h := of_false h hc15
                refine V_skip ?_
                show V _ _ _ _
                obtain ⟨z17, hz17, h⟩ := of_bind h
                obtain ⟨f18, hf18, h⟩ := of_sI h
                refine V_sreg [true, false, false, true, true, true, true, false, false, false, false, false, false, false, false, false, false, false, false, false, false, false, false, false, false, false, false, false, false, false, false, false, false, false, false, false, false, false, false, false, false, false, false, false, false, false, false, false, false, false, false] [48, 56] (s1 := ⟨[I d1, .bot, .bot, .ow 56, I a2, I b8, .pt 48 0, .bot, .bot, .bot, .bot, .bot, .bot, .bot, .bot, .bot, .bot, .bot, .bot, .bot, .bot, .bot, .bot, .bot, .bot, .bot, .bot, .bot, .bot, .bot, .bot, .bot, .bot, .bot, .bot, .bot, .bot, .bot, .bot, .bot, .bot, .bot, .bot, .bot, .bot, .bot, .bot, .bot, .bot, .bot, .bot], [(48, .box [Ti a2, Ti b8, Ti f18]), (56, .arr 36 3 (l9.map c36))]⟩) ?_ ?_
                · refine XL_cons rfl (X_of_Y0 rfl (E_move (I a2) rfl (by kernel_rfl))) ?_
                  refine XL_cons rfl (X_of_Y0 rfl (E_move (I b8) rfl (by kernel_rfl))) ?_
                  refine XL_cons rfl (X_of_Y0 rfl (E_move (I b8) rfl (by kernel_rfl))) ?_
                  refine XL_cons rfl (X_of_Y0 rfl (E_move (I b8) rfl (by kernel_rfl))) ?_
                  refine XL_cons rfl (X_of_Y0 rfl (Y0_mul64 (a := b8) (b := b8) rfl (by kernel_rfl) (by kernel_rfl))) ?_
                  refine XL_cons rfl (X_of_Y0 rfl (E_move (I d1) rfl (by kernel_rfl))) ?_
                  refine XL_cons rfl (X_of_Y0 rfl (Y0_sub64 (a := w64 (b8 * b8)) (b := d1) rfl (by kernel_rfl) (by kernel_rfl))) ?_
                  refine XL_cons rfl (X_of_Y0 rfl (E_move (I a2) rfl (by kernel_rfl))) ?_
                  refine XL_cons rfl (X_of_Y0 rfl (Y0_mul64 (a := 4) (b := a2) rfl (by kernel_rfl) (by kernel_rfl))) ?_
                  refine XL_cons rfl (X_of_Y0 rfl (Y0_quo64 (a := w64 ((w64 (b8 * b8)) - d1)) (b := w64 (4 * a2)) rfl (by kernel_rfl) (by kernel_rfl) (nz_some hz17))) ?_
                  refine XL_cons rfl (X_of_Y0 rfl (Y0_build (cs := [Ti a2, Ti b8, Ti (w64 (Int.tdiv (w64 ((w64 (b8 * b8)) - d1)) (w64 (4 * a2))))]) pl36 bt36 rfl rfl (by kernel_rfl))) ?_
                  refine XL_cons rfl (X_of_Y1 rfl (Y1_alloc (z := zv36) rfl zf36 rfl)) ?_
                  refine XL_cons rfl (E_store (id := 48) (off := 0) (cs := [Ti 0, Ti 0, Ti 0]) (vc := [Ti a2, Ti b8, Ti (w64 (Int.tdiv (w64 ((w64 (b8 * b8)) - d1)) (w64 (4 * a2))))]) [Ti a2, Ti b8, Ti (w64 (Int.tdiv (w64 ((w64 (b8 * b8)) - d1)) (w64 (4 * a2))))] rfl rfl (by kernel_rfl) (by kernel_rfl) (by kernel_rfl) sz36 (Nat.le_of_ble_eq_true rfl) (by kernel_rfl)) ?_
                  refine XL_nil ?_
                  subst hf18
                  kernel_rfl
                obtain ⟨y19, hy19, h⟩ := of_bind h
                refine V_sreg [true, false, false, true, true, true, true, false, false, false, false, false, false, false, false, false, false, false, false, false, false, false, false, false, false, false, false, false, false, false, false, false, false, false, false, false, false, false, false, false, false, false, false, false, false, true, false, false, false, false, false] [48, 56] (s1 := ⟨[I d1, .bot, .bot, .ow 56, I a2, I b8, .pt 48 0, .bot, .bot, .bot, .bot, .bot, .bot, .bot, .bot, .bot, .bot, .bot, .bot, .bot, .bot, .bot, .bot, .bot, .bot, .bot, .bot, .bot, .bot, .bot, .bot, .bot, .bot, .bot, .bot, .bot, .bot, .bot, .bot, .bot, .bot, .bot, .bot, .bot, .bot, Bo y19, .bot, .bot, .bot, .bot, .bot], [(48, .box [Ti a2, Ti b8, Ti f18]), (56, .arr 36 3 (l9.map c36))]⟩) ?_ ?_
                · refine XL_cons rfl (X_of_Y0 rfl (E_loadn (cs := [Ti a2, Ti b8, Ti f18]) [Ti a2, Ti b8, Ti f18] wd36 rfl (by kernel_rfl) (Nat.le_of_ble_eq_true rfl) (by kernel_rfl))) ?_
                  refine XL_cons rfl (X_of_Y1 rfl (Y1_call (s_impl_Form_isReduced hy19) cf_impl_Form_isReduced rfl (by kernel_rfl))) ?_
                  refine XL_nil ?_
                  kernel_rfl
                refine V_cond rfl (fun hc20 => ?_) (fun hc20 => ?_)
                · have h := of_true h hc20
                  obtain ⟨u21, hu21, h⟩ := of_bind h
                  refine V_reg [true, false, false, true, true, true, false, false, false, false, false, false, false, false, false, false, false, false, false, false, false, false, false, false, false, false, false, false, false, false, false, false, false, false, false, false, false, false, false, false, false, false, false, false, false, false, false, false, false, false, false] [56] (s1 := ⟨[I d1, .bot, .bot, .ow 56, I a2, I b8, .bot, .bot, .bot, .bot, .bot, .bot, .bot, .bot, .bot, .bot, .bot, .bot, .bot, .bot, .bot, .bot, .bot, .bot, .bot, .bot, .bot, .bot, .bot, .bot, .bot, .bot, .bot, .bot, .bot, .bot, .bot, .bot, .bot, .bot, .bot, .bot, .bot, .bot, .bot, .bot, .bot, .bot, .bot, .bot, .bot], [(56, .arr 36 3 ((l9 ++ ([(a2, b8, f18)])).map c36))]⟩) ?_ ?_
                  · refine XL_cons rfl (X_of_Y0 rfl (E_move (.ow 56) rfl (by kernel_rfl))) ?_
                    refine XL_cons rfl (X_of_Y0 rfl (E_loadn (cs := [Ti a2, Ti b8, Ti f18]) [Ti a2, Ti b8, Ti f18] wd36 rfl (by kernel_rfl) (Nat.le_of_ble_eq_true rfl) (by kernel_rfl))) ?_
                    refine XL_cons rfl (X_of_Y1 rfl (Y1_bslice (z := zv36) (els := [(a2, b8, f18)].map c36) Try.underlying53 iz36 rfl (by decide) rfl (by kernel_rfl) rfl (by simp [c36]) (by decide) (by decide))) ?_
                    refine XL_cons rfl (X_appendM (c := c36) (xs := l9) (ys := [(a2, b8, f18)]) (id := 56) (z := zv36) rfl rfl Try.underlying53 izb36 rfl (by kernel_rfl) (by kernel_rfl) (by kernel_rfl) (fun _ => rfl) (by simp) (room_some hu21) (by decide)) ?_
                    refine XL_cons rfl (X_of_Y0 rfl (E_assign (.ow 56) rfl (by kernel_rfl))) ?_
                    refine XL_nil ?_
                    kernel_rfl
                  show V _ _ _ _
                  obtain ⟨b22, hb22, h⟩ := of_sI h
                  refine V_reg [true, false, false, true, true, true, false, false, false, false, false, false, false, false, false, false, false, false, false, false, false, false, false, false, false, false, false, false, false, false, false, false, false, false, false, false, false, false, false, false, false, false, false, false, false, false, false, false, false, false, false] [56] (s1 := ⟨[I d1, .bot, .bot, .ow 56, I a2, I b22, .bot, .bot, .bot, .bot, .bot, .bot, .bot, .bot, .bot, .bot, .bot, .bot, .bot, .bot, .bot, .bot, .bot, .bot, .bot, .bot, .bot, .bot, .bot, .bot, .bot, .bot, .bot, .bot, .bot, .bot, .bot, .bot, .bot, .bot, .bot, .bot, .bot, .bot, .bot, .bot, .bot, .bot, .bot, .bot, .bot], [(56, .arr 36 3 ((l9 ++ ([(a2, b8, f18)])).map c36))]⟩) ?_ ?_
                  · refine XL_cons rfl (X_of_Y0 rfl (E_move (I b8) rfl (by kernel_rfl))) ?_
                    refine XL_cons rfl (X_of_Y0 rfl (Y0_add64 (a := b8) (b := 1) rfl (by kernel_rfl) (by kernel_rfl))) ?_
                    refine XL_cons rfl (X_of_Y0 rfl (E_assign (I (w64 (b8 + 1))) rfl (by kernel_rfl))) ?_
                    refine XL_nil ?_
                    subst hb22
                    kernel_rfl
                  exact ⟨n, Nat.lt_succ_self n, _, _,  by rfl, h⟩
                · have h := of_false h hc20
                  refine V_skip ?_
                  show V _ _ _ _
                  obtain ⟨b23, hb23, h⟩ := of_sI h
                  refine V_reg [true, false, false, true, true, true, false, false, false, false, false, false, false, false, false, false, false, false, false, false, false, false, false, false, false, false, false, false, false, false, false, false, false, false, false, false, false, false, false, false, false, false, false, false, false, false, false, false, false, false, false] [56] (s1 := ⟨[I d1, .bot, .bot, .ow 56, I a2, I b23, .bot, .bot, .bot, .bot, .bot, .bot, .bot, .bot, .bot, .bot, .bot, .bot, .bot, .bot, .bot, .bot, .bot, .bot, .bot, .bot, .bot, .bot, .bot, .bot, .bot, .bot, .bot, .bot, .bot, .bot, .bot, .bot, .bot, .bot, .bot, .bot, .bot, .bot, .bot, .bot, .bot, .bot, .bot, .bot, .bot], [(56, .arr 36 3 (l9.map c36))]⟩) ?_ ?_
                  · refine XL_cons rfl (X_of_Y0 rfl (E_move (I b8) rfl (by kernel_rfl))) ?_
                    refine XL_cons rfl (X_of_Y0 rfl (Y0_add64 (a := b8) (b := 1) rfl (by kernel_rfl) (by kernel_rfl))) ?_
                    refine XL_cons rfl (X_of_Y0 rfl (E_assign (I (w64 (b8 + 1))) rfl (by kernel_rfl))) ?_
                    refine XL_nil ?_
                    subst hb23
                    kernel_rfl
                  exact ⟨n, Nat.lt_succ_self n, _, _,  by rfl, h⟩
            · have h := of_false h hc12
              refine V_exit ?_
              obtain rfl := some_inj h
              show St.keep _ _ _ = _
              rfl
        show V _ _ _ _
        obtain ⟨a24, ha24, h⟩ := of_sI h
        refine V_reg [true, false, false, true, true, false, false, false, false, false, false, false, false, false, false, false, false, false, false, false, false, false, false, false, false, false, false, false, false, false, false, false, false, false, false, false, false, false, false, false, false, false, false, false, false, false, false, false, false, false, false] [56] (s1 := ⟨[I d1, .bot, .bot, .ow 56, I a24, .bot, .bot, .bot, .bot, .bot, .bot, .bot, .bot, .bot, .bot, .bot, .bot, .bot, .bot, .bot, .bot, .bot, .bot, .bot, .bot, .bot, .bot, .bot, .bot, .bot, .bot, .bot, .bot, .bot, .bot, .bot, .bot, .bot, .bot, .bot, .bot, .bot, .bot, .bot, .bot, .bot, .bot, .bot, .bot, .bot, .bot], [(56, .arr 36 3 (o11.map c36))]⟩) ?_ ?_
        · refine XL_cons rfl (X_of_Y0 rfl (E_move (I a2) rfl (by kernel_rfl))) ?_
          refine XL_cons rfl (X_of_Y0 rfl (Y0_add64 (a := a2) (b := 1) rfl (by kernel_rfl) (by kernel_rfl))) ?_
          refine XL_cons rfl (X_of_Y0 rfl (E_assign (I (w64 (a2 + 1))) rfl (by kernel_rfl))) ?_
          refine XL_nil ?_
          subst ha24
          kernel_rfl
        exact ⟨n, Nat.lt_succ_self n, _, _,  by rfl, h⟩
      · have h := of_false h hc6
        refine V_exit ?_
        obtain rfl := some_inj h
        show St.keep _ _ _ = _
        rfl
  show V _ _ _ _
  refine V_sreg [false, false, true, false, false, false, false, false, false, false, false, false, false, false, false, false, false, false, false, false, false, false, false, false, false, false, false, false, false, false, false, false, false, false, false, false, false, false, false, false, false, false, false, false, false, false, false, false, false, false, false] [56] (s1 := ⟨[.bot, .bot, .ow 56, .bot, .bot, .bot, .bot, .bot, .bot, .bot, .bot, .bot, .bot, .bot, .bot, .bot, .bot, .bot, .bot, .bot, .bot, .bot, .bot, .bot, .bot, .bot, .bot, .bot, .bot, .bot, .bot, .bot, .bot, .bot, .bot, .bot, .bot, .bot, .bot, .bot, .bot, .bot, .bot, .bot, .bot, .bot, .bot, .bot, .bot, .bot, .bot], [(56, .arr 36 3 (o5.map c36))]⟩) ?_ ?_
  · refine XL_cons rfl (X_of_Y0 rfl (E_move (.ow 56) rfl (by kernel_rfl))) ?_
    refine XL_cons rfl (X_of_Y0 rfl (E_assign (.ow 56) rfl (by kernel_rfl))) ?_
    refine XL_nil ?_
    kernel_rfl
  refine V_ret ?_
  obtain rfl := some_inj h
  show Post _ _ _ _ _
  exact ⟨.inr rfl, rfl, rfl, rfl⟩
theorem cf_impl_hurwitz : ∀ args w, (callFunc 69 args).run Try.prog w = .ok (.enter 69 args) w := run_callFunc Try.func69 (by kernel_rfl) (by kernel_rfl)
set_option maxRecDepth 100000 in
set_option maxHeartbeats 400000 in
theorem s_impl_hurwitz {vn1 : Int} {r : Int} (h : r_impl_hurwitz vn1 = some r) : CallS Try.prog 69 [I vn1] (I r) [] := by
  refine CallS_of_text (rs := [.t 2]) (vs := [.tmp 2]) Try.func69 rfl rfl (.cons rfl FitsL.nil) (by decide) 52 rfl ?_
  unfold r_impl_hurwitz at h
  show V _ _ ⟨[I vn1, .bot, .bot, .bot, .bot, .bot, .bot, .bot, .bot, .bot, .bot, .bot, .bot, .bot, .bot, .bot, .bot, .bot, .bot, .bot, .bot, .bot, .bot, .bot, .bot, .bot, .bot, .bot, .bot, .bot, .bot, .bot, .bot, .bot, .bot, .bot, .bot, .bot, .bot, .bot, .bot, .bot, .bot, .bot, .bot, .bot, .bot, .bot, .bot, .bot, .bot, .bot], []⟩ _
  refine V_sreg [true, false, false, false, false, false, false, false, false, false, false, false, false, false, false, false, false, false, false, false, false, false, false, false, false, false, false, false, false, false, false, false, false, false, false, false, false, false, false, false, false, false, false, false, false, false, false, false, false, false, false, false] [] (s1 := ⟨[I vn1, .bot, .bot, .bot, .bot, .bot, .bot, .bot, .bot, .bot, .bot, .bot, .bot, .bot, .bot, .bot, .bot, .bot, .bot, .bot, .bot, .bot, .bot, .bot, .bot, .bot, .bot, .bot, .bot, .bot, .bot, .bot, .bot, .bot, .bot, .bot, .bot, .bot, .bot, .bot, .bot, .bot, .bot, .bot, .bot, .bot, .bot, .bot, .bot, .bot, .bot, .bot], []⟩) ?_ ?_
  · refine XL_cons rfl (X_of_Y0 rfl (E_assign (I 0) rfl (by kernel_rfl))) ?_
    refine XL_nil ?_
    kernel_rfl
  refine V_seq ?_
  refine V_sreg [true, false, false, false, false, false, false, true, false, false, false, false, false, false, false, false, false, false, false, false, false, false, false, false, false, false, false, false, false, false, false, false, false, false, false, false, false, false, false, false, false, false, false, false, false, false, false, false, false, false, false, false] [] (s1 := ⟨[I vn1, .bot, .bot, .bot, .bot, .bot, .bot, Bo (eqI vn1 0), .bot, .bot, .bot, .bot, .bot, .bot, .bot, .bot, .bot, .bot, .bot, .bot, .bot, .bot, .bot, .bot, .bot, .bot, .bot, .bot, .bot, .bot, .bot, .bot, .bot, .bot, .bot, .bot, .bot, .bot, .bot, .bot, .bot, .bot, .bot, .bot, .bot, .bot, .bot, .bot, .bot, .bot, .bot, .bot], []⟩) ?_ ?_
  · refine XL_cons rfl (X_of_Y0 rfl (E_move (I vn1) rfl (by kernel_rfl))) ?_
    refine XL_cons rfl (X_of_Y0 rfl (Y0_eqw (k := .i64) (a := vn1) (b := 0) rfl (by kernel_rfl) (by kernel_rfl))) ?_
    refine XL_nil ?_
    kernel_rfl
  refine V_cond rfl (fun hc2 => ?_) (fun hc2 => ?_)
  · have h := of_true h hc2
    refine V_sreg [false, false, true, false, false, false, false, false, false, false, false, false, false, false, false, false, false, false, false, false, false, false, false, false, false, false, false, false, false, false, false, false, false, false, false, false, false, false, false, false, false, false, false, false, false, false, false, false, false, false, false, false] [] (s1 := ⟨[.bot, .bot, I (-1), .bot, .bot, .bot, .bot, .bot, .bot, .bot, .bot, .bot, .bot, .bot, .bot, .bot, .bot, .bot, .bot, .bot, .bot, .bot, .bot, .bot, .bot, .bot, .bot, .bot, .bot, .bot, .bot, .bot, .bot, .bot, .bot, .bot, .bot, .bot, .bot, .bot, .bot, .bot, .bot, .bot, .bot, .bot, .bot, .bot, .bot, .bot, .bot, .bot], []⟩) ?_ ?_
    · refine XL_cons rfl (X_of_Y0 rfl (E_assign (I (-1)) rfl (by kernel_rfl))) ?_
      refine XL_nil ?_
      kernel_rfl
    refine V_ret ?_
    obtain rfl := some_inj h
    show Post _ _ _ _ _
    exact ⟨.inr rfl, rfl, rfl, rfl⟩
  · have h := of_false h hc2
    refine V_skip ?_
    show V _ _ _ _
    refine V_seq ?_
    obtain ⟨y3, hy3, h⟩ := of_bind h
    refine V_sreg [true, false, false, false, false, false, false, false, false, false, false, true, false, false, false, false, false, false, false, false, false, false, false, false, false, false, false, false, false, false, false, false, false, false, false, false, false, false, false, false, false, false, false, false, false, false, false, false, false, false, false, false] [] (s1 := ⟨[I vn1, .bot, .bot, .bot, .bot, .bot, .bot, .bot, .bot, .bot, .bot, Bo (!y3), .bot, .bot, .bot, .bot, .bot, .bot, .bot, .bot, .bot, .bot, .bot, .bot, .bot, .bot, .bot, .bot, .bot, .bot, .bot, .bot, .bot, .bot, .bot, .bot, .bot, .bot, .bot, .bot, .bot, .bot, .bot, .bot, .bot, .bot, .bot, .bot, .bot, .bot, .bot, .bot], []⟩) ?_ ?_
    · refine XL_cons rfl (X_of_Y0 rfl (E_move (I vn1) rfl (by kernel_rfl))) ?_
      refine XL_cons rfl (X_of_Y0 rfl (Y0_neg64 (a := vn1) rfl (by kernel_rfl))) ?_
      refine XL_cons rfl (X_of_Y1 rfl (Y1_call (s_impl_isNegativeDisc hy3) cf_impl_isNegativeDisc rfl (by kernel_rfl))) ?_
      refine XL_cons rfl (X_of_Y0 rfl (Y0_not (b := y3) rfl (by kernel_rfl))) ?_
      refine XL_nil ?_
      kernel_rfl
    refine V_cond rfl (fun hc4 => ?_) (fun hc4 => ?_)
    · have h := of_true h hc4
      refine V_sreg [false, false, true, false, false, false, false, false, false, false, false, false, false, false, false, false, false, false, false, false, false, false, false, false, false, false, false, false, false, false, false, false, false, false, false, false, false, false, false, false, false, false, false, false, false, false, false, false, false, false, false, false] [] (s1 := ⟨[.bot, .bot, I 0, .bot, .bot, .bot, .bot, .bot, .bot, .bot, .bot, .bot, .bot, .bot, .bot, .bot, .bot, .bot, .bot, .bot, .bot, .bot, .bot, .bot, .bot, .bot, .bot, .bot, .bot, .bot, .bot, .bot, .bot, .bot, .bot, .bot, .bot, .bot, .bot, .bot, .bot, .bot, .bot, .bot, .bot, .bot, .bot, .bot, .bot, .bot, .bot, .bot], []⟩) ?_ ?_
      · refine XL_cons rfl (X_of_Y0 rfl (E_assign (I 0) rfl (by kernel_rfl))) ?_
        refine XL_nil ?_
        kernel_rfl
      refine V_ret ?_
      obtain rfl := some_inj h
      show Post _ _ _ _ _
      exact ⟨.inr rfl, rfl, rfl, rfl⟩
    · have h := of_false h hc4
      refine V_skip ?_
      show V _ _ _ _
      refine V_sreg [true, false, false, true, false, false, false, false, false, false, false, false, false, false, false, false, false, false, false, false, false, false, false, false, false, false, false, false, false, false, false, false, false, false, false, false, false, false, false, false, false, false, false, false, false, false, false, false, false, false, false, false] [] (s1 := ⟨[I vn1, .bot, .bot, I 0, .bot, .bot, .bot, .bot, .bot, .bot, .bot, .bot, .bot, .bot, .bot, .bot, .bot, .bot, .bot, .bot, .bot, .bot, .bot, .bot, .bot, .bot, .bot, .bot, .bot, .bot, .bot, .bot, .bot, .bot, .bot, .bot, .bot, .bot, .bot, .bot, .bot, .bot, .bot, .bot, .bot, .bot, .bot, .bot, .bot, .bot, .bot, .bot], []⟩) ?_ ?_
      · refine XL_cons rfl (X_of_Y0 rfl (E_assign (I 0) rfl (by kernel_rfl))) ?_
        refine XL_nil ?_
        kernel_rfl
      refine V_seq ?_
      obtain ⟨y5, hy5, h⟩ := of_bind h
      refine V_sreg [false, false, false, true, false, false, false, false, false, false, false, false, false, false, true, true, true, false, false, false, false, false, false, false, false, false, false, false, false, false, false, false, false, false, false, false, false, false, false, false, false, false, false, false, false, false, false, false, false, false, false, false] [112] (s1 := ⟨[.bot, .bot, .bot, I 0, .bot, .bot, .bot, .bot, .bot, .bot, .bot, .bot, .bot, .bot, .ow 112, I ((y5.length : Int)), I 0, .bot, .bot, .bot, .bot, .bot, .bot, .bot, .bot, .bot, .bot, .bot, .bot, .bot, .bot, .bot, .bot, .bot, .bot, .bot, .bot, .bot, .bot, .bot, .bot, .bot, .bot, .bot, .bot, .bot, .bot, .bot, .bot, .bot, .bot, .bot], [(112, .arr 36 3 (y5.map c36))]⟩) ?_ ?_
      · refine XL_cons rfl (X_of_Y0 rfl (E_move (I vn1) rfl (by kernel_rfl))) ?_
        refine XL_cons rfl (X_of_Y0 rfl (Y0_neg64 (a := vn1) rfl (by kernel_rfl))) ?_
        refine XL_cons rfl (X_of_Y1 rfl (Y1_call (s_impl_allReduced hy5) cf_impl_allReduced rfl (by kernel_rfl))) ?_
        refine XL_cons rfl (X_of_Y0 rfl (Y0_lenM (c := c36) (xs := y5) Try.underlying53 rfl (by kernel_rfl))) ?_
        refine XL_cons rfl (X_of_Y0 rfl (E_move (I 0) rfl (by kernel_rfl))) ?_
        refine XL_nil ?_
        kernel_rfl
      obtain ⟨o9, hLo9, h⟩ := of_bind h
      refine V_toK [false, false, false, true, false, false, false, false, false, false, false, false, false, false, false, false, false, false, false, false, false, false, false, false, false, false, false, false, false, false, false, false, false, false, false, false, false, false, false, false, false, false, false, false, false, false, false, false, false, false, false, false] [] (s1 := ⟨[.bot, .bot, .bot, I o9, .bot, .bot, .bot, .bot, .bot, .bot, .bot, .bot, .bot, .bot, .bot, .bot, .bot, .bot, .bot, .bot, .bot, .bot, .bot, .bot, .bot, .bot, .bot, .bot, .bot, .bot, .bot, .bot, .bot, .bot, .bot, .bot, .bot, .bot, .bot, .bot, .bot, .bot, .bot, .bot, .bot, .bot, .bot, .bot, .bot, .bot, .bot, .bot], []⟩) ?_ ?_
      · clear h
        refine V_block (V_loop (fun n s => ∃ (sum6 : Int) (t7 : Int), s.keep [false, false, false, true, false, false, false, false, false, false, false, false, false, false, true, true, true, false, false, false, false, false, false, false, false, false, false, false, false, false, false, false, false, false, false, false, false, false, false, false, false, false, false, false, false, false, false, false, false, false, false, false] [112] = (⟨[.bot, .bot, .bot, I sum6, .bot, .bot, .bot, .bot, .bot, .bot, .bot, .bot, .bot, .bot, .ow 112, I ((y5.length : Int)), I t7, .bot, .bot, .bot, .bot, .bot, .bot, .bot, .bot, .bot, .bot, .bot, .bot, .bot, .bot, .bot, .bot, .bot, .bot, .bot, .bot, .bot, .bot, .bot, .bot, .bot, .bot, .bot, .bot, .bot, .bot, .bot, .bot, .bot, .bot, .bot], [(112, .arr 36 3 (y5.map c36))]⟩ : St) ∧ r_impl_hurwitz_L8 y5 n sum6 t7 = some o9) FU ⟨_, _,  by rfl, hLo9⟩ ?_)
        clear hLo9
        rintro n s ⟨sum6, t7, hs, h⟩
        refine V_keep _ _ hs ?_
        clear hs
        cases n with
        | zero => cases h
        | succ n =>
          rw [r_impl_hurwitz_L8] at h
          refine V_sreg [false, false, false, true, false, false, false, false, false, false, false, false, false, false, true, true, true, true, false, false, false, false, false, false, false, false, false, false, false, false, false, false, false, false, false, false, false, false, false, false, false, false, false, false, false, false, false, false, false, false, false, false] [112] (s1 := ⟨[.bot, .bot, .bot, I sum6, .bot, .bot, .bot, .bot, .bot, .bot, .bot, .bot, .bot, .bot, .ow 112, I ((y5.length : Int)), I t7, Bo (ltI t7 ((y5.length : Int))), .bot, .bot, .bot, .bot, .bot, .bot, .bot, .bot, .bot, .bot, .bot, .bot, .bot, .bot, .bot, .bot, .bot, .bot, .bot, .bot, .bot, .bot, .bot, .bot, .bot, .bot, .bot, .bot, .bot, .bot, .bot, .bot, .bot, .bot], [(112, .arr 36 3 (y5.map c36))]⟩) ?_ ?_
          · refine XL_cons rfl (X_of_Y0 rfl (Y0_ltw (k := .i64) (a := t7) (b := (y5.length : Int)) rfl (by kernel_rfl) (by kernel_rfl))) ?_
            refine XL_nil ?_
            kernel_rfl
          refine V_seq ?_
          refine V_cond rfl (fun hc10 => ?_) (fun hc10 => ?_)
          · have h := of_true h hc10
            refine V_skip ?_
            show V _ _ _ _
            refine V_seq ?_
            refine V_block ?_
            obtain ⟨e11, he11, h⟩ := of_bind h
            obtain ⟨e12, he12, h⟩ := of_bind h
            refine V_sreg [false, false, false, true, false, true, false, false, false, false, false, false, false, false, true, true, true, false, false, false, false, false, false, false, false, false, false, false, false, false, false, false, false, false, false, false, false, false, false, false, false, false, false, false, false, false, false, false, false, false, false, false] [40, 112] (s1 := ⟨[.bot, .bot, .bot, I sum6, .bot, .pt 40 0, .bot, .bot, .bot, .bot, .bot, .bot, .bot, .bot, .ow 112, I ((y5.length : Int)), I t7, .bot, .bot, .bot, .bot, .bot, .bot, .bot, .bot, .bot, .bot, .bot, .bot, .bot, .bot, .bot, .bot, .bot, .bot, .bot, .bot, .bot, .bot, .bot, .bot, .bot, .bot, .bot, .bot, .bot, .bot, .bot, .bot, .bot, .bot, .bot], [(40, .box [Ti e12.1, Ti e12.2.1, Ti e12.2.2]), (112, .arr 36 3 (y5.map c36))]⟩) ?_ ?_
            · refine XL_cons rfl (X_of_Y0 rfl (Y0_idxoM (c := c36) (xs := y5) (v := e11) (id := 112) (T := 36) (sz := 3) (n := t7) Try.underlying53 sz36 rfl (by kernel_rfl) (by kernel_rfl) (by kernel_rfl) he11)) ?_
              refine XL_cons rfl (X_of_Y0 rfl (E_loadon (c := c36) (xs := y5) (v := e12) (id := 112) (sz := 3) (T := 36) (off := 0) (n := t7) [Ti e12.1, Ti e12.2.1, Ti e12.2.2] wd36 rfl (by kernel_rfl) (by kernel_rfl) he12 (Nat.le_of_ble_eq_true rfl) (by kernel_rfl))) ?_
              refine XL_cons rfl (X_of_Y1 rfl (Y1_alloc (z := zv36) rfl zf36 rfl)) ?_
              refine XL_cons rfl (E_store (id := 40) (off := 0) (cs := [Ti 0, Ti 0, Ti 0]) (vc := [Ti e12.1, Ti e12.2.1, Ti e12.2.2]) [Ti e12.1, Ti e12.2.1, Ti e12.2.2] rfl rfl (by kernel_rfl) (by kernel_rfl) (by kernel_rfl) sz36 (Nat.le_of_ble_eq_true rfl) (by kernel_rfl)) ?_
              refine XL_nil ?_
              kernel_rfl
            refine V_block ?_
            refine V_sreg [false, false, false, true, false, true, false, false, false, false, false, false, false, false, true, true, true, false, false, false, false, false, true, false, false, false, false, false, false, false, false, false, false, false, false, false, false, false, false, false, false, false, false, false, false, false, false, false, false, false, false, false] [40, 112] (s1 := ⟨[.bot, .bot, .bot, I sum6, .bot, .pt 40 0, .bot, .bot, .bot, .bot, .bot, .bot, .bot, .bot, .ow 112, I ((y5.length : Int)), I t7, .bot, .bot, .bot, .bot, .bot, Bo (bif (eqI e12.2.1 0) then (eqI e12.1 e12.2.2) else false), .bot, .bot, .bot, .bot, .bot, .bot, .bot, .bot, .bot, .bot, .bot, .bot, .bot, .bot, .bot, .bot, .bot, .bot, .bot, .bot, .bot, .bot, .bot, .bot, .bot, .bot, .bot, .bot, .bot], [(40, .box [Ti e12.1, Ti e12.2.1, Ti e12.2.2]), (112, .arr 36 3 (y5.map c36))]⟩) ?_ ?_
            · refine XL_cons rfl (X_of_Y0 rfl (E_field (.pt 40 1) Try.underlying36 rfl sz3 rfl (by kernel_rfl) (by intro hh; cases hh))) ?_
              refine XL_cons rfl (X_of_Y0 rfl (Y0_load1 (c := Ti e12.2.1) (cs := [Ti e12.2.2]) sc3 rfl (by kernel_rfl))) ?_
              refine XL_cons rfl (X_of_Y0 rfl (Y0_eqw (k := .i64) (a := e12.2.1) (b := 0) rfl (by kernel_rfl) (by kernel_rfl))) ?_
              refine XL_cons rfl (X_of_Y0 rfl (E_move (Bo (eqI e12.2.1 0)) rfl (by kernel_rfl))) ?_
              refine XL_split (eqI e12.2.1 0) (fun hc13 => ?_) (fun hc13 => ?_)
              · refine XL_takeC (eqI e12.2.1 0) rfl rfl (by kernel_rfl) hc13 (X_of_Y0 rfl (E_field (.pt 40 0) Try.underlying36 rfl sz3 rfl (by kernel_rfl) (by intro hh; cases hh))) ?_
                refine XL_takeC (eqI e12.2.1 0) rfl rfl (by kernel_rfl) hc13 (X_of_Y0 rfl (Y0_load1 (c := Ti e12.1) (cs := [Ti e12.2.1, Ti e12.2.2]) sc3 rfl (by kernel_rfl))) ?_
                refine XL_takeC (eqI e12.2.1 0) rfl rfl (by kernel_rfl) hc13 (X_of_Y0 rfl (E_field (.pt 40 2) Try.underlying36 rfl sz3 rfl (by kernel_rfl) (by intro hh; cases hh))) ?_
                refine XL_takeC (eqI e12.2.1 0) rfl rfl (by kernel_rfl) hc13 (X_of_Y0 rfl (Y0_load1 (c := Ti e12.2.2) (cs := []) sc3 rfl (by kernel_rfl))) ?_
                refine XL_takeC (eqI e12.2.1 0) rfl rfl (by kernel_rfl) hc13 (X_of_Y0 rfl (Y0_eqw (k := .i64) (a := e12.1) (b := e12.2.2) rfl (by kernel_rfl) (by kernel_rfl))) ?_
                refine XL_cons rfl (X_of_Y0 rfl (Y0_pick1 (b := eqI e12.2.1 0) (p := eqI e12.1 e12.2.2) (q := false) rfl (by kernel_rfl) hc13 (by kernel_rfl))) ?_
                refine XL_cons rfl (X_of_Y0 rfl (E_assign (Bo (bif (eqI e12.2.1 0) then (eqI e12.1 e12.2.2) else false)) rfl (by kernel_rfl))) ?_
                refine XL_nil ?_
                kernel_rfl
              · refine XL_skipT (eqI e12.2.1 0) rfl rfl (by kernel_rfl) hc13 rfl ?_
                refine XL_skipT (eqI e12.2.1 0) rfl rfl (by kernel_rfl) hc13 rfl ?_
                refine XL_skipT (eqI e12.2.1 0) rfl rfl (by kernel_rfl) hc13 rfl ?_
                refine XL_skipT (eqI e12.2.1 0) rfl rfl (by kernel_rfl) hc13 rfl ?_
                refine XL_skipT (eqI e12.2.1 0) rfl rfl (by kernel_rfl) hc13 rfl ?_
                refine XL_cons rfl (X_of_Y0 rfl (Y0_pick0 (b := eqI e12.2.1 0) (p := eqI e12.1 e12.2.2) (q := false) rfl (by kernel_rfl) hc13 (by kernel_rfl))) ?_
                refine XL_cons rfl (X_of_Y0 rfl (E_assign (Bo (bif (eqI e12.2.1 0) then (eqI e12.1 e12.2.2) else false)) rfl (by kernel_rfl))) ?_
                refine XL_nil ?_
                kernel_rfl
            refine V_cond rfl (fun hc14 => ?_) (fun hc14 => ?_)
            · have h := of_true h hc14
              obtain ⟨sum15, hsum15, h⟩ := of_sI h
              refine V_reg [false, false, false, true, false, false, false, false, false, false, false, false, false, false, true, true, true, false, false, false, false, false, false, false, false, false, false, false, false, false, false, false, false, false, false, false, false, false, false, false, false, false, false, false, false, false, false, false, false, false, false, false] [112] (s1 := ⟨[.bot, .bot, .bot, I sum15, .bot, .bot, .bot, .bot, .bot, .bot, .bot, .bot, .bot, .bot, .ow 112, I ((y5.length : Int)), I t7, .bot, .bot, .bot, .bot, .bot, .bot, .bot, .bot, .bot, .bot, .bot, .bot, .bot, .bot, .bot, .bot, .bot, .bot, .bot, .bot, .bot, .bot, .bot, .bot, .bot, .bot, .bot, .bot, .bot, .bot, .bot, .bot, .bot, .bot, .bot], [(112, .arr 36 3 (y5.map c36))]⟩) ?_ ?_
              · refine XL_cons rfl (X_of_Y0 rfl (E_move (I sum6) rfl (by kernel_rfl))) ?_
                refine XL_cons rfl (X_of_Y0 rfl (Y0_add64 (a := sum6) (b := 6) rfl (by kernel_rfl) (by kernel_rfl))) ?_
                refine XL_cons rfl (X_of_Y0 rfl (E_assign (I (w64 (sum6 + 6))) rfl (by kernel_rfl))) ?_
                refine XL_nil ?_
                subst hsum15
                kernel_rfl
              show V _ _ _ _
              obtain ⟨t16, ht16, h⟩ := of_sI h
              refine V_reg [false, false, false, true, false, false, false, false, false, false, false, false, false, false, true, true, true, false, false, false, false, false, false, false, false, false, false, false, false, false, false, false, false, false, false, false, false, false, false, false, false, false, false, false, false, false, false, false, false, false, false, false] [112] (s1 := ⟨[.bot, .bot, .bot, I sum15, .bot, .bot, .bot, .bot, .bot, .bot, .bot, .bot, .bot, .bot, .ow 112, I ((y5.length : Int)), I t16, .bot, .bot, .bot, .bot, .bot, .bot, .bot, .bot, .bot, .bot, .bot, .bot, .bot, .bot, .bot, .bot, .bot, .bot, .bot, .bot, .bot, .bot, .bot, .bot, .bot, .bot, .bot, .bot, .bot, .bot, .bot, .bot, .bot, .bot, .bot], [(112, .arr 36 3 (y5.map c36))]⟩) ?_ ?_
              · refine XL_cons rfl (X_of_Y0 rfl (Y0_add64 (a := t7) (b := 1) rfl (by kernel_rfl) (by kernel_rfl))) ?_
                refine XL_cons rfl (X_of_Y0 rfl (E_move (I (w64 (t7 + 1))) rfl (by kernel_rfl))) ?_
                refine XL_nil ?_
                subst ht16
                kernel_rfl
              exact ⟨n, Nat.lt_succ_self n, _, _,  by rfl, h⟩
            · have h := of_false h hc14
              refine V_sreg [false, false, false, true, false, false, false, false, false, false, false, false, false, false, true, true, true, false, false, false, false, false, false, false, false, false, false, false, false, false, false, false, false, false, false, true, false, false, false, false, false, false, false, false, false, false, false, false, false, false, false, false] [112] (s1 := ⟨[.bot, .bot, .bot, I sum6, .bot, .bot, .bot, .bot, .bot, .bot, .bot, .bot, .bot, .bot, .ow 112, I ((y5.length : Int)), I t7, .bot, .bot, .bot, .bot, .bot, .bot, .bot, .bot, .bot, .bot, .bot, .bot, .bot, .bot, .bot, .bot, .bot, .bot, Bo (bif (eqI e12.1 e12.2.1) then (eqI e12.1 e12.2.2) else false), .bot, .bot, .bot, .bot, .bot, .bot, .bot, .bot, .bot, .bot, .bot, .bot, .bot, .bot, .bot, .bot], [(112, .arr 36 3 (y5.map c36))]⟩) ?_ ?_
              · refine XL_cons rfl (X_of_Y0 rfl (E_field (.pt 40 0) Try.underlying36 rfl sz3 rfl (by kernel_rfl) (by intro hh; cases hh))) ?_
                refine XL_cons rfl (X_of_Y0 rfl (Y0_load1 (c := Ti e12.1) (cs := [Ti e12.2.1, Ti e12.2.2]) sc3 rfl (by kernel_rfl))) ?_
                refine XL_cons rfl (X_of_Y0 rfl (E_field (.pt 40 1) Try.underlying36 rfl sz3 rfl (by kernel_rfl) (by intro hh; cases hh))) ?_
                refine XL_cons rfl (X_of_Y0 rfl (Y0_load1 (c := Ti e12.2.1) (cs := [Ti e12.2.2]) sc3 rfl (by kernel_rfl))) ?_
                refine XL_cons rfl (X_of_Y0 rfl (Y0_eqw (k := .i64) (a := e12.1) (b := e12.2.1) rfl (by kernel_rfl) (by kernel_rfl))) ?_
                refine XL_cons rfl (X_of_Y0 rfl (E_move (Bo (eqI e12.1 e12.2.1)) rfl (by kernel_rfl))) ?_
                refine XL_split (eqI e12.1 e12.2.1) (fun hc17 => ?_) (fun hc17 => ?_)
                · refine XL_takeC (eqI e12.1 e12.2.1) rfl rfl (by kernel_rfl) hc17 (X_of_Y0 rfl (E_field (.pt 40 0) Try.underlying36 rfl sz3 rfl (by kernel_rfl) (by intro hh; cases hh))) ?_
                  refine XL_takeC (eqI e12.1 e12.2.1) rfl rfl (by kernel_rfl) hc17 (X_of_Y0 rfl (Y0_load1 (c := Ti e12.1) (cs := [Ti e12.2.1, Ti e12.2.2]) sc3 rfl (by kernel_rfl))) ?_
                  refine XL_takeC (eqI e12.1 e12.2.1) rfl rfl (by kernel_rfl) hc17 (X_of_Y0 rfl (E_field (.pt 40 2) Try.underlying36 rfl sz3 rfl (by kernel_rfl) (by intro hh; cases hh))) ?_
                  refine XL_takeC (eqI e12.1 e12.2.1) rfl rfl (by kernel_rfl) hc17 (X_of_Y0 rfl (Y0_load1 (c := Ti e12.2.2) (cs := []) sc3 rfl (by kernel_rfl))) ?_
                  refine XL_takeC (eqI e12.1 e12.2.1) rfl rfl (by kernel_rfl) hc17 (X_of_Y0 rfl (Y0_eqw (k := .i64) (a := e12.1) (b := e12.2.2) rfl (by kernel_rfl) (by kernel_rfl))) ?_
                  refine XL_cons rfl (X_of_Y0 rfl (Y0_pick1 (b := eqI e12.1 e12.2.1) (p := eqI e12.1 e12.2.2) (q := false) rfl (by kernel_rfl) hc17 (by kernel_rfl))) ?_
                  refine XL_cons rfl (X_of_Y0 rfl (E_assign (Bo (bif (eqI e12.1 e12.2.1) then (eqI e12.1 e12.2.2) else false)) rfl (by kernel_rfl))) ?_
                  refine XL_nil ?_
                  kernel_rfl
                · refine XL_skipT (eqI e12.1 e12.2.1) rfl rfl (by kernel_rfl) hc17 rfl ?_
                  refine XL_skipT (eqI e12.1 e12.2.1) rfl rfl (by kernel_rfl) hc17 rfl ?_
                  refine XL_skipT (eqI e12.1 e12.2.1) rfl rfl (by kernel_rfl) hc17 rfl ?_
                  refine XL_skipT (eqI e12.1 e12.2.1) rfl rfl (by kernel_rfl) hc17 rfl ?_
                  refine XL_skipT (eqI e12.1 e12.2.1) rfl rfl (by kernel_rfl) hc17 rfl ?_
                  refine XL_cons rfl (X_of_Y0 rfl (Y0_pick0 (b := eqI e12.1 e12.2.1) (p := eqI e12.1 e12.2.2) (q := false) rfl (by kernel_rfl) hc17 (by kernel_rfl))) ?_
                  refine XL_cons rfl (X_of_Y0 rfl (E_assign (Bo (bif (eqI e12.1 e12.2.1) then (eqI e12.1 e12.2.2) else false)) rfl (by kernel_rfl))) ?_
                  refine XL_nil ?_
                  kernel_rfl
              refine V_cond rfl (fun hc18 => ?_) (fun hc18 => ?_)
              · have h := of_true h hc18
                obtain ⟨sum19, hsum19, h⟩ := of_sI h
                refine V_reg [false, false, false, true, false, false, false, false, false, false, false, false, false, false, true, true, true, false, false, false, false, false, false, false, false, false, false, false, false, false, false, false, false, false, false, false, false, false, false, false, false, false, false, false, false, false, false, false, false, false, false, false] [112] (s1 := ⟨[.bot, .bot, .bot, I sum19, .bot, .bot, .bot, .bot, .bot, .bot, .bot, .bot, .bot, .bot, .ow 112, I ((y5.length : Int)), I t7, .bot, .bot, .bot, .bot, .bot, .bot, .bot, .bot, .bot, .bot, .bot, .bot, .bot, .bot, .bot, .bot, .bot, .bot, .bot, .bot, .bot, .bot, .bot, .bot, .bot, .bot, .bot, .bot, .bot, .bot, .bot, .bot, .bot, .bot, .bot], [(112, .arr 36 3 (y5.map c36))]⟩) ?_ ?_
                · refine XL_cons rfl (X_of_Y0 rfl (E_move (I sum6) rfl (by kernel_rfl))) ?_
                  refine XL_cons rfl (X_of_Y0 rfl (Y0_add64 (a := sum6) (b := 4) rfl (by kernel_rfl) (by kernel_rfl))) ?_
                  refine XL_cons rfl (X_of_Y0 rfl (E_assign (I (w64 (sum6 + 4))) rfl (by kernel_rfl))) ?_
                  refine XL_nil ?_
                  subst hsum19
                  kernel_rfl
                show V _ _ _ _
                obtain ⟨t20, ht20, h⟩ := of_sI h
                refine V_reg [false, false, false, true, false, false, false, false, false, false, false, false, false, false, true, true, true, false, false, false, false, false, false, false, false, false, false, false, false, false, false, false, false, false, false, false, false, false, false, false, false, false, false, false, false, false, false, false, false, false, false, false] [112] (s1 := ⟨[.bot, .bot, .bot, I sum19, .bot, .bot, .bot, .bot, .bot, .bot, .bot, .bot, .bot, .bot, .ow 112, I ((y5.length : Int)), I t20, .bot, .bot, .bot, .bot, .bot, .bot, .bot, .bot, .bot, .bot, .bot, .bot, .bot, .bot, .bot, .bot, .bot, .bot, .bot, .bot, .bot, .bot, .bot, .bot, .bot, .bot, .bot, .bot, .bot, .bot, .bot, .bot, .bot, .bot, .bot], [(112, .arr 36 3 (y5.map c36))]⟩) ?_ ?_
                · refine XL_cons rfl (X_of_Y0 rfl (Y0_add64 (a := t7) (b := 1) rfl (by kernel_rfl) (by kernel_rfl))) ?_
                  refine XL_cons rfl (X_of_Y0 rfl (E_move (I (w64 (t7 + 1))) rfl (by kernel_rfl))) ?_
                  refine XL_nil ?_
                  subst ht20
                  kernel_rfl
                exact ⟨n, Nat.lt_succ_self n, _, _,  by rfl, h⟩
              · have h := of_false h hc18
                obtain ⟨sum21, hsum21, h⟩ := of_sI h
                refine V_reg [false, false, false, true, false, false, false, false, false, false, false, false, false, false, true, true, true, false, false, false, false, false, false, false, false, false, false, false, false, false, false, false, false, false, false, false, false, false, false, false, false, false, false, false, false, false, false, false, false, false, false, false] [112] (s1 := ⟨[.bot, .bot, .bot, I sum21, .bot, .bot, .bot, .bot, .bot, .bot, .bot, .bot, .bot, .bot, .ow 112, I ((y5.length : Int)), I t7, .bot, .bot, .bot, .bot, .bot, .bot, .bot, .bot, .bot, .bot, .bot, .bot, .bot, .bot, .bot, .bot, .bot, .bot, .bot, .bot, .bot, .bot, .bot, .bot, .bot, .bot, .bot, .bot, .bot, .bot, .bot, .bot, .bot, .bot, .bot], [(112, .arr 36 3 (y5.map c36))]⟩) ?_ ?_
                · refine XL_cons rfl (X_of_Y0 rfl (E_move (I sum6) rfl (by kernel_rfl))) ?_
                  refine XL_cons rfl (X_of_Y0 rfl (Y0_add64 (a := sum6) (b := 12) rfl (by kernel_rfl) (by kernel_rfl))) ?_
                  refine XL_cons rfl (X_of_Y0 rfl (E_assign (I (w64 (sum6 + 12))) rfl (by kernel_rfl))) ?_
                  refine XL_nil ?_
                  subst hsum21
                  kernel_rfl
                show V _ _ _ _
                obtain ⟨t22, ht22, h⟩ := of_sI h
                refine V_reg [false, false, false, true, false, false, false, false, false, false, false, false, false, false, true, true, true, false, false, false, false, false, false, false, false, false, false, false, false, false, false, false, false, false, false, false, false, false, false, false, false, false, false, false, false, false, false, false, false, false, false, false] [112] (s1 := ⟨[.bot, .bot, .bot, I sum21, .bot, .bot, .bot, .bot, .bot, .bot, .bot, .bot, .bot, .bot, .ow 112, I ((y5.length : Int)), I t22, .bot, .bot, .bot, .bot, .bot, .bot, .bot, .bot, .bot, .bot, .bot, .bot, .bot, .bot, .bot, .bot, .bot, .bot, .bot, .bot, .bot, .bot, .bot, .bot, .bot, .bot, .bot, .bot, .bot, .bot, .bot, .bot, .bot, .bot, .bot], [(112, .arr 36 3 (y5.map c36))]⟩) ?_ ?_
                · refine XL_cons rfl (X_of_Y0 rfl (Y0_add64 (a := t7) (b := 1) rfl (by kernel_rfl) (by kernel_rfl))) ?_
                  refine XL_cons rfl (X_of_Y0 rfl (E_move (I (w64 (t7 + 1))) rfl (by kernel_rfl))) ?_
                  refine XL_nil ?_
                  subst ht22
                  kernel_rfl
                exact ⟨n, Nat.lt_succ_self n, _, _,  by rfl, h⟩
          · have h := of_false h hc10
            refine V_exit ?_
            obtain rfl := some_inj h
            show St.keep _ _ _ = _
            rfl
      show V _ _ _ _
      refine V_sreg [false, false, true, false, false, false, false, false, false, false, false, false, false, false, false, false, false, false, false, false, false, false, false, false, false, false, false, false, false, false, false, false, false, false, false, false, false, false, false, false, false, false, false, false, false, false, false, false, false, false, false, false] [] (s1 := ⟨[.bot, .bot, I o9, .bot, .bot, .bot, .bot, .bot, .bot, .bot, .bot, .bot, .bot, .bot, .bot, .bot, .bot, .bot, .bot, .bot, .bot, .bot, .bot, .bot, .bot, .bot, .bot, .bot, .bot, .bot, .bot, .bot, .bot, .bot, .bot, .bot, .bot, .bot, .bot, .bot, .bot, .bot, .bot, .bot, .bot, .bot, .bot, .bot, .bot, .bot, .bot, .bot], []⟩) ?_ ?_
      · refine XL_cons rfl (X_of_Y0 rfl (E_move (I o9) rfl (by kernel_rfl))) ?_
        refine XL_cons rfl (X_of_Y0 rfl (E_assign (I o9) rfl (by kernel_rfl))) ?_
        refine XL_nil ?_
        kernel_rfl
      refine V_ret ?_
      obtain rfl := some_inj h
      show Post _ _ _ _ _
      exact ⟨.inr rfl, rfl, rfl, rfl⟩
theorem cf_impl_HurwitzNumber : ∀ args w, (callFunc 29 args).run Try.prog w = .ok (.enter 29 args) w := run_callFunc Try.func29 (by kernel_rfl) (by kernel_rfl)
set_option maxRecDepth 100000 in
set_option maxHeartbeats 400000 in
theorem s_impl_HurwitzNumber {vn1 : Int} {r : (Int × Bool)} (h : r_impl_HurwitzNumber vn1 = some r) : CallS Try.prog 29 [I vn1] (.tc (I r.1) (.tc (Bo r.2) .tn)) [] := by
  refine CallS_of_text (rs := [.t 2, .t 3]) (vs := [.tmp 2, .tmp 3]) Try.func29 rfl rfl (.cons rfl (.cons rfl FitsL.nil)) (by decide) 12 rfl ?_
  unfold r_impl_HurwitzNumber at h
  show V _ _ ⟨[I vn1, .bot, .bot, .bot, .bot, .bot, .bot, .bot, .bot, .bot, .bot, .bot], []⟩ _
  refine V_sreg [true, false, false, false, false, false, false, false, false, false, false, false] [] (s1 := ⟨[I vn1, .bot, .bot, .bot, .bot, .bot, .bot, .bot, .bot, .bot, .bot, .bot], []⟩) ?_ ?_
  · refine XL_cons rfl (X_of_Y0 rfl (E_assign (I 0) rfl (by kernel_rfl))) ?_
    refine XL_cons rfl (X_of_Y0 rfl (E_assign (Bo false) rfl (by kernel_rfl))) ?_
    refine XL_nil ?_
    kernel_rfl
  refine V_seq ?_
  refine V_sreg [true, false, false, false, false, false, false, false, false, true, false, false] [] (s1 := ⟨[I vn1, .bot, .bot, .bot, .bot, .bot, .bot, .bot, .bot, Bo (bif (ltI vn1 0) then true else (ltI 2000 vn1)), .bot, .bot], []⟩) ?_ ?_
  · refine XL_cons rfl (X_of_Y0 rfl (E_move (I vn1) rfl (by kernel_rfl))) ?_
    refine XL_cons rfl (X_of_Y0 rfl (Y0_ltw (k := .i64) (a := vn1) (b := 0) rfl (by kernel_rfl) (by kernel_rfl))) ?_
    refine XL_cons rfl (X_of_Y0 rfl (E_move (Bo (ltI vn1 0)) rfl (by kernel_rfl))) ?_
    refine XL_split (ltI vn1 0) (fun hc2 => ?_) (fun hc2 => ?_)
    · refine XL_skipF (ltI vn1 0) rfl rfl (by kernel_rfl) hc2 rfl ?_
      refine XL_skipF (ltI vn1 0) rfl rfl (by kernel_rfl) hc2 rfl ?_
      refine XL_cons rfl (X_of_Y0 rfl (Y0_pick1 (b := ltI vn1 0) (p := true) (q := ltI 2000 vn1) rfl (by kernel_rfl) hc2 (by kernel_rfl))) ?_
      refine XL_nil ?_
      kernel_rfl
    · refine XL_takeC (ltI vn1 0) rfl rfl (by kernel_rfl) hc2 (X_of_Y0 rfl (E_move (I vn1) rfl (by kernel_rfl))) ?_
      refine XL_takeC (ltI vn1 0) rfl rfl (by kernel_rfl) hc2 (X_of_Y0 rfl (Y0_gtw (k := .i64) (a := vn1) (b := 2000) rfl (by kernel_rfl) (by kernel_rfl))) ?_
      refine XL_cons rfl (X_of_Y0 rfl (Y0_pick0 (b := ltI vn1 0) (p := true) (q := ltI 2000 vn1) rfl (by kernel_rfl) hc2 (by kernel_rfl))) ?_
      refine XL_nil ?_
      kernel_rfl
  refine V_cond rfl (fun hc3 => ?_) (fun hc3 => ?_)
  · have h := of_true h hc3
    refine V_sreg [false, false, true, true, false, false, false, false, false, false, false, false] [] (s1 := ⟨[.bot, .bot, I 0, Bo false, .bot, .bot, .bot, .bot, .bot, .bot, .bot, .bot], []⟩) ?_ ?_
    · refine XL_cons rfl (X_of_Y0 rfl (E_assign (I 0) rfl (by kernel_rfl))) ?_
      refine XL_cons rfl (X_of_Y0 rfl (E_assign (Bo false) rfl (by kernel_rfl))) ?_
      refine XL_nil ?_
      kernel_rfl
    refine V_ret ?_
    obtain rfl := some_inj h
    show Post _ _ _ _ _
    exact ⟨.inr rfl, rfl, rfl, rfl⟩
  · have h := of_false h hc3
    refine V_skip ?_
    show V _ _ _ _
    obtain ⟨y4, hy4, h⟩ := of_bind h
    refine V_sreg [false, false, true, true, false, false, false, false, false, false, false, false] [] (s1 := ⟨[.bot, .bot, I y4, Bo true, .bot, .bot, .bot, .bot, .bot, .bot, .bot, .bot], []⟩) ?_ ?_
    · refine XL_cons rfl (X_of_Y0 rfl (E_move (I vn1) rfl (by kernel_rfl))) ?_
      refine XL_cons rfl (X_of_Y1 rfl (Y1_call (s_impl_hurwitz hy4) cf_impl_hurwitz rfl (by kernel_rfl))) ?_
      refine XL_cons rfl (X_of_Y0 rfl (E_assign (I y4) rfl (by kernel_rfl))) ?_
      refine XL_cons rfl (X_of_Y0 rfl (E_assign (Bo true) rfl (by kernel_rfl))) ?_
      refine XL_nil ?_
      kernel_rfl
    refine V_ret ?_
    obtain rfl := some_inj h
    show Post _ _ _ _ _
    exact ⟨.inr rfl, rfl, rfl, rfl⟩
end Go.Proofs.Ytdffhgibkeifmaa
