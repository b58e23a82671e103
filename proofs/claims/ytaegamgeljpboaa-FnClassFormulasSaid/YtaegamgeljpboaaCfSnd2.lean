/-
  The functions of the program compute what the plain functions say: more of them.
  Conditions: none.
-/
import Derived.Test.YtaegamgeljpboaaCfSnd1
namespace Go.Proofs.Ytaegamgeljpboaa
open Go.RowKit
set_option linter.unusedVariables false
set_option linter.unusedSimpArgs false
theorem cf_spec_reUnits : ∀ args w, (callFunc 64 args).run Try.prog w = .ok (.enter 64 args) w := run_callFunc Try.func64 (by kernel_rfl) (by kernel_rfl)
set_option maxRecDepth 100000 in
set_option maxHeartbeats 400000 in
theorem s_spec_reUnits {d1 : Int} {r : Int} (h : r_spec_reUnits d1 = some r) : CallS Try.prog 64 [I d1] (I r) [] := by
  refine CallS_of_text (rs := [.t 2]) (vs := [.tmp 2]) Try.func64 rfl rfl (.cons rfl FitsL.nil) (by decide) 8 rfl ?_
  unfold r_spec_reUnits at h
  show V _ _ ⟨[I d1, .bot, .bot, .bot, .bot, .bot, .bot, .bot], []⟩ _
  refine V_sreg [true, false, false, false, false, false, false, false] [] (s1 := ⟨[I d1, .bot, .bot, .bot, .bot, .bot, .bot, .bot], []⟩) ?_ ?_
  · refine XL_cons rfl (X_of_Y0 rfl (E_assign (I 0) rfl (by kernel_rfl))) ?_
    refine XL_nil ?_
    kernel_rfl
  refine V_seq ?_
  refine V_sreg [false, false, false, true, false, false, false, false] [] (s1 := ⟨[.bot, .bot, .bot, I d1, .bot, .bot, .bot, .bot], []⟩) ?_ ?_
  · refine XL_cons rfl (X_of_Y0 rfl (E_move (I d1) rfl (by kernel_rfl))) ?_
    refine XL_nil ?_
    kernel_rfl
  refine V_block ?_
  refine V_sreg [false, false, false, true, true, false, false, false] [] (s1 := ⟨[.bot, .bot, .bot, I d1, Bo (eqI d1 (-3)), .bot, .bot, .bot], []⟩) ?_ ?_
  · refine XL_cons rfl (X_of_Y0 rfl (Y0_eqw (k := .i64) (a := d1) (b := -3) rfl (by kernel_rfl) (by kernel_rfl))) ?_
    refine XL_cons rfl (X_of_Y0 rfl (E_assign (Bo (eqI d1 (-3))) rfl (by kernel_rfl))) ?_
    refine XL_nil ?_
    kernel_rfl
  refine V_cond rfl (fun hc2 => ?_) (fun hc2 => ?_)
  · have h := of_true h hc2
    refine V_sreg [false, false, true, false, false, false, false, false] [] (s1 := ⟨[.bot, .bot, I 6, .bot, .bot, .bot, .bot, .bot], []⟩) ?_ ?_
    · refine XL_cons rfl (X_of_Y0 rfl (E_assign (I 6) rfl (by kernel_rfl))) ?_
      refine XL_nil ?_
      kernel_rfl
    refine V_ret ?_
    obtain rfl := some_inj h
    show Post _ _ _ _ _
    exact ⟨.inr rfl, rfl, rfl, rfl⟩
  · have h := of_false h hc2
    refine V_sreg [false, false, false, false, false, false, true, false] [] (s1 := ⟨[.bot, .bot, .bot, .bot, .bot, .bot, Bo (eqI d1 (-4)), .bot], []⟩) ?_ ?_
    · refine XL_cons rfl (X_of_Y0 rfl (Y0_eqw (k := .i64) (a := d1) (b := -4) rfl (by kernel_rfl) (by kernel_rfl))) ?_
      refine XL_cons rfl (X_of_Y0 rfl (E_assign (Bo (eqI d1 (-4))) rfl (by kernel_rfl))) ?_
      refine XL_nil ?_
      kernel_rfl
    refine V_cond rfl (fun hc3 => ?_) (fun hc3 => ?_)
    · have h := of_true h hc3
      refine V_sreg [false, false, true, false, false, false, false, false] [] (s1 := ⟨[.bot, .bot, I 4, .bot, .bot, .bot, .bot, .bot], []⟩) ?_ ?_
      · refine XL_cons rfl (X_of_Y0 rfl (E_assign (I 4) rfl (by kernel_rfl))) ?_
        refine XL_nil ?_
        kernel_rfl
      refine V_ret ?_
      obtain rfl := some_inj h
      show Post _ _ _ _ _
      exact ⟨.inr rfl, rfl, rfl, rfl⟩
    · have h := of_false h hc3
      refine V_skip ?_
      show V _ _ _ _
      refine V_sreg [false, false, true, false, false, false, false, false] [] (s1 := ⟨[.bot, .bot, I 2, .bot, .bot, .bot, .bot, .bot], []⟩) ?_ ?_
      · refine XL_cons rfl (X_of_Y0 rfl (E_assign (I 2) rfl (by kernel_rfl))) ?_
        refine XL_nil ?_
        kernel_rfl
      refine V_ret ?_
      obtain rfl := some_inj h
      show Post _ _ _ _ _
      exact ⟨.inr rfl, rfl, rfl, rfl⟩
theorem cf_spec_ClassNumberBySum : ∀ args w, (callFunc 11 args).run Try.prog w = .ok (.enter 11 args) w := run_callFunc Try.func11 (by kernel_rfl) (by kernel_rfl)
set_option maxRecDepth 100000 in
set_option maxHeartbeats 400000 in
theorem s_spec_ClassNumberBySum {d1 : Int} {r : (Int × Bool)} (h : r_spec_ClassNumberBySum d1 = some r) : CallS Try.prog 11 [I d1] (.tc (I r.1) (.tc (Bo r.2) .tn)) [] := by
  refine CallS_of_text (rs := [.t 2, .t 3]) (vs := [.tmp 2, .tmp 3]) Try.func11 rfl rfl (.cons rfl (.cons rfl FitsL.nil)) (by decide) 29 rfl ?_
  unfold r_spec_ClassNumberBySum at h
  show V _ _ ⟨[I d1, .bot, .bot, .bot, .bot, .bot, .bot, .bot, .bot, .bot, .bot, .bot, .bot, .bot, .bot, .bot, .bot, .bot, .bot, .bot, .bot, .bot, .bot, .bot, .bot, .bot, .bot, .bot, .bot], []⟩ _
  refine V_sreg [true, false, false, false, false, false, false, false, false, false, false, false, false, false, false, false, false, false, false, false, false, false, false, false, false, false, false, false, false] [] (s1 := ⟨[I d1, .bot, .bot, .bot, .bot, .bot, .bot, .bot, .bot, .bot, .bot, .bot, .bot, .bot, .bot, .bot, .bot, .bot, .bot, .bot, .bot, .bot, .bot, .bot, .bot, .bot, .bot, .bot, .bot], []⟩) ?_ ?_
  · refine XL_cons rfl (X_of_Y0 rfl (E_assign (I 0) rfl (by kernel_rfl))) ?_
    refine XL_cons rfl (X_of_Y0 rfl (E_assign (Bo false) rfl (by kernel_rfl))) ?_
    refine XL_nil ?_
    kernel_rfl
  refine V_seq ?_
  obtain ⟨y2, hy2, h⟩ := of_bind h
  refine V_sreg [true, false, false, false, false, false, false, false, true, false, false, false, false, false, false, false, false, false, false, false, false, false, false, false, false, false, false, false, false] [] (s1 := ⟨[I d1, .bot, .bot, .bot, .bot, .bot, .bot, .bot, Bo (!y2), .bot, .bot, .bot, .bot, .bot, .bot, .bot, .bot, .bot, .bot, .bot, .bot, .bot, .bot, .bot, .bot, .bot, .bot, .bot, .bot], []⟩) ?_ ?_
  · refine XL_cons rfl (X_of_Y0 rfl (E_move (I d1) rfl (by kernel_rfl))) ?_
    refine XL_cons rfl (X_of_Y1 rfl (Y1_call (s_spec_huFundamental hy2) cf_spec_huFundamental rfl (by kernel_rfl))) ?_
    refine XL_cons rfl (X_of_Y0 rfl (Y0_not (b := y2) rfl (by kernel_rfl))) ?_
    refine XL_nil ?_
    kernel_rfl
  refine V_cond rfl (fun hc3 => ?_) (fun hc3 => ?_)
  · have h := of_true h hc3
    refine V_sreg [false, false, true, true, false, false, false, false, false, false, false, false, false, false, false, false, false, false, false, false, false, false, false, false, false, false, false, false, false] [] (s1 := ⟨[.bot, .bot, I 0, Bo false, .bot, .bot, .bot, .bot, .bot, .bot, .bot, .bot, .bot, .bot, .bot, .bot, .bot, .bot, .bot, .bot, .bot, .bot, .bot, .bot, .bot, .bot, .bot, .bot, .bot], []⟩) ?_ ?_
    · refine XL_cons rfl (X_of_Y0 rfl (E_assign (I 0) rfl (by kernel_rfl))) ?_
      refine XL_cons rfl (X_of_Y0 rfl (E_assign (Bo false) rfl (by kernel_rfl))) ?_
      refine XL_nil ?_
      kernel_rfl
    refine V_ret ?_
    obtain rfl := some_inj h
    show Post _ _ _ _ _
    exact ⟨.inr rfl, rfl, rfl, rfl⟩
  · have h := of_false h hc3
    refine V_skip ?_
    show V _ _ _ _
    refine V_sreg [true, false, false, false, true, false, false, false, false, false, false, false, false, false, false, false, false, false, false, false, false, false, false, false, false, false, false, false, false] [] (s1 := ⟨[I d1, .bot, .bot, .bot, I 0, .bot, .bot, .bot, .bot, .bot, .bot, .bot, .bot, .bot, .bot, .bot, .bot, .bot, .bot, .bot, .bot, .bot, .bot, .bot, .bot, .bot, .bot, .bot, .bot], []⟩) ?_ ?_
    · refine XL_cons rfl (X_of_Y0 rfl (E_assign (I 0) rfl (by kernel_rfl))) ?_
      refine XL_nil ?_
      kernel_rfl
    refine V_seq ?_
    refine V_sreg [true, false, false, false, true, true, false, false, false, false, false, false, false, false, false, false, false, false, false, false, false, false, false, false, false, false, false, false, false] [] (s1 := ⟨[I d1, .bot, .bot, .bot, I 0, I 1, .bot, .bot, .bot, .bot, .bot, .bot, .bot, .bot, .bot, .bot, .bot, .bot, .bot, .bot, .bot, .bot, .bot, .bot, .bot, .bot, .bot, .bot, .bot], []⟩) ?_ ?_
    · refine XL_cons rfl (X_of_Y0 rfl (E_assign (I 1) rfl (by kernel_rfl))) ?_
      refine XL_nil ?_
      kernel_rfl
    obtain ⟨o7, hLo7, h⟩ := of_bind h
    refine V_toK [true, false, false, false, true, false, false, false, false, false, false, false, false, false, false, false, false, false, false, false, false, false, false, false, false, false, false, false, false] [] (s1 := ⟨[I d1, .bot, .bot, .bot, I o7, .bot, .bot, .bot, .bot, .bot, .bot, .bot, .bot, .bot, .bot, .bot, .bot, .bot, .bot, .bot, .bot, .bot, .bot, .bot, .bot, .bot, .bot, .bot, .bot], []⟩) ?_ ?_
    · clear h
      refine V_block (V_loop (fun n s => ∃ (sum4 : Int) (k5 : Int), s.keep [true, false, false, false, true, true, false, false, false, false, false, false, false, false, false, false, false, false, false, false, false, false, false, false, false, false, false, false, false] [] = (⟨[I d1, .bot, .bot, .bot, I sum4, I k5, .bot, .bot, .bot, .bot, .bot, .bot, .bot, .bot, .bot, .bot, .bot, .bot, .bot, .bot, .bot, .bot, .bot, .bot, .bot, .bot, .bot, .bot, .bot], []⟩ : St) ∧ r_spec_ClassNumberBySum_L6 d1 n sum4 k5 = some o7) FU ⟨_, _,  by rfl, hLo7⟩ ?_)
      clear hLo7
      rintro n s ⟨sum4, k5, hs, h⟩
      refine V_keep _ _ hs ?_
      clear hs
      cases n with
      | zero => cases h
      | succ n =>
        rw [r_spec_ClassNumberBySum_L6] at h
        refine V_seq ?_
        refine V_sreg [true, false, false, false, true, true, false, false, false, false, false, false, true, false, false, false, false, false, false, false, false, false, false, false, false, false, false, false, false] [] (s1 := ⟨[I d1, .bot, .bot, .bot, I sum4, I k5, .bot, .bot, .bot, .bot, .bot, .bot, Bo (ltI k5 (w64 (0 - d1))), .bot, .bot, .bot, .bot, .bot, .bot, .bot, .bot, .bot, .bot, .bot, .bot, .bot, .bot, .bot, .bot], []⟩) ?_ ?_
        · refine XL_cons rfl (X_of_Y0 rfl (E_move (I k5) rfl (by kernel_rfl))) ?_
          refine XL_cons rfl (X_of_Y0 rfl (E_move (I d1) rfl (by kernel_rfl))) ?_
          refine XL_cons rfl (X_of_Y0 rfl (Y0_neg64 (a := d1) rfl (by kernel_rfl))) ?_
          refine XL_cons rfl (X_of_Y0 rfl (Y0_ltw (k := .i64) (a := k5) (b := w64 (0 - d1)) rfl (by kernel_rfl) (by kernel_rfl))) ?_
          refine XL_nil ?_
          kernel_rfl
        refine V_cond rfl (fun hc8 => ?_) (fun hc8 => ?_)
        · have h := of_true h hc8
          refine V_skip ?_
          show V _ _ _ _
          refine V_seq ?_
          refine V_block ?_
          obtain ⟨y9, hy9, h⟩ := of_bind h
          obtain ⟨sum10, hsum10, h⟩ := of_sI h
          refine V_reg [true, false, false, false, true, true, false, false, false, false, false, false, false, false, false, false, false, false, false, false, false, false, false, false, false, false, false, false, false] [] (s1 := ⟨[I d1, .bot, .bot, .bot, I sum10, I k5, .bot, .bot, .bot, .bot, .bot, .bot, .bot, .bot, .bot, .bot, .bot, .bot, .bot, .bot, .bot, .bot, .bot, .bot, .bot, .bot, .bot, .bot, .bot], []⟩) ?_ ?_
          · refine XL_cons rfl (X_of_Y0 rfl (E_move (I sum4) rfl (by kernel_rfl))) ?_
            refine XL_cons rfl (X_of_Y0 rfl (E_move (I k5) rfl (by kernel_rfl))) ?_
            refine XL_cons rfl (X_of_Y0 rfl (E_move (I d1) rfl (by kernel_rfl))) ?_
            refine XL_cons rfl (X_of_Y0 rfl (E_move (I k5) rfl (by kernel_rfl))) ?_
            refine XL_cons rfl (X_of_Y1 rfl (Y1_call (s_spec_syKronecker hy9) cf_spec_syKronecker rfl (by kernel_rfl))) ?_
            refine XL_cons rfl (X_of_Y0 rfl (Y0_mul64 (a := k5) (b := y9) rfl (by kernel_rfl) (by kernel_rfl))) ?_
            refine XL_cons rfl (X_of_Y0 rfl (Y0_add64 (a := sum4) (b := w64 (k5 * y9)) rfl (by kernel_rfl) (by kernel_rfl))) ?_
            refine XL_cons rfl (X_of_Y0 rfl (E_assign (I (w64 (sum4 + (w64 (k5 * y9))))) rfl (by kernel_rfl))) ?_
            refine XL_nil ?_
            subst hsum10
            kernel_rfl
          show V _ _ _ _
          obtain ⟨k11, hk11, h⟩ := of_sI h
          refine V_reg [true, false, false, false, true, true, false, false, false, false, false, false, false, false, false, false, false, false, false, false, false, false, false, false, false, false, false, false, false] [] (s1 := ⟨[I d1, .bot, .bot, .bot, I sum10, I k11, .bot, .bot, .bot, .bot, .bot, .bot, .bot, .bot, .bot, .bot, .bot, .bot, .bot, .bot, .bot, .bot, .bot, .bot, .bot, .bot, .bot, .bot, .bot], []⟩) ?_ ?_
          · refine XL_cons rfl (X_of_Y0 rfl (E_move (I k5) rfl (by kernel_rfl))) ?_
            refine XL_cons rfl (X_of_Y0 rfl (Y0_add64 (a := k5) (b := 1) rfl (by kernel_rfl) (by kernel_rfl))) ?_
            refine XL_cons rfl (X_of_Y0 rfl (E_assign (I (w64 (k5 + 1))) rfl (by kernel_rfl))) ?_
            refine XL_nil ?_
            subst hk11
            kernel_rfl
          exact ⟨n, Nat.lt_succ_self n, _, _,  by rfl, h⟩
        · have h := of_false h hc8
          refine V_exit ?_
          obtain rfl := some_inj h
          show St.keep _ _ _ = _
          rfl
    show V _ _ _ _
    obtain ⟨y12, hy12, h⟩ := of_bind h
    obtain ⟨z13, hz13, h⟩ := of_bind h
    obtain ⟨t14, ht14, h⟩ := of_sI h
    refine V_sreg [false, false, true, true, false, false, false, false, false, false, false, false, false, false, false, false, false, false, false, false, false, false, false, false, false, false, false, false, false] [] (s1 := ⟨[.bot, .bot, I t14, Bo true, .bot, .bot, .bot, .bot, .bot, .bot, .bot, .bot, .bot, .bot, .bot, .bot, .bot, .bot, .bot, .bot, .bot, .bot, .bot, .bot, .bot, .bot, .bot, .bot, .bot], []⟩) ?_ ?_
    · refine XL_cons rfl (X_of_Y0 rfl (E_move (I d1) rfl (by kernel_rfl))) ?_
      refine XL_cons rfl (X_of_Y1 rfl (Y1_call (s_spec_reUnits hy12) cf_spec_reUnits rfl (by kernel_rfl))) ?_
      refine XL_cons rfl (X_of_Y0 rfl (E_move (I o7) rfl (by kernel_rfl))) ?_
      refine XL_cons rfl (X_of_Y0 rfl (Y0_mul64 (a := y12) (b := o7) rfl (by kernel_rfl) (by kernel_rfl))) ?_
      refine XL_cons rfl (X_of_Y0 rfl (E_move (I d1) rfl (by kernel_rfl))) ?_
      refine XL_cons rfl (X_of_Y0 rfl (Y0_mul64 (a := 2) (b := d1) rfl (by kernel_rfl) (by kernel_rfl))) ?_
      refine XL_cons rfl (X_of_Y0 rfl (Y0_quo64 (a := w64 (y12 * o7)) (b := w64 (2 * d1)) rfl (by kernel_rfl) (by kernel_rfl) (nz_some hz13))) ?_
      refine XL_cons rfl (X_of_Y0 rfl (E_assign (I (w64 (Int.tdiv (w64 (y12 * o7)) (w64 (2 * d1))))) rfl (by kernel_rfl))) ?_
      refine XL_cons rfl (X_of_Y0 rfl (E_assign (Bo true) rfl (by kernel_rfl))) ?_
      refine XL_nil ?_
      subst ht14
      kernel_rfl
    refine V_ret ?_
    obtain rfl := some_inj h
    show Post _ _ _ _ _
    exact ⟨.inr rfl, rfl, rfl, rfl⟩
theorem cf_impl_Form_isNormal : ∀ args w, (callFunc 172 args).run Try.prog w = .ok (.enter 172 args) w := run_callFunc Try.func172 (by kernel_rfl) (by kernel_rfl)
set_option maxRecDepth 100000 in
set_option maxHeartbeats 400000 in
theorem s_impl_Form_isNormal {f1 : (Int × Int × Int)} {r : Bool} (h : r_impl_Form_isNormal f1 = some r) : CallS Try.prog 172 [.ag [Ti f1.1, Ti f1.2.1, Ti f1.2.2]] (Bo r) [] := by
  refine CallS_of_text (rs := [.t 2]) (vs := [.tmp 2]) Try.func172 rfl rfl (.cons rfl FitsL.nil) (by decide) 16 rfl ?_
  unfold r_impl_Form_isNormal at h
  show V _ _ ⟨[.ag [Ti f1.1, Ti f1.2.1, Ti f1.2.2], .bot, .bot, .bot, .bot, .bot, .bot, .bot, .bot, .bot, .bot, .bot, .bot, .bot, .bot, .bot], []⟩ _
  refine V_sreg [false, true, false, false, false, false, false, false, false, false, false, false, false, false, false, false] [8] (s1 := ⟨[.bot, .pt 8 0, .bot, .bot, .bot, .bot, .bot, .bot, .bot, .bot, .bot, .bot, .bot, .bot, .bot, .bot], [(8, .box [Ti f1.1, Ti f1.2.1, Ti f1.2.2])]⟩) ?_ ?_
  · refine XL_cons rfl (X_of_Y1 rfl (Y1_box (cs := [Ti f1.1, Ti f1.2.1, Ti f1.2.2]) rfl (by kernel_rfl))) ?_
    refine XL_cons rfl (X_of_Y0 rfl (E_assign (Bo false) rfl (by kernel_rfl))) ?_
    refine XL_nil ?_
    kernel_rfl
  obtain ⟨t3, ht3, h⟩ := of_bind h
  have ht3 := some_inj ht3
  refine V_sreg [false, false, true, false, false, false, false, false, false, false, false, false, false, false, false, false] [] (s1 := ⟨[.bot, .bot, Bo t3, .bot, .bot, .bot, .bot, .bot, .bot, .bot, .bot, .bot, .bot, .bot, .bot, .bot], []⟩) ?_ ?_
  · refine XL_cons rfl (X_of_Y0 rfl (E_field (.pt 8 0) Try.underlying37 rfl sz3 rfl (by kernel_rfl) (by intro hh; cases hh))) ?_
    refine XL_cons rfl (X_of_Y0 rfl (Y0_load1 (c := Ti f1.1) (cs := [Ti f1.2.1, Ti f1.2.2]) sc3 rfl (by kernel_rfl))) ?_
    refine XL_cons rfl (X_of_Y0 rfl (Y0_neg64 (a := f1.1) rfl (by kernel_rfl))) ?_
    refine XL_cons rfl (X_of_Y0 rfl (E_field (.pt 8 1) Try.underlying37 rfl sz3 rfl (by kernel_rfl) (by intro hh; cases hh))) ?_
    refine XL_cons rfl (X_of_Y0 rfl (Y0_load1 (c := Ti f1.2.1) (cs := [Ti f1.2.2]) sc3 rfl (by kernel_rfl))) ?_
    refine XL_cons rfl (X_of_Y0 rfl (Y0_ltw (k := .i64) (a := w64 (0 - f1.1)) (b := f1.2.1) rfl (by kernel_rfl) (by kernel_rfl))) ?_
    refine XL_cons rfl (X_of_Y0 rfl (E_move (Bo (ltI (w64 (0 - f1.1)) f1.2.1)) rfl (by kernel_rfl))) ?_
    refine XL_split (ltI (w64 (0 - f1.1)) f1.2.1) (fun hc2 => ?_) (fun hc2 => ?_)
    · refine XL_takeC (ltI (w64 (0 - f1.1)) f1.2.1) rfl rfl (by kernel_rfl) hc2 (X_of_Y0 rfl (E_field (.pt 8 1) Try.underlying37 rfl sz3 rfl (by kernel_rfl) (by intro hh; cases hh))) ?_
      refine XL_takeC (ltI (w64 (0 - f1.1)) f1.2.1) rfl rfl (by kernel_rfl) hc2 (X_of_Y0 rfl (Y0_load1 (c := Ti f1.2.1) (cs := [Ti f1.2.2]) sc3 rfl (by kernel_rfl))) ?_
      refine XL_takeC (ltI (w64 (0 - f1.1)) f1.2.1) rfl rfl (by kernel_rfl) hc2 (X_of_Y0 rfl (E_field (.pt 8 0) Try.underlying37 rfl sz3 rfl (by kernel_rfl) (by intro hh; cases hh))) ?_
      refine XL_takeC (ltI (w64 (0 - f1.1)) f1.2.1) rfl rfl (by kernel_rfl) hc2 (X_of_Y0 rfl (Y0_load1 (c := Ti f1.1) (cs := [Ti f1.2.1, Ti f1.2.2]) sc3 rfl (by kernel_rfl))) ?_
      refine XL_takeC (ltI (w64 (0 - f1.1)) f1.2.1) rfl rfl (by kernel_rfl) hc2 (X_of_Y0 rfl (Y0_lew (k := .i64) (a := f1.2.1) (b := f1.1) rfl (by kernel_rfl) (by kernel_rfl))) ?_
      refine XL_cons rfl (X_of_Y0 rfl (Y0_pick1 (b := ltI (w64 (0 - f1.1)) f1.2.1) (p := leI f1.2.1 f1.1) (q := false) rfl (by kernel_rfl) hc2 (by kernel_rfl))) ?_
      refine XL_cons rfl (X_of_Y0 rfl (E_assign (Bo (bif (ltI (w64 (0 - f1.1)) f1.2.1) then (leI f1.2.1 f1.1) else false)) rfl (by kernel_rfl))) ?_
      refine XL_nil ?_
      subst ht3
      kernel_rfl
    · refine XL_skipT (ltI (w64 (0 - f1.1)) f1.2.1) rfl rfl (by kernel_rfl) hc2 rfl ?_
      refine XL_skipT (ltI (w64 (0 - f1.1)) f1.2.1) rfl rfl (by kernel_rfl) hc2 rfl ?_
      refine XL_skipT (ltI (w64 (0 - f1.1)) f1.2.1) rfl rfl (by kernel_rfl) hc2 rfl ?_
      refine XL_skipT (ltI (w64 (0 - f1.1)) f1.2.1) rfl rfl (by kernel_rfl) hc2 rfl ?_
      refine XL_skipT (ltI (w64 (0 - f1.1)) f1.2.1) rfl rfl (by kernel_rfl) hc2 rfl ?_
      refine XL_cons rfl (X_of_Y0 rfl (Y0_pick0 (b := ltI (w64 (0 - f1.1)) f1.2.1) (p := leI f1.2.1 f1.1) (q := false) rfl (by kernel_rfl) hc2 (by kernel_rfl))) ?_
      refine XL_cons rfl (X_of_Y0 rfl (E_assign (Bo (bif (ltI (w64 (0 - f1.1)) f1.2.1) then (leI f1.2.1 f1.1) else false)) rfl (by kernel_rfl))) ?_
      refine XL_nil ?_
      subst ht3
      kernel_rfl
  refine V_ret ?_
  obtain rfl := some_inj h
  show Post _ _ _ _ _
  exact ⟨.inr rfl, rfl, rfl, rfl⟩
theorem cf_impl_Form_isReduced : ∀ args w, (callFunc 155 args).run Try.prog w = .ok (.enter 155 args) w := run_callFunc Try.func155 (by kernel_rfl) (by kernel_rfl)
set_option maxRecDepth 100000 in
set_option maxHeartbeats 400000 in
theorem s_impl_Form_isReduced {f1 : (Int × Int × Int)} {r : Bool} (h : r_impl_Form_isReduced f1 = some r) : CallS Try.prog 155 [.ag [Ti f1.1, Ti f1.2.1, Ti f1.2.2]] (Bo r) [] := by
  refine CallS_of_text (rs := [.t 2]) (vs := [.tmp 2]) Try.func155 rfl rfl (.cons rfl FitsL.nil) (by decide) 24 rfl ?_
  unfold r_impl_Form_isReduced at h
  show V _ _ ⟨[.ag [Ti f1.1, Ti f1.2.1, Ti f1.2.2], .bot, .bot, .bot, .bot, .bot, .bot, .bot, .bot, .bot, .bot, .bot, .bot, .bot, .bot, .bot, .bot, .bot, .bot, .bot, .bot, .bot, .bot, .bot], []⟩ _
  refine V_sreg [false, true, false, false, false, false, false, false, false, false, false, false, false, false, false, false, false, false, false, false, false, false, false, false] [8] (s1 := ⟨[.bot, .pt 8 0, .bot, .bot, .bot, .bot, .bot, .bot, .bot, .bot, .bot, .bot, .bot, .bot, .bot, .bot, .bot, .bot, .bot, .bot, .bot, .bot, .bot, .bot], [(8, .box [Ti f1.1, Ti f1.2.1, Ti f1.2.2])]⟩) ?_ ?_
  · refine XL_cons rfl (X_of_Y1 rfl (Y1_box (cs := [Ti f1.1, Ti f1.2.1, Ti f1.2.2]) rfl (by kernel_rfl))) ?_
    refine XL_cons rfl (X_of_Y0 rfl (E_assign (Bo false) rfl (by kernel_rfl))) ?_
    refine XL_nil ?_
    kernel_rfl
  obtain ⟨y2, hy2, h⟩ := of_bind h
  obtain ⟨t6, ht6, h⟩ := of_bind h
  have ht6 := some_inj ht6
  refine V_sreg [false, false, true, false, false, false, false, false, false, false, false, false, false, false, false, false, false, false, false, false, false, false, false, false] [] (s1 := ⟨[.bot, .bot, Bo t6, .bot, .bot, .bot, .bot, .bot, .bot, .bot, .bot, .bot, .bot, .bot, .bot, .bot, .bot, .bot, .bot, .bot, .bot, .bot, .bot, .bot], []⟩) ?_ ?_
  · refine XL_cons rfl (X_of_Y0 rfl (E_loadn (cs := [Ti f1.1, Ti f1.2.1, Ti f1.2.2]) [Ti f1.1, Ti f1.2.1, Ti f1.2.2] wd37 rfl (by kernel_rfl) (Nat.le_of_ble_eq_true rfl) (by kernel_rfl))) ?_
    refine XL_cons rfl (X_of_Y1 rfl (Y1_call (s_impl_Form_isNormal hy2) cf_impl_Form_isNormal rfl (by kernel_rfl))) ?_
    refine XL_cons rfl (X_of_Y0 rfl (E_move (Bo y2) rfl (by kernel_rfl))) ?_
    refine XL_split y2 (fun hc3 => ?_) (fun hc3 => ?_)
    · refine XL_takeC (y2) rfl rfl (by kernel_rfl) hc3 (X_of_Y0 rfl (E_field (.pt 8 0) Try.underlying37 rfl sz3 rfl (by kernel_rfl) (by intro hh; cases hh))) ?_
      refine XL_takeC (y2) rfl rfl (by kernel_rfl) hc3 (X_of_Y0 rfl (Y0_load1 (c := Ti f1.1) (cs := [Ti f1.2.1, Ti f1.2.2]) sc3 rfl (by kernel_rfl))) ?_
      refine XL_takeC (y2) rfl rfl (by kernel_rfl) hc3 (X_of_Y0 rfl (E_field (.pt 8 2) Try.underlying37 rfl sz3 rfl (by kernel_rfl) (by intro hh; cases hh))) ?_
      refine XL_takeC (y2) rfl rfl (by kernel_rfl) hc3 (X_of_Y0 rfl (Y0_load1 (c := Ti f1.2.2) (cs := []) sc3 rfl (by kernel_rfl))) ?_
      refine XL_takeC (y2) rfl rfl (by kernel_rfl) hc3 (X_of_Y0 rfl (Y0_ltw (k := .i64) (a := f1.1) (b := f1.2.2) rfl (by kernel_rfl) (by kernel_rfl))) ?_
      refine XL_takeC (y2) rfl rfl (by kernel_rfl) hc3 (X_of_Y0 rfl (E_move (Bo (ltI f1.1 f1.2.2)) rfl (by kernel_rfl))) ?_
      refine XL_split (ltI f1.1 f1.2.2) (fun hc4 => ?_) (fun hc4 => ?_)
      · refine XL_skipF (ltI f1.1 f1.2.2) rfl rfl (by kernel_rfl) hc4 rfl ?_
        refine XL_skipF (ltI f1.1 f1.2.2) rfl rfl (by kernel_rfl) hc4 rfl ?_
        refine XL_skipF (ltI f1.1 f1.2.2) rfl rfl (by kernel_rfl) hc4 rfl ?_
        refine XL_skipF (ltI f1.1 f1.2.2) rfl rfl (by kernel_rfl) hc4 rfl ?_
        refine XL_skipF (ltI f1.1 f1.2.2) rfl rfl (by kernel_rfl) hc4 rfl ?_
        refine XL_skipF (ltI f1.1 f1.2.2) rfl rfl (by kernel_rfl) hc4 rfl ?_
        refine XL_skip2 rfl rfl (by kernel_rfl) rfl ?_
        refine XL_skip2 rfl rfl (by kernel_rfl) rfl ?_
        refine XL_skip2 rfl rfl (by kernel_rfl) rfl ?_
        refine XL_skipF (ltI f1.1 f1.2.2) rfl rfl (by kernel_rfl) hc4 rfl ?_
        refine XL_takeC (y2) rfl rfl (by kernel_rfl) hc3 (X_of_Y0 rfl (Y0_pick1 (b := ltI f1.1 f1.2.2) (p := true) (q := bif (eqI f1.1 f1.2.2) then (leI 0 f1.2.1) else false) rfl (by kernel_rfl) hc4 (by kernel_rfl))) ?_
        refine XL_cons rfl (X_of_Y0 rfl (Y0_pick1 (b := y2) (p := bif (ltI f1.1 f1.2.2) then true else (bif (eqI f1.1 f1.2.2) then (leI 0 f1.2.1) else false)) (q := false) rfl (by kernel_rfl) hc3 (by kernel_rfl))) ?_
        refine XL_cons rfl (X_of_Y0 rfl (E_assign (Bo (bif y2 then (bif (ltI f1.1 f1.2.2) then true else (bif (eqI f1.1 f1.2.2) then (leI 0 f1.2.1) else false)) else false)) rfl (by kernel_rfl))) ?_
        refine XL_nil ?_
        subst ht6
        kernel_rfl
      · refine XL_takeC (ltI f1.1 f1.2.2) rfl rfl (by kernel_rfl) hc4 (X_of_Y0 rfl (E_field (.pt 8 0) Try.underlying37 rfl sz3 rfl (by kernel_rfl) (by intro hh; cases hh))) ?_
        refine XL_takeC (ltI f1.1 f1.2.2) rfl rfl (by kernel_rfl) hc4 (X_of_Y0 rfl (Y0_load1 (c := Ti f1.1) (cs := [Ti f1.2.1, Ti f1.2.2]) sc3 rfl (by kernel_rfl))) ?_
        refine XL_takeC (ltI f1.1 f1.2.2) rfl rfl (by kernel_rfl) hc4 (X_of_Y0 rfl (E_field (.pt 8 2) Try.underlying37 rfl sz3 rfl (by kernel_rfl) (by intro hh; cases hh))) ?_
        refine XL_takeC (ltI f1.1 f1.2.2) rfl rfl (by kernel_rfl) hc4 (X_of_Y0 rfl (Y0_load1 (c := Ti f1.2.2) (cs := []) sc3 rfl (by kernel_rfl))) ?_
        refine XL_takeC (ltI f1.1 f1.2.2) rfl rfl (by kernel_rfl) hc4 (X_of_Y0 rfl (Y0_eqw (k := .i64) (a := f1.1) (b := f1.2.2) rfl (by kernel_rfl) (by kernel_rfl))) ?_
        refine XL_takeC (ltI f1.1 f1.2.2) rfl rfl (by kernel_rfl) hc4 (X_of_Y0 rfl (E_move (Bo (eqI f1.1 f1.2.2)) rfl (by kernel_rfl))) ?_
        refine XL_split (eqI f1.1 f1.2.2) (fun hc5 => ?_) (fun hc5 => ?_)
        · refine XL_takeC (eqI f1.1 f1.2.2) rfl rfl (by kernel_rfl) hc5 (X_of_Y0 rfl (E_field (.pt 8 1) Try.underlying37 rfl sz3 rfl (by kernel_rfl) (by intro hh; cases hh))) ?_
          refine XL_takeC (eqI f1.1 f1.2.2) rfl rfl (by kernel_rfl) hc5 (X_of_Y0 rfl (Y0_load1 (c := Ti f1.2.1) (cs := [Ti f1.2.2]) sc3 rfl (by kernel_rfl))) ?_
          refine XL_takeC (eqI f1.1 f1.2.2) rfl rfl (by kernel_rfl) hc5 (X_of_Y0 rfl (Y0_gew (k := .i64) (a := f1.2.1) (b := 0) rfl (by kernel_rfl) (by kernel_rfl))) ?_
          refine XL_takeC (ltI f1.1 f1.2.2) rfl rfl (by kernel_rfl) hc4 (X_of_Y0 rfl (Y0_pick1 (b := eqI f1.1 f1.2.2) (p := leI 0 f1.2.1) (q := false) rfl (by kernel_rfl) hc5 (by kernel_rfl))) ?_
          refine XL_takeC (y2) rfl rfl (by kernel_rfl) hc3 (X_of_Y0 rfl (Y0_pick0 (b := ltI f1.1 f1.2.2) (p := true) (q := bif (eqI f1.1 f1.2.2) then (leI 0 f1.2.1) else false) rfl (by kernel_rfl) hc4 (by kernel_rfl))) ?_
          refine XL_cons rfl (X_of_Y0 rfl (Y0_pick1 (b := y2) (p := bif (ltI f1.1 f1.2.2) then true else (bif (eqI f1.1 f1.2.2) then (leI 0 f1.2.1) else false)) (q := false) rfl (by kernel_rfl) hc3 (by kernel_rfl))) ?_
          refine XL_cons rfl (X_of_Y0 rfl (E_assign (Bo (bif y2 then (bif (ltI f1.1 f1.2.2) then true else (bif (eqI f1.1 f1.2.2) then (leI 0 f1.2.1) else false)) else false)) rfl (by kernel_rfl))) ?_
          refine XL_nil ?_
          subst ht6
          kernel_rfl
        · refine XL_skipT (eqI f1.1 f1.2.2) rfl rfl (by kernel_rfl) hc5 rfl ?_
          refine XL_skipT (eqI f1.1 f1.2.2) rfl rfl (by kernel_rfl) hc5 rfl ?_
          refine XL_skipT (eqI f1.1 f1.2.2) rfl rfl (by kernel_rfl) hc5 rfl ?_
          refine XL_takeC (ltI f1.1 f1.2.2) rfl rfl (by kernel_rfl) hc4 (X_of_Y0 rfl (Y0_pick0 (b := eqI f1.1 f1.2.2) (p := leI 0 f1.2.1) (q := false) rfl (by kernel_rfl) hc5 (by kernel_rfl))) ?_
          refine XL_takeC (y2) rfl rfl (by kernel_rfl) hc3 (X_of_Y0 rfl (Y0_pick0 (b := ltI f1.1 f1.2.2) (p := true) (q := bif (eqI f1.1 f1.2.2) then (leI 0 f1.2.1) else false) rfl (by kernel_rfl) hc4 (by kernel_rfl))) ?_
          refine XL_cons rfl (X_of_Y0 rfl (Y0_pick1 (b := y2) (p := bif (ltI f1.1 f1.2.2) then true else (bif (eqI f1.1 f1.2.2) then (leI 0 f1.2.1) else false)) (q := false) rfl (by kernel_rfl) hc3 (by kernel_rfl))) ?_
          refine XL_cons rfl (X_of_Y0 rfl (E_assign (Bo (bif y2 then (bif (ltI f1.1 f1.2.2) then true else (bif (eqI f1.1 f1.2.2) then (leI 0 f1.2.1) else false)) else false)) rfl (by kernel_rfl))) ?_
          refine XL_nil ?_
          subst ht6
          kernel_rfl
    · refine XL_skipT (y2) rfl rfl (by kernel_rfl) hc3 rfl ?_
      refine XL_skipT (y2) rfl rfl (by kernel_rfl) hc3 rfl ?_
      refine XL_skipT (y2) rfl rfl (by kernel_rfl) hc3 rfl ?_
      refine XL_skipT (y2) rfl rfl (by kernel_rfl) hc3 rfl ?_
      refine XL_skipT (y2) rfl rfl (by kernel_rfl) hc3 rfl ?_
      refine XL_skipT (y2) rfl rfl (by kernel_rfl) hc3 rfl ?_
      refine XL_skip2 rfl rfl (by kernel_rfl) rfl ?_
      refine XL_skip2 rfl rfl (by kernel_rfl) rfl ?_
      refine XL_skip2 rfl rfl (by kernel_rfl) rfl ?_
      refine XL_skip2 rfl rfl (by kernel_rfl) rfl ?_
      refine XL_skip2 rfl rfl (by kernel_rfl) rfl ?_
      refine XL_skip2 rfl rfl (by kernel_rfl) rfl ?_
      refine XL_skip2 rfl rfl (by kernel_rfl) rfl ?_
      refine XL_skip2 rfl rfl (by kernel_rfl) rfl ?_
      refine XL_skip2 rfl rfl (by kernel_rfl) rfl ?_
      refine XL_skip2 rfl rfl (by kernel_rfl) rfl ?_
      refine XL_skipT (y2) rfl rfl (by kernel_rfl) hc3 rfl ?_
      refine XL_cons rfl (X_of_Y0 rfl (Y0_pick0 (b := y2) (p := bif (ltI f1.1 f1.2.2) then true else (bif (eqI f1.1 f1.2.2) then (leI 0 f1.2.1) else false)) (q := false) rfl (by kernel_rfl) hc3 (by kernel_rfl))) ?_
      refine XL_cons rfl (X_of_Y0 rfl (E_assign (Bo (bif y2 then (bif (ltI f1.1 f1.2.2) then true else (bif (eqI f1.1 f1.2.2) then (leI 0 f1.2.1) else false)) else false)) rfl (by kernel_rfl))) ?_
      refine XL_nil ?_
      subst ht6
      kernel_rfl
  refine V_ret ?_
  obtain rfl := some_inj h
  show Post _ _ _ _ _
  exact ⟨.inr rfl, rfl, rfl, rfl⟩
theorem cf_impl_allReduced : ∀ args w, (callFunc 125 args).run Try.prog w = .ok (.enter 125 args) w := run_callFunc Try.func125 (by kernel_rfl) (by kernel_rfl)
set_option maxRecDepth 100000 in
set_option maxHeartbeats 400000 in
theorem s_impl_allReduced {d1 : Int} {r : List ((Int × Int × Int))} (h : r_impl_allReduced d1 = some r) : CallS Try.prog 125 [I d1] (.ow 0) [(0, .arr 37 3 (r.map c37))] := by
  refine CallS_of_text (rs := [.t 2]) (vs := [.tmp 2]) Try.func125 rfl rfl (.cons rfl FitsL.nil) (by decide) 51 rfl ?_
  unfold r_impl_allReduced at h
  show V _ _ ⟨[I d1, .bot, .bot, .bot, .bot, .bot, .bot, .bot, .bot, .bot, .bot, .bot, .bot, .bot, .bot, .bot, .bot, .bot, .bot, .bot, .bot, .bot, .bot, .bot, .bot, .bot, .bot, .bot, .bot, .bot, .bot, .bot, .bot, .bot, .bot, .bot, .bot, .bot, .bot, .bot, .bot, .bot, .bot, .bot, .bot, .bot, .bot, .bot, .bot, .bot, .bot], []⟩ _
  refine V_sreg [true, false, false, false, false, false, false, false, false, false, false, false, false, false, false, false, false, false, false, false, false, false, false, false, false, false, false, false, false, false, false, false, false, false, false, false, false, false, false, false, false, false, false, false, false, false, false, false, false, false, false] [] (s1 := ⟨[I d1, .bot, .bot, .bot, .bot, .bot, .bot, .bot, .bot, .bot, .bot, .bot, .bot, .bot, .bot, .bot, .bot, .bot, .bot, .bot, .bot, .bot, .bot, .bot, .bot, .bot, .bot, .bot, .bot, .bot, .bot, .bot, .bot, .bot, .bot, .bot, .bot, .bot, .bot, .bot, .bot, .bot, .bot, .bot, .bot, .bot, .bot, .bot, .bot, .bot, .bot], []⟩) ?_ ?_
  · refine XL_cons rfl (X_of_Y1 rfl (Y1_nil (e := 37) 3 (by decide) (.inl rfl))) ?_
    refine XL_nil ?_
    kernel_rfl
  refine V_sreg [true, false, false, true, false, false, false, false, false, false, false, false, false, false, false, false, false, false, false, false, false, false, false, false, false, false, false, false, false, false, false, false, false, false, false, false, false, false, false, false, false, false, false, false, false, false, false, false, false, false, false] [56] (s1 := ⟨[I d1, .bot, .bot, .ow 56, .bot, .bot, .bot, .bot, .bot, .bot, .bot, .bot, .bot, .bot, .bot, .bot, .bot, .bot, .bot, .bot, .bot, .bot, .bot, .bot, .bot, .bot, .bot, .bot, .bot, .bot, .bot, .bot, .bot, .bot, .bot, .bot, .bot, .bot, .bot, .bot, .bot, .bot, .bot, .bot, .bot, .bot, .bot, .bot, .bot, .bot, .bot], [(56, .arr 37 3 ((([] : List ((Int × Int × Int)))).map c37))]⟩) ?_ ?_
  · refine XL_cons rfl (X_of_Y1 rfl (Y1_bslice0 Try.underlying31 sz37 (by decide) rfl rfl)) ?_
    refine XL_cons rfl (X_of_Y0 rfl (E_assign (.ow 56) rfl (by kernel_rfl))) ?_
    refine XL_nil ?_
    kernel_rfl
  refine V_seq ?_
  refine V_sreg [true, false, false, true, true, false, false, false, false, false, false, false, false, false, false, false, false, false, false, false, false, false, false, false, false, false, false, false, false, false, false, false, false, false, false, false, false, false, false, false, false, false, false, false, false, false, false, false, false, false, false] [56] (s1 := ⟨[I d1, .bot, .bot, .ow 56, I 1, .bot, .bot, .bot, .bot, .bot, .bot, .bot, .bot, .bot, .bot, .bot, .bot, .bot, .bot, .bot, .bot, .bot, .bot, .bot, .bot, .bot, .bot, .bot, .bot, .bot, .bot, .bot, .bot, .bot, .bot, .bot, .bot, .bot, .bot, .bot, .bot, .bot, .bot, .bot, .bot, .bot, .bot, .bot, .bot, .bot, .bot], [(56, .arr 37 3 ((([] : List ((Int × Int × Int)))).map c37))]⟩) ?_ ?_
  · refine XL_cons rfl (X_of_Y0 rfl (E_assign (I 1) rfl (by kernel_rfl))) ?_
    refine XL_nil ?_
    kernel_rfl
  obtain ⟨o5, hLo5, h⟩ := of_bind h
  refine V_toK [false, false, false, true, false, false, false, false, false, false, false, false, false, false, false, false, false, false, false, false, false, false, false, false, false, false, false, false, false, false, false, false, false, false, false, false, false, false, false, false, false, false, false, false, false, false, false, false, false, false, false] [56] (s1 := ⟨[.bot, .bot, .bot, .ow 56, .bot, .bot, .bot, .bot, .bot, .bot, .bot, .bot, .bot, .bot, .bot, .bot, .bot, .bot, .bot, .bot, .bot, .bot, .bot, .bot, .bot, .bot, .bot, .bot, .bot, .bot, .bot, .bot, .bot, .bot, .bot, .bot, .bot, .bot, .bot, .bot, .bot, .bot, .bot, .bot, .bot, .bot, .bot, .bot, .bot, .bot, .bot], [(56, .arr 37 3 (o5.map c37))]⟩) ?_ ?_
  · clear h
    refine V_block (V_loop (fun n s => ∃ (a2 : Int) (l3 : List ((Int × Int × Int))), s.keep [true, false, false, true, true, false, false, false, false, false, false, false, false, false, false, false, false, false, false, false, false, false, false, false, false, false, false, false, false, false, false, false, false, false, false, false, false, false, false, false, false, false, false, false, false, false, false, false, false, false, false] [56] = (⟨[I d1, .bot, .bot, .ow 56, I a2, .bot, .bot, .bot, .bot, .bot, .bot, .bot, .bot, .bot, .bot, .bot, .bot, .bot, .bot, .bot, .bot, .bot, .bot, .bot, .bot, .bot, .bot, .bot, .bot, .bot, .bot, .bot, .bot, .bot, .bot, .bot, .bot, .bot, .bot, .bot, .bot, .bot, .bot, .bot, .bot, .bot, .bot, .bot, .bot, .bot, .bot], [(56, .arr 37 3 (l3.map c37))]⟩ : St) ∧ r_impl_allReduced_L4 d1 n a2 l3 = some o5) FU ⟨_, _,  by rfl, hLo5⟩ ?_)
    clear hLo5
    rintro n s ⟨a2, l3, hs, h⟩
    refine V_keep _ _ hs ?_
    clear hs
    cases n with
    | zero => cases h
    | succ n =>
      rw [r_impl_allReduced_L4] at h
      refine V_seq ?_
      refine V_sreg [true, false, false, true, true, false, false, false, false, false, false, false, false, false, true, false, false, false, false, false, false, false, false, false, false, false, false, false, false, false, false, false, false, false, false, false, false, false, false, false, false, false, false, false, false, false, false, false, false, false, false] [56] (s1 := ⟨[I d1, .bot, .bot, .ow 56, I a2, .bot, .bot, .bot, .bot, .bot, .bot, .bot, .bot, .bot, Bo (leI (w64 ((w64 (3 * a2)) * a2)) (w64 (0 - d1))), .bot, .bot, .bot, .bot, .bot, .bot, .bot, .bot, .bot, .bot, .bot, .bot, .bot, .bot, .bot, .bot, .bot, .bot, .bot, .bot, .bot, .bot, .bot, .bot, .bot, .bot, .bot, .bot, .bot, .bot, .bot, .bot, .bot, .bot, .bot, .bot], [(56, .arr 37 3 (l3.map c37))]⟩) ?_ ?_
      · refine XL_cons rfl (X_of_Y0 rfl (E_move (I a2) rfl (by kernel_rfl))) ?_
        refine XL_cons rfl (X_of_Y0 rfl (Y0_mul64 (a := 3) (b := a2) rfl (by kernel_rfl) (by kernel_rfl))) ?_
        refine XL_cons rfl (X_of_Y0 rfl (E_move (I a2) rfl (by kernel_rfl))) ?_
        refine XL_cons rfl (X_of_Y0 rfl (Y0_mul64 (a := w64 (3 * a2)) (b := a2) rfl (by kernel_rfl) (by kernel_rfl))) ?_
        refine XL_cons rfl (X_of_Y0 rfl (E_move (I d1) rfl (by kernel_rfl))) ?_
        refine XL_cons rfl (X_of_Y0 rfl (Y0_neg64 (a := d1) rfl (by kernel_rfl))) ?_
        refine XL_cons rfl (X_of_Y0 rfl (Y0_lew (k := .i64) (a := w64 ((w64 (3 * a2)) * a2)) (b := w64 (0 - d1)) rfl (by kernel_rfl) (by kernel_rfl))) ?_
        refine XL_nil ?_
        kernel_rfl
      refine V_cond rfl (fun hc6 => ?_) (fun hc6 => ?_)
      · have h := of_true h hc6
        refine V_skip ?_
        show V _ _ _ _
        refine V_seq ?_
        refine V_block ?_
        obtain ⟨b7, hb7, h⟩ := of_sI h
        refine V_sreg [true, false, false, true, true, true, false, false, false, false, false, false, false, false, false, false, false, false, false, false, false, false, false, false, false, false, false, false, false, false, false, false, false, false, false, false, false, false, false, false, false, false, false, false, false, false, false, false, false, false, false] [56] (s1 := ⟨[I d1, .bot, .bot, .ow 56, I a2, I b7, .bot, .bot, .bot, .bot, .bot, .bot, .bot, .bot, .bot, .bot, .bot, .bot, .bot, .bot, .bot, .bot, .bot, .bot, .bot, .bot, .bot, .bot, .bot, .bot, .bot, .bot, .bot, .bot, .bot, .bot, .bot, .bot, .bot, .bot, .bot, .bot, .bot, .bot, .bot, .bot, .bot, .bot, .bot, .bot, .bot], [(56, .arr 37 3 (l3.map c37))]⟩) ?_ ?_
        · refine XL_cons rfl (X_of_Y0 rfl (E_move (I a2) rfl (by kernel_rfl))) ?_
          refine XL_cons rfl (X_of_Y0 rfl (Y0_sub64 (a := 1) (b := a2) rfl (by kernel_rfl) (by kernel_rfl))) ?_
          refine XL_cons rfl (X_of_Y0 rfl (E_assign (I (w64 (1 - a2))) rfl (by kernel_rfl))) ?_
          refine XL_nil ?_
          subst hb7
          kernel_rfl
        obtain ⟨o11, hLo11, h⟩ := of_bind h
        refine V_toK [true, false, false, true, true, false, false, false, false, false, false, false, false, false, false, false, false, false, false, false, false, false, false, false, false, false, false, false, false, false, false, false, false, false, false, false, false, false, false, false, false, false, false, false, false, false, false, false, false, false, false] [56] (s1 := ⟨[I d1, .bot, .bot, .ow 56, I a2, .bot, .bot, .bot, .bot, .bot, .bot, .bot, .bot, .bot, .bot, .bot, .bot, .bot, .bot, .bot, .bot, .bot, .bot, .bot, .bot, .bot, .bot, .bot, .bot, .bot, .bot, .bot, .bot, .bot, .bot, .bot, .bot, .bot, .bot, .bot, .bot, .bot, .bot, .bot, .bot, .bot, .bot, .bot, .bot, .bot, .bot], [(56, .arr 37 3 (o11.map c37))]⟩) ?_ ?_
        · clear h
          refine V_block (V_loop (fun n s => ∃ (b8 : Int) (l9 : List ((Int × Int × Int))), s.keep [true, false, false, true, true, true, false, false, false, false, false, false, false, false, false, false, false, false, false, false, false, false, false, false, false, false, false, false, false, false, false, false, false, false, false, false, false, false, false, false, false, false, false, false, false, false, false, false, false, false, false] [56] = (⟨[I d1, .bot, .bot, .ow 56, I a2, I b8, .bot, .bot, .bot, .bot, .bot, .bot, .bot, .bot, .bot, .bot, .bot, .bot, .bot, .bot, .bot, .bot, .bot, .bot, .bot, .bot, .bot, .bot, .bot, .bot, .bot, .bot, .bot, .bot, .bot, .bot, .bot, .bot, .bot, .bot, .bot, .bot, .bot, .bot, .bot, .bot, .bot, .bot, .bot, .bot, .bot], [(56, .arr 37 3 (l9.map c37))]⟩ : St) ∧ r_impl_allReduced_L10 a2 d1 n b8 l9 = some o11) FU ⟨_, _,  by rfl, hLo11⟩ ?_)
          clear hLo11
          rintro n s ⟨b8, l9, hs, h⟩
          refine V_keep _ _ hs ?_
          clear hs
          cases n with
          | zero => cases h
          | succ n =>
            rw [r_impl_allReduced_L10] at h
            refine V_seq ?_
            refine V_sreg [true, false, false, true, true, true, false, false, false, false, false, false, false, false, false, false, false, false, false, false, false, true, false, false, false, false, false, false, false, false, false, false, false, false, false, false, false, false, false, false, false, false, false, false, false, false, false, false, false, false, false] [56] (s1 := ⟨[I d1, .bot, .bot, .ow 56, I a2, I b8, .bot, .bot, .bot, .bot, .bot, .bot, .bot, .bot, .bot, .bot, .bot, .bot, .bot, .bot, .bot, Bo (leI b8 a2), .bot, .bot, .bot, .bot, .bot, .bot, .bot, .bot, .bot, .bot, .bot, .bot, .bot, .bot, .bot, .bot, .bot, .bot, .bot, .bot, .bot, .bot, .bot, .bot, .bot, .bot, .bot, .bot, .bot], [(56, .arr 37 3 (l9.map c37))]⟩) ?_ ?_
            · refine XL_cons rfl (X_of_Y0 rfl (E_move (I b8) rfl (by kernel_rfl))) ?_
              refine XL_cons rfl (X_of_Y0 rfl (E_move (I a2) rfl (by kernel_rfl))) ?_
              refine XL_cons rfl (X_of_Y0 rfl (Y0_lew (k := .i64) (a := b8) (b := a2) rfl (by kernel_rfl) (by kernel_rfl))) ?_
              refine XL_nil ?_
              kernel_rfl
            refine V_cond rfl (fun hc12 => ?_) (fun hc12 => ?_)
            · have h := of_true h hc12
              refine V_skip ?_
              show V _ _ _ _
              refine V_seq ?_
              refine V_block ?_
              refine V_seq ?_
              obtain ⟨z13, hz13, h⟩ := of_bind h
              obtain ⟨t14, ht14, h⟩ := of_bind h
              have ht14 := some_inj ht14
              refine V_sreg [true, false, false, true, true, true, false, false, false, false, false, false, false, false, false, false, false, false, false, false, false, false, false, false, false, false, false, false, false, false, false, false, true, false, false, false, false, false, false, false, false, false, false, false, false, false, false, false, false, false, false] [56] (s1 := ⟨[I d1, .bot, .bot, .ow 56, I a2, I b8, .bot, .bot, .bot, .bot, .bot, .bot, .bot, .bot, .bot, .bot, .bot, .bot, .bot, .bot, .bot, .bot, .bot, .bot, .bot, .bot, .bot, .bot, .bot, .bot, .bot, .bot, Bo t14, .bot, .bot, .bot, .bot, .bot, .bot, .bot, .bot, .bot, .bot, .bot, .bot, .bot, .bot, .bot, .bot, .bot, .bot], [(56, .arr 37 3 (l9.map c37))]⟩) ?_ ?_
              · refine XL_cons rfl (X_of_Y0 rfl (E_move (I b8) rfl (by kernel_rfl))) ?_
                refine XL_cons rfl (X_of_Y0 rfl (E_move (I b8) rfl (by kernel_rfl))) ?_
                refine XL_cons rfl (X_of_Y0 rfl (Y0_mul64 (a := b8) (b := b8) rfl (by kernel_rfl) (by kernel_rfl))) ?_
                refine XL_cons rfl (X_of_Y0 rfl (E_move (I d1) rfl (by kernel_rfl))) ?_
                refine XL_cons rfl (X_of_Y0 rfl (Y0_sub64 (a := w64 (b8 * b8)) (b := d1) rfl (by kernel_rfl) (by kernel_rfl))) ?_
                refine XL_cons rfl (X_of_Y0 rfl (E_move (I a2) rfl (by kernel_rfl))) ?_
                refine XL_cons rfl (X_of_Y0 rfl (Y0_mul64 (a := 4) (b := a2) rfl (by kernel_rfl) (by kernel_rfl))) ?_
                refine XL_cons rfl (X_of_Y0 rfl (Y0_rem (k := .i64) (a := w64 ((w64 (b8 * b8)) - d1)) (b := w64 (4 * a2)) rfl (by kernel_rfl) (by kernel_rfl) (nz_some hz13))) ?_
                refine XL_cons rfl (X_of_Y0 rfl (Y0_new (k := .i64) (a := Int.tmod (w64 ((w64 (b8 * b8)) - d1)) (w64 (4 * a2))) (b := 0) rfl (by kernel_rfl) (by kernel_rfl))) ?_
                refine XL_nil ?_
                subst ht14
                kernel_rfl
              refine V_cond rfl (fun hc15 => ?_) (fun hc15 => ?_)
              · have h := of_true h hc15
                refine V_exit ?_
                show V _ _ _ _
                obtain ⟨b16, hb16, h⟩ := of_sI h
                refine V_reg [true, false, false, true, true, true, false, false, false, false, false, false, false, false, false, false, false, false, false, false, false, false, false, false, false, false, false, false, false, false, false, false, false, false, false, false, false, false, false, false, false, false, false, false, false, false, false, false, false, false, false] [56] (s1 := ⟨[I d1, .bot, .bot, .ow 56, I a2, I b16, .bot, .bot, .bot, .bot, .bot, .bot, .bot, .bot, .bot, .bot, .bot, .bot, .bot, .bot, .bot, .bot, .bot, .bot, .bot, .bot, .bot, .bot, .bot, .bot, .bot, .bot, .bot, .bot, .bot, .bot, .bot, .bot, .bot, .bot, .bot, .bot, .bot, .bot, .bot, .bot, .bot, .bot, .bot, .bot, .bot], [(56, .arr 37 3 (l9.map c37))]⟩) ?_ ?_
                · refine XL_cons rfl (X_of_Y0 rfl (E_move (I b8) rfl (by kernel_rfl))) ?_
                  refine XL_cons rfl (X_of_Y0 rfl (Y0_add64 (a := b8) (b := 1) rfl (by kernel_rfl) (by kernel_rfl))) ?_
                  refine XL_cons rfl (X_of_Y0 rfl (E_assign (I (w64 (b8 + 1))) rfl (by kernel_rfl))) ?_
                  refine XL_nil ?_
                  subst hb16
                  kernel_rfl
                exact ⟨n, Nat.lt_succ_self n, _, _,  by rfl, h⟩
              · have h := of_false h hc15
                refine V_skip ?_
                show V _ _ _ _
                obtain ⟨z17, hz17, h⟩ := of_bind h
                obtain ⟨f18, hf18, h⟩ := of_sI h
                refine V_sreg [true, false, false, true, true, true, true, false, false, false, false, false, false, false, false, false, false, false, false, false, false, false, false, false, false, false, false, false, false, false, false, false, false, false, false, false, false, false, false, false, false, false, false, false, false, false, false, false, false, false, false] [48, 56] (s1 := ⟨[I d1, .bot, .bot, .ow 56, I a2, I b8, .pt 48 0, .bot, .bot, .bot, .bot, .bot, .bot, .bot, .bot, .bot, .bot, .bot, .bot, .bot, .bot, .bot, .bot, .bot, .bot, .bot, .bot, .bot, .bot, .bot, .bot, .bot, .bot, .bot, .bot, .bot, .bot, .bot, .bot, .bot, .bot, .bot, .bot, .bot, .bot, .bot, .bot, .bot, .bot, .bot, .bot], [(48, .box [Ti a2, Ti b8, Ti f18]), (56, .arr 37 3 (l9.map c37))]⟩) ?_ ?_
                · refine XL_cons rfl (X_of_Y0 rfl (E_move (I a2) rfl (by kernel_rfl))) ?_
                  refine XL_cons rfl (X_of_Y0 rfl (E_move (I b8) rfl (by kernel_rfl))) ?_
                  refine XL_cons rfl (X_of_Y0 rfl (E_move (I b8) rfl (by kernel_rfl))) ?_
                  refine XL_cons rfl (X_of_Y0 rfl (E_move (I b8) rfl (by kernel_rfl))) ?_
                  refine XL_cons rfl (X_of_Y0 rfl (Y0_mul64 (a := b8) (b := b8) rfl (by kernel_rfl) (by kernel_rfl))) ?_
                  refine XL_cons rfl (X_of_Y0 rfl (E_move (I d1) rfl (by kernel_rfl))) ?_
                  refine XL_cons rfl (X_of_Y0 rfl (Y0_sub64 (a := w64 (b8 * b8)) (b := d1) rfl (by kernel_rfl) (by kernel_rfl))) ?_
                  refine XL_cons rfl (X_of_Y0 rfl (E_move (I a2) rfl (by kernel_rfl))) ?_
                  refine XL_cons rfl (X_of_Y0 rfl (Y0_mul64 (a := 4) (b := a2) rfl (by kernel_rfl) (by kernel_rfl))) ?_
                  refine XL_cons rfl (X_of_Y0 rfl (Y0_quo64 (a := w64 ((w64 (b8 * b8)) - d1)) (b := w64 (4 * a2)) rfl (by kernel_rfl) (by kernel_rfl) (nz_some hz17))) ?_
                  refine XL_cons rfl (X_of_Y0 rfl (Y0_build (cs := [Ti a2, Ti b8, Ti (w64 (Int.tdiv (w64 ((w64 (b8 * b8)) - d1)) (w64 (4 * a2))))]) pl37 bt37 rfl rfl (by kernel_rfl))) ?_
                  refine XL_cons rfl (X_of_Y1 rfl (Y1_alloc (z := zv37) rfl zf37 rfl)) ?_
                  refine XL_cons rfl (E_store (id := 48) (off := 0) (cs := [Ti 0, Ti 0, Ti 0]) (vc := [Ti a2, Ti b8, Ti (w64 (Int.tdiv (w64 ((w64 (b8 * b8)) - d1)) (w64 (4 * a2))))]) [Ti a2, Ti b8, Ti (w64 (Int.tdiv (w64 ((w64 (b8 * b8)) - d1)) (w64 (4 * a2))))] rfl rfl (by kernel_rfl) (by kernel_rfl) (by kernel_rfl) sz37 (Nat.le_of_ble_eq_true rfl) (by kernel_rfl)) ?_
                  refine XL_nil ?_
                  subst hf18
                  kernel_rfl
                obtain ⟨y19, hy19, h⟩ := of_bind h
                refine V_sreg [true, false, false, true, true, true, true, false, false, false, false, false, false, false, false, false, false, false, false, false, false, false, false, false, false, false, false, false, false, false, false, false, false, false, false, false, false, false, false, false, false, false, false, false, false, true, false, false, false, false, false] [48, 56] (s1 := ⟨[I d1, .bot, .bot, .ow 56, I a2, I b8, .pt 48 0, .bot, .bot, .bot, .bot, .bot, .bot, .bot, .bot, .bot, .bot, .bot, .bot, .bot, .bot, .bot, .bot, .bot, .bot, .bot, .bot, .bot, .bot, .bot, .bot, .bot, .bot, .bot, .bot, .bot, .bot, .bot, .bot, .bot, .bot, .bot, .bot, .bot, .bot, Bo y19, .bot, .bot, .bot, .bot, .bot], [(48, .box [Ti a2, Ti b8, Ti f18]), (56, .arr 37 3 (l9.map c37))]⟩) ?_ ?_
                · refine XL_cons rfl (X_of_Y0 rfl (E_loadn (cs := [Ti a2, Ti b8, Ti f18]) [Ti a2, Ti b8, Ti f18] wd37 rfl (by kernel_rfl) (Nat.le_of_ble_eq_true rfl) (by kernel_rfl))) ?_
                  refine XL_cons rfl (X_of_Y1 rfl (Y1_call (s_impl_Form_isReduced hy19) cf_impl_Form_isReduced rfl (by kernel_rfl))) ?_
                  refine XL_nil ?_
                  kernel_rfl
                refine V_cond rfl (fun hc20 => ?_) (fun hc20 => ?_)
                · have h := of_true h hc20
                  obtain ⟨u21, hu21, h⟩ := of_bind h
                  refine V_reg [true, false, false, true, true, true, false, false, false, false, false, false, false, false, false, false, false, false, false, false, false, false, false, false, false, false, false, false, false, false, false, false, false, false, false, false, false, false, false, false, false, false, false, false, false, false, false, false, false, false, false] [56] (s1 := ⟨[I d1, .bot, .bot, .ow 56, I a2, I b8, .bot, .bot, .bot, .bot, .bot, .bot, .bot, .bot, .bot, .bot, .bot, .bot, .bot, .bot, .bot, .bot, .bot, .bot, .bot, .bot, .bot, .bot, .bot, .bot, .bot, .bot, .bot, .bot, .bot, .bot, .bot, .bot, .bot, .bot, .bot, .bot, .bot, .bot, .bot, .bot, .bot, .bot, .bot, .bot, .bot], [(56, .arr 37 3 ((l9 ++ ([(a2, b8, f18)])).map c37))]⟩) ?_ ?_
                  · refine XL_cons rfl (X_of_Y0 rfl (E_move (.ow 56) rfl (by kernel_rfl))) ?_
                    refine XL_cons rfl (X_of_Y0 rfl (E_loadn (cs := [Ti a2, Ti b8, Ti f18]) [Ti a2, Ti b8, Ti f18] wd37 rfl (by kernel_rfl) (Nat.le_of_ble_eq_true rfl) (by kernel_rfl))) ?_
                    refine XL_cons rfl (X_of_Y1 rfl (Y1_bslice (z := zv37) (els := [(a2, b8, f18)].map c37) Try.underlying31 iz37 rfl (by decide) rfl (by kernel_rfl) rfl (by simp [c37]) (by decide) (by decide))) ?_
                    refine XL_cons rfl (X_appendM (c := c37) (xs := l9) (ys := [(a2, b8, f18)]) (id := 56) (z := zv37) rfl rfl Try.underlying31 izb37 rfl (by kernel_rfl) (by kernel_rfl) (by kernel_rfl) (fun _ => rfl) (by simp) (room_some hu21) (by decide)) ?_
                    refine XL_cons rfl (X_of_Y0 rfl (E_assign (.ow 56) rfl (by kernel_rfl))) ?_
                    refine XL_nil ?_
                    kernel_rfl
                  show V _ _ _ _
                  obtain ⟨b22, hb22, h⟩ := of_sI h
                  refine V_reg [true, false, false, true, true, true, false, false, false, false, false, false, false, false, false, false, false, false, false, false, false, false, false, false, false, false, false, false, false, false, false, false, false, false, false, false, false, false, false, false, false, false, false, false, false, false, false, false, false, false, false] [56] (s1 := ⟨[I d1, .bot, .bot, .ow 56, I a2, I b22, .bot, .bot, .bot, .bot, .bot, .bot, .bot, .bot, .bot, .bot, .bot, .bot, .bot, .bot, .bot, .bot, .bot, .bot, .bot, .bot, .bot, .bot, .bot, .bot, .bot, .bot, .bot, .bot, .bot, .bot, .bot, .bot, .bot, .bot, .bot, .bot, .bot, .bot, .bot, .bot, .bot, .bot, .bot, .bot, .bot], [(56, .arr 37 3 ((l9 ++ ([(a2, b8, f18)])).map c37))]⟩) ?_ ?_
                  · refine XL_cons rfl (X_of_Y0 rfl (E_move (I b8) rfl (by kernel_rfl))) ?_
                    refine XL_cons rfl (X_of_Y0 rfl (Y0_add64 (a := b8) (b := 1) rfl (by kernel_rfl) (by kernel_rfl))) ?_
                    refine XL_cons rfl (X_of_Y0 rfl (E_assign (I (w64 (b8 + 1))) rfl (by kernel_rfl))) ?_
                    refine XL_nil ?_
                    subst hb22
                    kernel_rfl
                  exact ⟨n, Nat.lt_succ_self n, _, _,  by rfl, h⟩
                · have h := of_false h hc20
                  refine V_skip ?_
                  show V _ _ _ _
                  obtain ⟨b23, hb23, h⟩ := of_sI h
                  refine V_reg [true, false, false, true, true, true, false, false, false, false, false, false, false, false, false, false, false, false, false, false, false, false, false, false, false, false, false, false, false, false, false, false, false, false, false, false, false, false, false, false, false, false, false, false, false, false, false, false, false, false, false] [56] (s1 := ⟨[I d1, .bot, .bot, .ow 56, I a2, I b23, .bot, .bot, .bot, .bot, .bot, .bot, .bot, .bot, .bot, .bot, .bot, .bot, .bot, .bot, .bot, .bot, .bot, .bot, .bot, .bot, .bot, .bot, .bot, .bot, .bot, .bot, .bot, .bot, .bot, .bot, .bot, .bot, .bot, .bot, .bot, .bot, .bot, .bot, .bot, .bot, .bot, .bot, .bot, .bot, .bot], [(56, .arr 37 3 (l9.map c37))]⟩) ?_ ?_
                  · refine XL_cons rfl (X_of_Y0 rfl (E_move (I b8) rfl (by kernel_rfl))) ?_
                    refine XL_cons rfl (X_of_Y0 rfl (Y0_add64 (a := b8) (b := 1) rfl (by kernel_rfl) (by kernel_rfl))) ?_
                    refine XL_cons rfl (X_of_Y0 rfl (E_assign (I (w64 (b8 + 1))) rfl (by kernel_rfl))) ?_
                    refine XL_nil ?_
                    subst hb23
                    kernel_rfl
                  exact ⟨n, Nat.lt_succ_self n, _, _,  by rfl, h⟩
            · have h := of_false h hc12
              refine V_exit ?_
              obtain rfl := some_inj h
              show St.keep _ _ _ = _
              rfl
        show V _ _ _ _
        obtain ⟨a24, ha24, h⟩ := of_sI h
        refine V_reg [true, false, false, true, true, false, false, false, false, false, false, false, false, false, false, false, false, false, false, false, false, false, false, false, false, false, false, false, false, false, false, false, false, false, false, false, false, false, false, false, false, false, false, false, false, false, false, false, false, false, false] [56] (s1 := ⟨[I d1, .bot, .bot, .ow 56, I a24, .bot, .bot, .bot, .bot, .bot, .bot, .bot, .bot, .bot, .bot, .bot, .bot, .bot, .bot, .bot, .bot, .bot, .bot, .bot, .bot, .bot, .bot, .bot, .bot, .bot, .bot, .bot, .bot, .bot, .bot, .bot, .bot, .bot, .bot, .bot, .bot, .bot, .bot, .bot, .bot, .bot, .bot, .bot, .bot, .bot, .bot], [(56, .arr 37 3 (o11.map c37))]⟩) ?_ ?_
        · refine XL_cons rfl (X_of_Y0 rfl (E_move (I a2) rfl (by kernel_rfl))) ?_
          refine XL_cons rfl (X_of_Y0 rfl (Y0_add64 (a := a2) (b := 1) rfl (by kernel_rfl) (by kernel_rfl))) ?_
          refine XL_cons rfl (X_of_Y0 rfl (E_assign (I (w64 (a2 + 1))) rfl (by kernel_rfl))) ?_
          refine XL_nil ?_
          subst ha24
          kernel_rfl
        exact ⟨n, Nat.lt_succ_self n, _, _,  by rfl, h⟩
      · have h := of_false h hc6
        refine V_exit ?_
        obtain rfl := some_inj h
        show St.keep _ _ _ = _
        rfl
  show V _ _ _ _
  refine V_sreg [false, false, true, false, false, false, false, false, false, false, false, false, false, false, false, false, false, false, false, false, false, false, false, false, false, false, false, false, false, false, false, false, false, false, false, false, false, false, false, false, false, false, false, false, false, false, false, false, false, false, false] [56] (s1 := ⟨[.bot, .bot, .ow 56, .bot, .bot, .bot, .bot, .bot, .bot, .bot, .bot, .bot, .bot, .bot, .bot, .bot, .bot, .bot, .bot, .bot, .bot, .bot, .bot, .bot, .bot, .bot, .bot, .bot, .bot, .bot, .bot, .bot, .bot, .bot, .bot, .bot, .bot, .bot, .bot, .bot, .bot, .bot, .bot, .bot, .bot, .bot, .bot, .bot, .bot, .bot, .bot], [(56, .arr 37 3 (o5.map c37))]⟩) ?_ ?_
  · refine XL_cons rfl (X_of_Y0 rfl (E_move (.ow 56) rfl (by kernel_rfl))) ?_
    refine XL_cons rfl (X_of_Y0 rfl (E_assign (.ow 56) rfl (by kernel_rfl))) ?_
    refine XL_nil ?_
    kernel_rfl
  refine V_ret ?_
  obtain rfl := some_inj h
  show Post _ _ _ _ _
  exact ⟨.inr rfl, rfl, rfl, rfl⟩
theorem cf_impl_gcd : ∀ args w, (callFunc 84 args).run Try.prog w = .ok (.enter 84 args) w := run_callFunc Try.func84 (by kernel_rfl) (by kernel_rfl)
set_option maxRecDepth 100000 in
set_option maxHeartbeats 400000 in
theorem s_impl_gcd {a1 : Int} {b2 : Int} {r : Int} (h : r_impl_gcd a1 b2 = some r) : CallS Try.prog 84 [I a1, I b2] (I r) [] := by
  refine CallS_of_text (rs := [.t 4]) (vs := [.tmp 4]) Try.func84 rfl rfl (.cons rfl FitsL.nil) (by decide) 13 rfl ?_
  unfold r_impl_gcd at h
  show V _ _ ⟨[I a1, I b2, .bot, .bot, .bot, .bot, .bot, .bot, .bot, .bot, .bot, .bot, .bot], []⟩ _
  refine V_sreg [true, true, false, false, false, false, false, false, false, false, false, false, false] [] (s1 := ⟨[I a1, I b2, .bot, .bot, .bot, .bot, .bot, .bot, .bot, .bot, .bot, .bot, .bot], []⟩) ?_ ?_
  · refine XL_cons rfl (X_of_Y0 rfl (E_assign (I 0) rfl (by kernel_rfl))) ?_
    refine XL_nil ?_
    kernel_rfl
  refine V_seq ?_
  obtain ⟨o6, hLo6, h⟩ := of_bind h
  refine V_toK [true, false, false, false, false, false, false, false, false, false, false, false, false] [] (s1 := ⟨[I o6, .bot, .bot, .bot, .bot, .bot, .bot, .bot, .bot, .bot, .bot, .bot, .bot], []⟩) ?_ ?_
  · clear h
    refine V_block (V_loop (fun n s => ∃ (a3 : Int) (b4 : Int), s.keep [true, true, false, false, false, false, false, false, false, false, false, false, false] [] = (⟨[I a3, I b4, .bot, .bot, .bot, .bot, .bot, .bot, .bot, .bot, .bot, .bot, .bot], []⟩ : St) ∧ r_impl_gcd_L5 n a3 b4 = some o6) FU ⟨_, _,  by rfl, hLo6⟩ ?_)
    clear hLo6
    rintro n s ⟨a3, b4, hs, h⟩
    refine V_keep _ _ hs ?_
    clear hs
    cases n with
    | zero => cases h
    | succ n =>
      rw [r_impl_gcd_L5] at h
      refine V_seq ?_
      refine V_sreg [true, true, false, false, false, false, true, false, false, false, false, false, false] [] (s1 := ⟨[I a3, I b4, .bot, .bot, .bot, .bot, Bo (!eqI b4 0), .bot, .bot, .bot, .bot, .bot, .bot], []⟩) ?_ ?_
      · refine XL_cons rfl (X_of_Y0 rfl (E_move (I b4) rfl (by kernel_rfl))) ?_
        refine XL_cons rfl (X_of_Y0 rfl (Y0_new (k := .i64) (a := b4) (b := 0) rfl (by kernel_rfl) (by kernel_rfl))) ?_
        refine XL_nil ?_
        kernel_rfl
      refine V_cond rfl (fun hc7 => ?_) (fun hc7 => ?_)
      · have h := of_true h hc7
        refine V_skip ?_
        show V _ _ _ _
        refine V_block ?_
        obtain ⟨z8, hz8, h⟩ := of_bind h
        obtain ⟨b9, hb9, h⟩ := of_sI h
        refine V_dreg [0, 0, 0, 6, 3, 31] 6 [[.z, .b, .b, .b, .z, .z], [.b, .z, .b, .z, .z, .z], [.b, .b, .z, .z, .b, .z], [.b, .a, .a, .z, .b, .z], [.a, .a, .b, .b, .z, .z], [.a, .a, .a, .a, .a, .z]] [true, true, false, false, false, false, false, false, false, false, false, false, false] [] (s1 := ⟨[I b4, I b9, .bot, .bot, .bot, .bot, .bot, .bot, .bot, .bot, .bot, .bot, .bot], []⟩) (by kernel_rfl) (by kernel_rfl) ?_ ?_
        · refine DE_0 0 (I b4) (by kernel_rfl) rfl rfl rfl (gsat_none rfl) (by kernel_rfl) (E_move (I b4) rfl (by kernel_rfl)) 7 rfl ?_
          refine DE_0 1 (I a3) (by kernel_rfl) rfl rfl rfl (gsat_none rfl) (by kernel_rfl) (E_move (I a3) rfl (by kernel_rfl)) 8 rfl ?_
          refine DE_0 2 (I b4) (by kernel_rfl) rfl rfl rfl (gsat_none rfl) (by kernel_rfl) (E_move (I b4) rfl (by kernel_rfl)) 9 rfl ?_
          refine DE_0 3 (I (Int.tmod a3 b4)) (by kernel_rfl) rfl rfl rfl (gsat_none rfl) (by kernel_rfl) (Y0_rem (k := .i64) (a := a3) (b := b4) rfl (by kernel_rfl) (by kernel_rfl) (nz_some hz8)) 10 rfl ?_
          refine DE_0 4 (I b4) (by kernel_rfl) rfl rfl rfl (gsat_none rfl) (by kernel_rfl) (E_assign (I b4) rfl (by kernel_rfl)) 0 rfl ?_
          refine DE_0 5 (I (Int.tmod a3 b4)) (by kernel_rfl) rfl rfl rfl (gsat_none rfl) (by kernel_rfl) (E_assign (I (Int.tmod a3 b4)) rfl (by kernel_rfl)) 1 rfl ?_
          refine DL_nil (by kernel_rfl) ?_
          refine XL_nil ?_
          subst hb9
          kernel_rfl
        exact ⟨n, Nat.lt_succ_self n, _, _,  by rfl, h⟩
      · have h := of_false h hc7
        refine V_exit ?_
        obtain rfl := some_inj h
        show St.keep _ _ _ = _
        rfl
  show V _ _ _ _
  obtain ⟨y10, hy10, h⟩ := of_bind h
  refine V_sreg [false, false, false, false, true, false, false, false, false, false, false, false, false] [] (s1 := ⟨[.bot, .bot, .bot, .bot, I y10, .bot, .bot, .bot, .bot, .bot, .bot, .bot, .bot], []⟩) ?_ ?_
  · refine XL_cons rfl (X_of_Y0 rfl (E_move (I o6) rfl (by kernel_rfl))) ?_
    refine XL_cons rfl (X_of_Y1 rfl (Y1_call (s_impl_abs hy10) cf_impl_abs rfl (by kernel_rfl))) ?_
    refine XL_cons rfl (X_of_Y0 rfl (E_assign (I y10) rfl (by kernel_rfl))) ?_
    refine XL_nil ?_
    kernel_rfl
  refine V_ret ?_
  obtain rfl := some_inj h
  show Post _ _ _ _ _
  exact ⟨.inr rfl, rfl, rfl, rfl⟩
theorem cf_impl_Form_content : ∀ args w, (callFunc 131 args).run Try.prog w = .ok (.enter 131 args) w := run_callFunc Try.func131 (by kernel_rfl) (by kernel_rfl)
set_option maxRecDepth 100000 in
set_option maxHeartbeats 400000 in
theorem s_impl_Form_content {f1 : (Int × Int × Int)} {r : Int} (h : r_impl_Form_content f1 = some r) : CallS Try.prog 131 [.ag [Ti f1.1, Ti f1.2.1, Ti f1.2.2]] (I r) [] := by
  refine CallS_of_text (rs := [.t 2]) (vs := [.tmp 2]) Try.func131 rfl rfl (.cons rfl FitsL.nil) (by decide) 11 rfl ?_
  unfold r_impl_Form_content at h
  show V _ _ ⟨[.ag [Ti f1.1, Ti f1.2.1, Ti f1.2.2], .bot, .bot, .bot, .bot, .bot, .bot, .bot, .bot, .bot, .bot], []⟩ _
  refine V_sreg [false, true, false, false, false, false, false, false, false, false, false] [8] (s1 := ⟨[.bot, .pt 8 0, .bot, .bot, .bot, .bot, .bot, .bot, .bot, .bot, .bot], [(8, .box [Ti f1.1, Ti f1.2.1, Ti f1.2.2])]⟩) ?_ ?_
  · refine XL_cons rfl (X_of_Y1 rfl (Y1_box (cs := [Ti f1.1, Ti f1.2.1, Ti f1.2.2]) rfl (by kernel_rfl))) ?_
    refine XL_cons rfl (X_of_Y0 rfl (E_assign (I 0) rfl (by kernel_rfl))) ?_
    refine XL_nil ?_
    kernel_rfl
  obtain ⟨y2, hy2, h⟩ := of_bind h
  obtain ⟨y3, hy3, h⟩ := of_bind h
  refine V_sdreg [0, 1, 0, 4, 0, 16, 60, 127, 255] 9 [[.z, .z, .b, .b, .b, .b, .b, .z, .z], [.a, .z, .b, .b, .b, .b, .b, .z, .z], [.b, .b, .z, .z, .b, .b, .z, .z, .z], [.b, .b, .a, .z, .b, .b, .z, .z, .z], [.b, .b, .b, .b, .z, .z, .z, .z, .z], [.b, .b, .b, .b, .a, .z, .z, .z, .z], [.b, .b, .a, .a, .a, .a, .z, .z, .z], [.a, .a, .a, .a, .a, .a, .a, .z, .z], [.a, .a, .a, .a, .a, .a, .a, .a, .z]] [false, false, true, false, false, false, false, false, false, false, false] [] (s1 := ⟨[.bot, .bot, I y3, .bot, .bot, .bot, .bot, .bot, .bot, .bot, .bot], []⟩) (by kernel_rfl) (by kernel_rfl) ?_ ?_
  · refine DE_0 0 (.pt 8 0) (by kernel_rfl) rfl rfl rfl (gsat_none rfl) (by kernel_rfl) (E_field (.pt 8 0) Try.underlying37 rfl sz3 rfl (by kernel_rfl) (by intro hh; cases hh)) 3 rfl ?_
    refine DE_0 1 (I f1.1) (by kernel_rfl) rfl rfl rfl (gsat_none rfl) (by kernel_rfl) (Y0_load1 (c := Ti f1.1) (cs := [Ti f1.2.1, Ti f1.2.2]) sc3 rfl (by kernel_rfl)) 4 rfl ?_
    refine DE_0 2 (.pt 8 1) (by kernel_rfl) rfl rfl rfl (gsat_none rfl) (by kernel_rfl) (E_field (.pt 8 1) Try.underlying37 rfl sz3 rfl (by kernel_rfl) (by intro hh; cases hh)) 5 rfl ?_
    refine DE_0 3 (I f1.2.1) (by kernel_rfl) rfl rfl rfl (gsat_none rfl) (by kernel_rfl) (Y0_load1 (c := Ti f1.2.1) (cs := [Ti f1.2.2]) sc3 rfl (by kernel_rfl)) 6 rfl ?_
    refine DE_0 4 (.pt 8 2) (by kernel_rfl) rfl rfl rfl (gsat_none rfl) (by kernel_rfl) (E_field (.pt 8 2) Try.underlying37 rfl sz3 rfl (by kernel_rfl) (by intro hh; cases hh)) 7 rfl ?_
    refine DE_0 5 (I f1.2.2) (by kernel_rfl) rfl rfl rfl (gsat_none rfl) (by kernel_rfl) (Y0_load1 (c := Ti f1.2.2) (cs := []) sc3 rfl (by kernel_rfl)) 8 rfl ?_
    refine DE_1 6 (by kernel_rfl) rfl rfl rfl (gsat_none rfl) (Y1_call (s_impl_gcd hy2) cf_impl_gcd rfl (by kernel_rfl)) rfl rfl rfl 9 rfl ?_
    refine DE_1 7 (by kernel_rfl) rfl rfl rfl (gsat_none rfl) (Y1_call (s_impl_gcd hy3) cf_impl_gcd rfl (by kernel_rfl)) rfl rfl rfl 10 rfl ?_
    refine DE_0 8 (I y3) (by kernel_rfl) rfl rfl rfl (gsat_none rfl) (by kernel_rfl) (E_assign (I y3) rfl (by kernel_rfl)) 2 rfl ?_
    refine DL_nil (by kernel_rfl) ?_
    refine XL_nil ?_
    kernel_rfl
  refine V_ret ?_
  obtain rfl := some_inj h
  show Post _ _ _ _ _
  exact ⟨.inr rfl, rfl, rfl, rfl⟩
theorem cf_impl_primitiveOf : ∀ args w, (callFunc 78 args).run Try.prog w = .ok (.enter 78 args) w := run_callFunc Try.func78 (by kernel_rfl) (by kernel_rfl)
set_option maxRecDepth 100000 in
set_option maxHeartbeats 400000 in
theorem s_impl_primitiveOf {forms1 : List ((Int × Int × Int))} {r : List ((Int × Int × Int))} (h : r_impl_primitiveOf forms1 = some r) : CallS Try.prog 78 [.c (.sl (forms1.map c37))] (.ow 0) [(0, .arr 37 3 (r.map c37))] := by
  refine CallS_of_text (rs := [.t 2]) (vs := [.tmp 2]) Try.func78 rfl rfl (.cons rfl FitsL.nil) (by decide) 22 rfl ?_
  unfold r_impl_primitiveOf at h
  show V _ _ ⟨[.c (.sl (forms1.map c37)), .bot, .bot, .bot, .bot, .bot, .bot, .bot, .bot, .bot, .bot, .bot, .bot, .bot, .bot, .bot, .bot, .bot, .bot, .bot, .bot, .bot], []⟩ _
  refine V_sreg [true, false, false, false, false, false, false, false, false, false, false, false, false, false, false, false, false, false, false, false, false, false] [] (s1 := ⟨[.c (.sl (forms1.map c37)), .bot, .bot, .bot, .bot, .bot, .bot, .bot, .bot, .bot, .bot, .bot, .bot, .bot, .bot, .bot, .bot, .bot, .bot, .bot, .bot, .bot], []⟩) ?_ ?_
  · refine XL_cons rfl (X_of_Y1 rfl (Y1_nil (e := 37) 3 (by decide) (.inl rfl))) ?_
    refine XL_nil ?_
    kernel_rfl
  refine V_sreg [true, false, false, true, false, false, false, false, false, false, false, false, false, false, false, false, false, false, false, false, false, false] [48] (s1 := ⟨[.c (.sl (forms1.map c37)), .bot, .bot, .ow 48, .bot, .bot, .bot, .bot, .bot, .bot, .bot, .bot, .bot, .bot, .bot, .bot, .bot, .bot, .bot, .bot, .bot, .bot], [(48, .arr 37 3 ((([] : List ((Int × Int × Int)))).map c37))]⟩) ?_ ?_
  · refine XL_cons rfl (X_of_Y1 rfl (Y1_bslice0 Try.underlying31 sz37 (by decide) rfl rfl)) ?_
    refine XL_cons rfl (X_of_Y0 rfl (E_assign (.ow 48) rfl (by kernel_rfl))) ?_
    refine XL_nil ?_
    kernel_rfl
  refine V_seq ?_
  refine V_sreg [false, false, false, true, false, false, false, true, true, true, false, false, false, false, false, false, false, false, false, false, false, false] [48] (s1 := ⟨[.bot, .bot, .bot, .ow 48, .bot, .bot, .bot, .c (.sl (forms1.map c37)), I ((forms1.length : Int)), I 0, .bot, .bot, .bot, .bot, .bot, .bot, .bot, .bot, .bot, .bot, .bot, .bot], [(48, .arr 37 3 ((([] : List ((Int × Int × Int)))).map c37))]⟩) ?_ ?_
  · refine XL_cons rfl (X_of_Y0 rfl (E_move (.c (.sl (forms1.map c37))) rfl (by kernel_rfl))) ?_
    refine XL_cons rfl (X_of_Y0 rfl (Y0_lenM (c := c37) (xs := forms1) Try.underlying31 rfl (by kernel_rfl))) ?_
    refine XL_cons rfl (X_of_Y0 rfl (E_move (I 0) rfl (by kernel_rfl))) ?_
    refine XL_nil ?_
    kernel_rfl
  obtain ⟨o5, hLo5, h⟩ := of_bind h
  refine V_toK [false, false, false, true, false, false, false, false, false, false, false, false, false, false, false, false, false, false, false, false, false, false] [48] (s1 := ⟨[.bot, .bot, .bot, .ow 48, .bot, .bot, .bot, .bot, .bot, .bot, .bot, .bot, .bot, .bot, .bot, .bot, .bot, .bot, .bot, .bot, .bot, .bot], [(48, .arr 37 3 (o5.map c37))]⟩) ?_ ?_
  · clear h
    refine V_block (V_loop (fun n s => ∃ (t2 : Int) (l3 : List ((Int × Int × Int))), s.keep [false, false, false, true, false, false, false, true, true, true, false, false, false, false, false, false, false, false, false, false, false, false] [48] = (⟨[.bot, .bot, .bot, .ow 48, .bot, .bot, .bot, .c (.sl (forms1.map c37)), I ((forms1.length : Int)), I t2, .bot, .bot, .bot, .bot, .bot, .bot, .bot, .bot, .bot, .bot, .bot, .bot], [(48, .arr 37 3 (l3.map c37))]⟩ : St) ∧ r_impl_primitiveOf_L4 forms1 n t2 l3 = some o5) FU ⟨_, _,  by rfl, hLo5⟩ ?_)
    clear hLo5
    rintro n s ⟨t2, l3, hs, h⟩
    refine V_keep _ _ hs ?_
    clear hs
    cases n with
    | zero => cases h
    | succ n =>
      rw [r_impl_primitiveOf_L4] at h
      refine V_sreg [false, false, false, true, false, false, false, true, true, true, true, false, false, false, false, false, false, false, false, false, false, false] [48] (s1 := ⟨[.bot, .bot, .bot, .ow 48, .bot, .bot, .bot, .c (.sl (forms1.map c37)), I ((forms1.length : Int)), I t2, Bo (ltI t2 ((forms1.length : Int))), .bot, .bot, .bot, .bot, .bot, .bot, .bot, .bot, .bot, .bot, .bot], [(48, .arr 37 3 (l3.map c37))]⟩) ?_ ?_
      · refine XL_cons rfl (X_of_Y0 rfl (Y0_ltw (k := .i64) (a := t2) (b := (forms1.length : Int)) rfl (by kernel_rfl) (by kernel_rfl))) ?_
        refine XL_nil ?_
        kernel_rfl
      refine V_seq ?_
      refine V_cond rfl (fun hc6 => ?_) (fun hc6 => ?_)
      · have h := of_true h hc6
        refine V_skip ?_
        show V _ _ _ _
        refine V_seq ?_
        refine V_block ?_
        obtain ⟨e7, he7, h⟩ := of_bind h
        refine V_sreg [false, false, false, true, false, true, false, true, true, true, false, false, false, false, false, false, false, false, false, false, false, false] [40, 48] (s1 := ⟨[.bot, .bot, .bot, .ow 48, .bot, .pt 40 0, .bot, .c (.sl (forms1.map c37)), I ((forms1.length : Int)), I t2, .bot, .bot, .bot, .bot, .bot, .bot, .bot, .bot, .bot, .bot, .bot, .bot], [(40, .box [Ti e7.1, Ti e7.2.1, Ti e7.2.2]), (48, .arr 37 3 (l3.map c37))]⟩) ?_ ?_
        · refine XL_cons rfl (X_of_Y0 rfl (Y0_idxM (c := c37) (xs := forms1) (v := e7) (n := t2) Try.underlying31 sz37 rfl (by kernel_rfl) (by kernel_rfl) he7)) ?_
          refine XL_cons rfl (X_of_Y0 rfl (E_loadn (cs := [Ti e7.1, Ti e7.2.1, Ti e7.2.2]) [Ti e7.1, Ti e7.2.1, Ti e7.2.2] wd37 rfl (by kernel_rfl) (Nat.le_of_ble_eq_true rfl) (by kernel_rfl))) ?_
          refine XL_cons rfl (X_of_Y1 rfl (Y1_alloc (z := zv37) rfl zf37 rfl)) ?_
          refine XL_cons rfl (E_store (id := 40) (off := 0) (cs := [Ti 0, Ti 0, Ti 0]) (vc := [Ti e7.1, Ti e7.2.1, Ti e7.2.2]) [Ti e7.1, Ti e7.2.1, Ti e7.2.2] rfl rfl (by kernel_rfl) (by kernel_rfl) (by kernel_rfl) sz37 (Nat.le_of_ble_eq_true rfl) (by kernel_rfl)) ?_
          refine XL_nil ?_
          kernel_rfl
        obtain ⟨y8, hy8, h⟩ := of_bind h
        refine V_sreg [false, false, false, true, false, true, false, true, true, true, false, false, false, false, false, true, false, false, false, false, false, false] [40, 48] (s1 := ⟨[.bot, .bot, .bot, .ow 48, .bot, .pt 40 0, .bot, .c (.sl (forms1.map c37)), I ((forms1.length : Int)), I t2, .bot, .bot, .bot, .bot, .bot, Bo (eqI y8 1), .bot, .bot, .bot, .bot, .bot, .bot], [(40, .box [Ti e7.1, Ti e7.2.1, Ti e7.2.2]), (48, .arr 37 3 (l3.map c37))]⟩) ?_ ?_
        · refine XL_cons rfl (X_of_Y0 rfl (E_loadn (cs := [Ti e7.1, Ti e7.2.1, Ti e7.2.2]) [Ti e7.1, Ti e7.2.1, Ti e7.2.2] wd37 rfl (by kernel_rfl) (Nat.le_of_ble_eq_true rfl) (by kernel_rfl))) ?_
          refine XL_cons rfl (X_of_Y1 rfl (Y1_call (s_impl_Form_content hy8) cf_impl_Form_content rfl (by kernel_rfl))) ?_
          refine XL_cons rfl (X_of_Y0 rfl (Y0_eqw (k := .i64) (a := y8) (b := 1) rfl (by kernel_rfl) (by kernel_rfl))) ?_
          refine XL_nil ?_
          kernel_rfl
        refine V_cond rfl (fun hc9 => ?_) (fun hc9 => ?_)
        · have h := of_true h hc9
          obtain ⟨u10, hu10, h⟩ := of_bind h
          refine V_reg [false, false, false, true, false, false, false, true, true, true, false, false, false, false, false, false, false, false, false, false, false, false] [48] (s1 := ⟨[.bot, .bot, .bot, .ow 48, .bot, .bot, .bot, .c (.sl (forms1.map c37)), I ((forms1.length : Int)), I t2, .bot, .bot, .bot, .bot, .bot, .bot, .bot, .bot, .bot, .bot, .bot, .bot], [(48, .arr 37 3 ((l3 ++ ([e7])).map c37))]⟩) ?_ ?_
          · refine XL_cons rfl (X_of_Y0 rfl (E_move (.ow 48) rfl (by kernel_rfl))) ?_
            refine XL_cons rfl (X_of_Y0 rfl (E_loadn (cs := [Ti e7.1, Ti e7.2.1, Ti e7.2.2]) [Ti e7.1, Ti e7.2.1, Ti e7.2.2] wd37 rfl (by kernel_rfl) (Nat.le_of_ble_eq_true rfl) (by kernel_rfl))) ?_
            refine XL_cons rfl (X_of_Y1 rfl (Y1_bslice (z := zv37) (els := [e7].map c37) Try.underlying31 iz37 rfl (by decide) rfl (by kernel_rfl) rfl (by simp [c37]) (by decide) (by decide))) ?_
            refine XL_cons rfl (X_appendM (c := c37) (xs := l3) (ys := [e7]) (id := 48) (z := zv37) rfl rfl Try.underlying31 izb37 rfl (by kernel_rfl) (by kernel_rfl) (by kernel_rfl) (fun _ => rfl) (by simp) (room_some hu10) (by decide)) ?_
            refine XL_cons rfl (X_of_Y0 rfl (E_assign (.ow 48) rfl (by kernel_rfl))) ?_
            refine XL_nil ?_
            kernel_rfl
          show V _ _ _ _
          obtain ⟨t11, ht11, h⟩ := of_sI h
          refine V_reg [false, false, false, true, false, false, false, true, true, true, false, false, false, false, false, false, false, false, false, false, false, false] [48] (s1 := ⟨[.bot, .bot, .bot, .ow 48, .bot, .bot, .bot, .c (.sl (forms1.map c37)), I ((forms1.length : Int)), I t11, .bot, .bot, .bot, .bot, .bot, .bot, .bot, .bot, .bot, .bot, .bot, .bot], [(48, .arr 37 3 ((l3 ++ ([e7])).map c37))]⟩) ?_ ?_
          · refine XL_cons rfl (X_of_Y0 rfl (Y0_add64 (a := t2) (b := 1) rfl (by kernel_rfl) (by kernel_rfl))) ?_
            refine XL_cons rfl (X_of_Y0 rfl (E_move (I (w64 (t2 + 1))) rfl (by kernel_rfl))) ?_
            refine XL_nil ?_
            subst ht11
            kernel_rfl
          exact ⟨n, Nat.lt_succ_self n, _, _,  by rfl, h⟩
        · have h := of_false h hc9
          refine V_skip ?_
          show V _ _ _ _
          obtain ⟨t12, ht12, h⟩ := of_sI h
          refine V_reg [false, false, false, true, false, false, false, true, true, true, false, false, false, false, false, false, false, false, false, false, false, false] [48] (s1 := ⟨[.bot, .bot, .bot, .ow 48, .bot, .bot, .bot, .c (.sl (forms1.map c37)), I ((forms1.length : Int)), I t12, .bot, .bot, .bot, .bot, .bot, .bot, .bot, .bot, .bot, .bot, .bot, .bot], [(48, .arr 37 3 (l3.map c37))]⟩) ?_ ?_
          · refine XL_cons rfl (X_of_Y0 rfl (Y0_add64 (a := t2) (b := 1) rfl (by kernel_rfl) (by kernel_rfl))) ?_
            refine XL_cons rfl (X_of_Y0 rfl (E_move (I (w64 (t2 + 1))) rfl (by kernel_rfl))) ?_
            refine XL_nil ?_
            subst ht12
            kernel_rfl
          exact ⟨n, Nat.lt_succ_self n, _, _,  by rfl, h⟩
      · have h := of_false h hc6
        refine V_exit ?_
        obtain rfl := some_inj h
        show St.keep _ _ _ = _
        rfl
  show V _ _ _ _
  refine V_sreg [false, false, true, false, false, false, false, false, false, false, false, false, false, false, false, false, false, false, false, false, false, false] [48] (s1 := ⟨[.bot, .bot, .ow 48, .bot, .bot, .bot, .bot, .bot, .bot, .bot, .bot, .bot, .bot, .bot, .bot, .bot, .bot, .bot, .bot, .bot, .bot, .bot], [(48, .arr 37 3 (o5.map c37))]⟩) ?_ ?_
  · refine XL_cons rfl (X_of_Y0 rfl (E_move (.ow 48) rfl (by kernel_rfl))) ?_
    refine XL_cons rfl (X_of_Y0 rfl (E_assign (.ow 48) rfl (by kernel_rfl))) ?_
    refine XL_nil ?_
    kernel_rfl
  refine V_ret ?_
  obtain rfl := some_inj h
  show Post _ _ _ _ _
  exact ⟨.inr rfl, rfl, rfl, rfl⟩
theorem cf_impl_reducedForms : ∀ args w, (callFunc 70 args).run Try.prog w = .ok (.enter 70 args) w := run_callFunc Try.func70 (by kernel_rfl) (by kernel_rfl)
set_option maxRecDepth 100000 in
set_option maxHeartbeats 400000 in
theorem s_impl_reducedForms {d1 : Int} {r : List ((Int × Int × Int))} (h : r_impl_reducedForms d1 = some r) : CallS Try.prog 70 [I d1] (.ow 0) [(0, .arr 37 3 (r.map c37))] := by
  refine CallS_of_text (rs := [.t 2]) (vs := [.tmp 2]) Try.func70 rfl rfl (.cons rfl FitsL.nil) (by decide) 6 rfl ?_
  unfold r_impl_reducedForms at h
  show V _ _ ⟨[I d1, .bot, .bot, .bot, .bot, .bot], []⟩ _
  refine V_sreg [true, false, false, false, false, false] [] (s1 := ⟨[I d1, .bot, .bot, .bot, .bot, .bot], []⟩) ?_ ?_
  · refine XL_cons rfl (X_of_Y1 rfl (Y1_nil (e := 37) 3 (by decide) (.inl rfl))) ?_
    refine XL_nil ?_
    kernel_rfl
  obtain ⟨y2, hy2, h⟩ := of_bind h
  obtain ⟨y3, hy3, h⟩ := of_bind h
  refine V_sreg [false, false, true, false, false, false] [40] (s1 := ⟨[.bot, .bot, .ow 40, .bot, .bot, .bot], [(40, .arr 37 3 (y3.map c37))]⟩) ?_ ?_
  · refine XL_cons rfl (X_of_Y0 rfl (E_move (I d1) rfl (by kernel_rfl))) ?_
    refine XL_cons rfl (X_of_Y1 rfl (Y1_call (s_impl_allReduced hy2) cf_impl_allReduced rfl (by kernel_rfl))) ?_
    refine XL_cons rfl (X_of_Y1 rfl (Y1_callS (s_impl_primitiveOf hy3) cf_impl_primitiveOf rfl (by kernel_rfl) rfl (flatE_cons (fun _ => rfl) rfl))) ?_
    refine XL_cons rfl (X_of_Y0 rfl (E_assign (.ow 40) rfl (by kernel_rfl))) ?_
    refine XL_nil ?_
    kernel_rfl
  refine V_ret ?_
  obtain rfl := some_inj h
  show Post _ _ _ _ _
  exact ⟨.inr rfl, rfl, rfl, rfl⟩
theorem cf_impl_ReducedForms : ∀ args w, (callFunc 27 args).run Try.prog w = .ok (.enter 27 args) w := run_callFunc Try.func27 (by kernel_rfl) (by kernel_rfl)
set_option maxRecDepth 100000 in
set_option maxHeartbeats 400000 in
theorem s_impl_ReducedForms {d1 : Int} {r : ((List ((Int × Int × Int))) × Bool)} (h : r_impl_ReducedForms d1 = some r) : CallS Try.prog 27 [I d1] (.tc (.ow 0) (.tc (Bo r.2) .tn)) [(0, .arr 37 3 (r.1.map c37))] := by
  refine CallS_of_text (rs := [.t 2, .t 3]) (vs := [.tmp 2, .tmp 3]) Try.func27 rfl rfl (.cons rfl (.cons rfl FitsL.nil)) (by decide) 10 rfl ?_
  unfold r_impl_ReducedForms at h
  show V _ _ ⟨[I d1, .bot, .bot, .bot, .bot, .bot, .bot, .bot, .bot, .bot], []⟩ _
  refine V_sreg [true, false, false, false, false, false, false, false, false, false] [] (s1 := ⟨[I d1, .bot, .bot, .bot, .bot, .bot, .bot, .bot, .bot, .bot], []⟩) ?_ ?_
  · refine XL_cons rfl (X_of_Y1 rfl (Y1_nil (e := 37) 3 (by decide) (.inl rfl))) ?_
    refine XL_cons rfl (X_of_Y0 rfl (E_assign (Bo false) rfl (by kernel_rfl))) ?_
    refine XL_nil ?_
    kernel_rfl
  refine V_seq ?_
  obtain ⟨y2, hy2, h⟩ := of_bind h
  refine V_sreg [true, false, false, false, false, false, true, false, false, false] [] (s1 := ⟨[I d1, .bot, .bot, .bot, .bot, .bot, Bo (!y2), .bot, .bot, .bot], []⟩) ?_ ?_
  · refine XL_cons rfl (X_of_Y0 rfl (E_move (I d1) rfl (by kernel_rfl))) ?_
    refine XL_cons rfl (X_of_Y1 rfl (Y1_call (s_impl_isNegativeDisc hy2) cf_impl_isNegativeDisc rfl (by kernel_rfl))) ?_
    refine XL_cons rfl (X_of_Y0 rfl (Y0_not (b := y2) rfl (by kernel_rfl))) ?_
    refine XL_nil ?_
    kernel_rfl
  refine V_cond rfl (fun hc3 => ?_) (fun hc3 => ?_)
  · have h := of_true h hc3
    refine V_sreg [false, false, true, true, false, false, false, false, false, false] [56] (s1 := ⟨[.bot, .bot, .ow 56, Bo false, .bot, .bot, .bot, .bot, .bot, .bot], [(56, .arr 37 3 ((([] : List ((Int × Int × Int)))).map c37))]⟩) ?_ ?_
    · refine XL_cons rfl (X_of_Y1 rfl (Y1_bslice0 Try.underlying31 sz37 (by decide) rfl rfl)) ?_
      refine XL_cons rfl (X_of_Y0 rfl (E_assign (.ow 56) rfl (by kernel_rfl))) ?_
      refine XL_cons rfl (X_of_Y0 rfl (E_assign (Bo false) rfl (by kernel_rfl))) ?_
      refine XL_nil ?_
      kernel_rfl
    refine V_ret ?_
    obtain rfl := some_inj h
    show Post _ _ _ _ _
    exact ⟨.inr rfl, rfl, rfl, rfl⟩
  · have h := of_false h hc3
    refine V_skip ?_
    show V _ _ _ _
    obtain ⟨y4, hy4, h⟩ := of_bind h
    refine V_sreg [false, false, true, true, false, false, false, false, false, false] [72] (s1 := ⟨[.bot, .bot, .ow 72, Bo true, .bot, .bot, .bot, .bot, .bot, .bot], [(72, .arr 37 3 (y4.map c37))]⟩) ?_ ?_
    · refine XL_cons rfl (X_of_Y0 rfl (E_move (I d1) rfl (by kernel_rfl))) ?_
      refine XL_cons rfl (X_of_Y1 rfl (Y1_call (s_impl_reducedForms hy4) cf_impl_reducedForms rfl (by kernel_rfl))) ?_
      refine XL_cons rfl (X_of_Y0 rfl (E_assign (.ow 72) rfl (by kernel_rfl))) ?_
      refine XL_cons rfl (X_of_Y0 rfl (E_assign (Bo true) rfl (by kernel_rfl))) ?_
      refine XL_nil ?_
      kernel_rfl
    refine V_ret ?_
    obtain rfl := some_inj h
    show Post _ _ _ _ _
    exact ⟨.inr rfl, rfl, rfl, rfl⟩
theorem cf_impl_ClassNumber : ∀ args w, (callFunc 12 args).run Try.prog w = .ok (.enter 12 args) w := run_callFunc Try.func12 (by kernel_rfl) (by kernel_rfl)
set_option maxRecDepth 100000 in
set_option maxHeartbeats 400000 in
theorem s_impl_ClassNumber {d1 : Int} {r : (Int × Bool)} (h : r_impl_ClassNumber d1 = some r) : CallS Try.prog 12 [I d1] (.tc (I r.1) (.tc (Bo r.2) .tn)) [] := by
  refine CallS_of_text (rs := [.t 2, .t 3]) (vs := [.tmp 2, .tmp 3]) Try.func12 rfl rfl (.cons rfl (.cons rfl FitsL.nil)) (by decide) 14 rfl ?_
  unfold r_impl_ClassNumber at h
  show V _ _ ⟨[I d1, .bot, .bot, .bot, .bot, .bot, .bot, .bot, .bot, .bot, .bot, .bot, .bot, .bot], []⟩ _
  refine V_sreg [true, false, false, false, false, false, false, false, false, false, false, false, false, false] [] (s1 := ⟨[I d1, .bot, .bot, .bot, .bot, .bot, .bot, .bot, .bot, .bot, .bot, .bot, .bot, .bot], []⟩) ?_ ?_
  · refine XL_cons rfl (X_of_Y0 rfl (E_assign (I 0) rfl (by kernel_rfl))) ?_
    refine XL_cons rfl (X_of_Y0 rfl (E_assign (Bo false) rfl (by kernel_rfl))) ?_
    refine XL_nil ?_
    kernel_rfl
  obtain ⟨y2, hy2, h⟩ := of_bind h
  refine V_sreg [false, false, false, false, true, true, false, false, false, false, false, false, false, false] [64] (s1 := ⟨[.bot, .bot, .bot, .bot, .ow 64, Bo y2.2, .bot, .bot, .bot, .bot, .bot, .bot, .bot, .bot], [(64, .arr 37 3 (y2.1.map c37))]⟩) ?_ ?_
  · refine XL_cons rfl (X_of_Y0 rfl (E_move (I d1) rfl (by kernel_rfl))) ?_
    refine XL_cons rfl (X_of_Y1 rfl (Y1_call (s_impl_ReducedForms hy2) cf_impl_ReducedForms rfl (by kernel_rfl))) ?_
    refine XL_cons rfl (X_of_Y0 rfl (E_move (.tc (.ow 64) (.tc (Bo y2.2) .tn)) rfl (by kernel_rfl))) ?_
    refine XL_cons rfl (X_of_Y0 rfl (E_ext (n := 0) (.ow 64) (.tc (Bo y2.2) .tn) (.ow 64) rfl (by kernel_rfl) (by kernel_rfl) (by intro hh; cases hh))) ?_
    refine XL_cons rfl (X_of_Y0 rfl (E_ext (n := 1) (.ow 64) (.tc (Bo y2.2) .tn) (Bo y2.2) rfl (by kernel_rfl) (by kernel_rfl) (by intro hh; cases hh))) ?_
    refine XL_cons rfl (X_of_Y0 rfl (E_assign (.ow 64) rfl (by kernel_rfl))) ?_
    refine XL_cons rfl (X_of_Y0 rfl (E_assign (Bo y2.2) rfl (by kernel_rfl))) ?_
    refine XL_nil ?_
    kernel_rfl
  refine V_sreg [false, false, true, true, false, false, false, false, false, false, false, false, false, false] [] (s1 := ⟨[.bot, .bot, I ((y2.1.length : Int)), Bo y2.2, .bot, .bot, .bot, .bot, .bot, .bot, .bot, .bot, .bot, .bot], []⟩) ?_ ?_
  · refine XL_cons rfl (X_of_Y0 rfl (E_move (.ow 64) rfl (by kernel_rfl))) ?_
    refine XL_cons rfl (X_of_Y0 rfl (Y0_lenM (c := c37) (xs := y2.1) Try.underlying31 rfl (by kernel_rfl))) ?_
    refine XL_cons rfl (X_of_Y0 rfl (E_move (Bo y2.2) rfl (by kernel_rfl))) ?_
    refine XL_cons rfl (X_of_Y0 rfl (E_assign (I ((y2.1.length : Int))) rfl (by kernel_rfl))) ?_
    refine XL_cons rfl (X_of_Y0 rfl (E_assign (Bo y2.2) rfl (by kernel_rfl))) ?_
    refine XL_nil ?_
    kernel_rfl
  refine V_ret ?_
  obtain rfl := some_inj h
  show Post _ _ _ _ _
  exact ⟨.inr rfl, rfl, rfl, rfl⟩
theorem cf_impl_ClassNumberByHalf : ∀ args w, (callFunc 13 args).run Try.prog w = .ok (.enter 13 args) w := run_callFunc Try.func13 (by kernel_rfl) (by kernel_rfl)
set_option maxRecDepth 100000 in
set_option maxHeartbeats 400000 in
theorem s_impl_ClassNumberByHalf {d1 : Int} {r : (Int × Bool)} (h : r_impl_ClassNumberByHalf d1 = some r) : CallS Try.prog 13 [I d1] (.tc (I r.1) (.tc (Bo r.2) .tn)) [] := by
  refine CallS_of_text (rs := [.t 2, .t 3]) (vs := [.tmp 2, .tmp 3]) Try.func13 rfl rfl (.cons rfl (.cons rfl FitsL.nil)) (by decide) 30 rfl ?_
  unfold r_impl_ClassNumberByHalf at h
  show V _ _ ⟨[I d1, .bot, .bot, .bot, .bot, .bot, .bot, .bot, .bot, .bot, .bot, .bot, .bot, .bot, .bot, .bot, .bot, .bot, .bot, .bot, .bot, .bot, .bot, .bot, .bot, .bot, .bot, .bot, .bot, .bot], []⟩ _
  refine V_sreg [true, false, false, false, false, false, false, false, false, false, false, false, false, false, false, false, false, false, false, false, false, false, false, false, false, false, false, false, false, false] [] (s1 := ⟨[I d1, .bot, .bot, .bot, .bot, .bot, .bot, .bot, .bot, .bot, .bot, .bot, .bot, .bot, .bot, .bot, .bot, .bot, .bot, .bot, .bot, .bot, .bot, .bot, .bot, .bot, .bot, .bot, .bot, .bot], []⟩) ?_ ?_
  · refine XL_cons rfl (X_of_Y0 rfl (E_assign (I 0) rfl (by kernel_rfl))) ?_
    refine XL_cons rfl (X_of_Y0 rfl (E_assign (Bo false) rfl (by kernel_rfl))) ?_
    refine XL_nil ?_
    kernel_rfl
  refine V_seq ?_
  obtain ⟨y2, hy2, h⟩ := of_bind h
  refine V_sreg [true, false, false, false, false, false, false, false, false, false, false, false, true, false, false, false, false, false, false, false, false, false, false, false, false, false, false, false, false, false] [] (s1 := ⟨[I d1, .bot, .bot, .bot, .bot, .bot, .bot, .bot, .bot, .bot, .bot, .bot, Bo (bif (!y2) then true else (leI (-4) d1)), .bot, .bot, .bot, .bot, .bot, .bot, .bot, .bot, .bot, .bot, .bot, .bot, .bot, .bot, .bot, .bot, .bot], []⟩) ?_ ?_
  · refine XL_cons rfl (X_of_Y0 rfl (E_move (I d1) rfl (by kernel_rfl))) ?_
    refine XL_cons rfl (X_of_Y1 rfl (Y1_call (s_impl_isFundamentalNegative hy2) cf_impl_isFundamentalNegative rfl (by kernel_rfl))) ?_
    refine XL_cons rfl (X_of_Y0 rfl (Y0_not (b := y2) rfl (by kernel_rfl))) ?_
    refine XL_cons rfl (X_of_Y0 rfl (E_move (Bo (!y2)) rfl (by kernel_rfl))) ?_
    refine XL_split (!y2) (fun hc3 => ?_) (fun hc3 => ?_)
    · refine XL_skipF (!y2) rfl rfl (by kernel_rfl) hc3 rfl ?_
      refine XL_skipF (!y2) rfl rfl (by kernel_rfl) hc3 rfl ?_
      refine XL_cons rfl (X_of_Y0 rfl (Y0_pick1 (b := !y2) (p := true) (q := leI (-4) d1) rfl (by kernel_rfl) hc3 (by kernel_rfl))) ?_
      refine XL_nil ?_
      kernel_rfl
    · refine XL_takeC (!y2) rfl rfl (by kernel_rfl) hc3 (X_of_Y0 rfl (E_move (I d1) rfl (by kernel_rfl))) ?_
      refine XL_takeC (!y2) rfl rfl (by kernel_rfl) hc3 (X_of_Y0 rfl (Y0_gew (k := .i64) (a := d1) (b := -4) rfl (by kernel_rfl) (by kernel_rfl))) ?_
      refine XL_cons rfl (X_of_Y0 rfl (Y0_pick0 (b := !y2) (p := true) (q := leI (-4) d1) rfl (by kernel_rfl) hc3 (by kernel_rfl))) ?_
      refine XL_nil ?_
      kernel_rfl
  refine V_cond rfl (fun hc4 => ?_) (fun hc4 => ?_)
  · have h := of_true h hc4
    refine V_sreg [false, false, true, true, false, false, false, false, false, false, false, false, false, false, false, false, false, false, false, false, false, false, false, false, false, false, false, false, false, false] [] (s1 := ⟨[.bot, .bot, I 0, Bo false, .bot, .bot, .bot, .bot, .bot, .bot, .bot, .bot, .bot, .bot, .bot, .bot, .bot, .bot, .bot, .bot, .bot, .bot, .bot, .bot, .bot, .bot, .bot, .bot, .bot, .bot], []⟩) ?_ ?_
    · refine XL_cons rfl (X_of_Y0 rfl (E_assign (I 0) rfl (by kernel_rfl))) ?_
      refine XL_cons rfl (X_of_Y0 rfl (E_assign (Bo false) rfl (by kernel_rfl))) ?_
      refine XL_nil ?_
      kernel_rfl
    refine V_ret ?_
    obtain rfl := some_inj h
    show Post _ _ _ _ _
    exact ⟨.inr rfl, rfl, rfl, rfl⟩
  · have h := of_false h hc4
    refine V_skip ?_
    show V _ _ _ _
    refine V_sreg [true, false, false, false, true, false, false, false, false, false, false, false, false, false, false, false, false, false, false, false, false, false, false, false, false, false, false, false, false, false] [] (s1 := ⟨[I d1, .bot, .bot, .bot, I 0, .bot, .bot, .bot, .bot, .bot, .bot, .bot, .bot, .bot, .bot, .bot, .bot, .bot, .bot, .bot, .bot, .bot, .bot, .bot, .bot, .bot, .bot, .bot, .bot, .bot], []⟩) ?_ ?_
    · refine XL_cons rfl (X_of_Y0 rfl (E_assign (I 0) rfl (by kernel_rfl))) ?_
      refine XL_nil ?_
      kernel_rfl
    refine V_seq ?_
    refine V_sreg [true, false, false, false, true, true, false, false, false, false, false, false, false, false, false, false, false, false, false, false, false, false, false, false, false, false, false, false, false, false] [] (s1 := ⟨[I d1, .bot, .bot, .bot, I 0, I 1, .bot, .bot, .bot, .bot, .bot, .bot, .bot, .bot, .bot, .bot, .bot, .bot, .bot, .bot, .bot, .bot, .bot, .bot, .bot, .bot, .bot, .bot, .bot, .bot], []⟩) ?_ ?_
    · refine XL_cons rfl (X_of_Y0 rfl (E_assign (I 1) rfl (by kernel_rfl))) ?_
      refine XL_nil ?_
      kernel_rfl
    obtain ⟨o8, hLo8, h⟩ := of_bind h
    refine V_toK [true, false, false, false, true, false, false, false, false, false, false, false, false, false, false, false, false, false, false, false, false, false, false, false, false, false, false, false, false, false] [] (s1 := ⟨[I d1, .bot, .bot, .bot, I o8, .bot, .bot, .bot, .bot, .bot, .bot, .bot, .bot, .bot, .bot, .bot, .bot, .bot, .bot, .bot, .bot, .bot, .bot, .bot, .bot, .bot, .bot, .bot, .bot, .bot], []⟩) ?_ ?_
    · clear h
      refine V_block (V_loop (fun n s => ∃ (sum5 : Int) (k6 : Int), s.keep [true, false, false, false, true, true, false, false, false, false, false, false, false, false, false, false, false, false, false, false, false, false, false, false, false, false, false, false, false, false] [] = (⟨[I d1, .bot, .bot, .bot, I sum5, I k6, .bot, .bot, .bot, .bot, .bot, .bot, .bot, .bot, .bot, .bot, .bot, .bot, .bot, .bot, .bot, .bot, .bot, .bot, .bot, .bot, .bot, .bot, .bot, .bot], []⟩ : St) ∧ r_impl_ClassNumberByHalf_L7 d1 n sum5 k6 = some o8) FU ⟨_, _,  by rfl, hLo8⟩ ?_)
      clear hLo8
      rintro n s ⟨sum5, k6, hs, h⟩
      refine V_keep _ _ hs ?_
      clear hs
      cases n with
      | zero => cases h
      | succ n =>
        rw [r_impl_ClassNumberByHalf_L7] at h
        refine V_seq ?_
        refine V_sreg [true, false, false, false, true, true, false, false, false, false, false, false, false, false, false, false, false, true, false, false, false, false, false, false, false, false, false, false, false, false] [] (s1 := ⟨[I d1, .bot, .bot, .bot, I sum5, I k6, .bot, .bot, .bot, .bot, .bot, .bot, .bot, .bot, .bot, .bot, .bot, Bo (ltI (w64 (2 * k6)) (w64 (0 - d1))), .bot, .bot, .bot, .bot, .bot, .bot, .bot, .bot, .bot, .bot, .bot, .bot], []⟩) ?_ ?_
        · refine XL_cons rfl (X_of_Y0 rfl (E_move (I k6) rfl (by kernel_rfl))) ?_
          refine XL_cons rfl (X_of_Y0 rfl (Y0_mul64 (a := 2) (b := k6) rfl (by kernel_rfl) (by kernel_rfl))) ?_
          refine XL_cons rfl (X_of_Y0 rfl (E_move (I d1) rfl (by kernel_rfl))) ?_
          refine XL_cons rfl (X_of_Y0 rfl (Y0_neg64 (a := d1) rfl (by kernel_rfl))) ?_
          refine XL_cons rfl (X_of_Y0 rfl (Y0_ltw (k := .i64) (a := w64 (2 * k6)) (b := w64 (0 - d1)) rfl (by kernel_rfl) (by kernel_rfl))) ?_
          refine XL_nil ?_
          kernel_rfl
        refine V_cond rfl (fun hc9 => ?_) (fun hc9 => ?_)
        · have h := of_true h hc9
          refine V_skip ?_
          show V _ _ _ _
          refine V_seq ?_
          refine V_block ?_
          obtain ⟨y10, hy10, h⟩ := of_bind h
          obtain ⟨sum11, hsum11, h⟩ := of_sI h
          refine V_reg [true, false, false, false, true, true, false, false, false, false, false, false, false, false, false, false, false, false, false, false, false, false, false, false, false, false, false, false, false, false] [] (s1 := ⟨[I d1, .bot, .bot, .bot, I sum11, I k6, .bot, .bot, .bot, .bot, .bot, .bot, .bot, .bot, .bot, .bot, .bot, .bot, .bot, .bot, .bot, .bot, .bot, .bot, .bot, .bot, .bot, .bot, .bot, .bot], []⟩) ?_ ?_
          · refine XL_cons rfl (X_of_Y0 rfl (E_move (I sum5) rfl (by kernel_rfl))) ?_
            refine XL_cons rfl (X_of_Y0 rfl (E_move (I d1) rfl (by kernel_rfl))) ?_
            refine XL_cons rfl (X_of_Y0 rfl (E_move (I k6) rfl (by kernel_rfl))) ?_
            refine XL_cons rfl (X_of_Y1 rfl (Y1_call (s_impl_kronecker hy10) cf_impl_kronecker rfl (by kernel_rfl))) ?_
            refine XL_cons rfl (X_of_Y0 rfl (Y0_add64 (a := sum5) (b := y10) rfl (by kernel_rfl) (by kernel_rfl))) ?_
            refine XL_cons rfl (X_of_Y0 rfl (E_assign (I (w64 (sum5 + y10))) rfl (by kernel_rfl))) ?_
            refine XL_nil ?_
            subst hsum11
            kernel_rfl
          show V _ _ _ _
          obtain ⟨k12, hk12, h⟩ := of_sI h
          refine V_reg [true, false, false, false, true, true, false, false, false, false, false, false, false, false, false, false, false, false, false, false, false, false, false, false, false, false, false, false, false, false] [] (s1 := ⟨[I d1, .bot, .bot, .bot, I sum11, I k12, .bot, .bot, .bot, .bot, .bot, .bot, .bot, .bot, .bot, .bot, .bot, .bot, .bot, .bot, .bot, .bot, .bot, .bot, .bot, .bot, .bot, .bot, .bot, .bot], []⟩) ?_ ?_
          · refine XL_cons rfl (X_of_Y0 rfl (E_move (I k6) rfl (by kernel_rfl))) ?_
            refine XL_cons rfl (X_of_Y0 rfl (Y0_add64 (a := k6) (b := 1) rfl (by kernel_rfl) (by kernel_rfl))) ?_
            refine XL_cons rfl (X_of_Y0 rfl (E_assign (I (w64 (k6 + 1))) rfl (by kernel_rfl))) ?_
            refine XL_nil ?_
            subst hk12
            kernel_rfl
          exact ⟨n, Nat.lt_succ_self n, _, _,  by rfl, h⟩
        · have h := of_false h hc9
          refine V_exit ?_
          obtain rfl := some_inj h
          show St.keep _ _ _ = _
          rfl
    show V _ _ _ _
    obtain ⟨y13, hy13, h⟩ := of_bind h
    obtain ⟨z14, hz14, h⟩ := of_bind h
    obtain ⟨t15, ht15, h⟩ := of_sI h
    refine V_sreg [false, false, true, true, false, false, false, false, false, false, false, false, false, false, false, false, false, false, false, false, false, false, false, false, false, false, false, false, false, false] [] (s1 := ⟨[.bot, .bot, I t15, Bo true, .bot, .bot, .bot, .bot, .bot, .bot, .bot, .bot, .bot, .bot, .bot, .bot, .bot, .bot, .bot, .bot, .bot, .bot, .bot, .bot, .bot, .bot, .bot, .bot, .bot, .bot], []⟩) ?_ ?_
    · refine XL_cons rfl (X_of_Y0 rfl (E_move (I o8) rfl (by kernel_rfl))) ?_
      refine XL_cons rfl (X_of_Y0 rfl (E_move (I d1) rfl (by kernel_rfl))) ?_
      refine XL_cons rfl (X_of_Y1 rfl (Y1_call (s_impl_kronecker hy13) cf_impl_kronecker rfl (by kernel_rfl))) ?_
      refine XL_cons rfl (X_of_Y0 rfl (Y0_sub64 (a := 2) (b := y13) rfl (by kernel_rfl) (by kernel_rfl))) ?_
      refine XL_cons rfl (X_of_Y0 rfl (Y0_quo64 (a := o8) (b := w64 (2 - y13)) rfl (by kernel_rfl) (by kernel_rfl) (nz_some hz14))) ?_
      refine XL_cons rfl (X_of_Y0 rfl (E_assign (I (w64 (Int.tdiv o8 (w64 (2 - y13))))) rfl (by kernel_rfl))) ?_
      refine XL_cons rfl (X_of_Y0 rfl (E_assign (Bo true) rfl (by kernel_rfl))) ?_
      refine XL_nil ?_
      subst ht15
      kernel_rfl
    refine V_ret ?_
    obtain rfl := some_inj h
    show Post _ _ _ _ _
    exact ⟨.inr rfl, rfl, rfl, rfl⟩
theorem cf_spec_l1Cur_one : ∀ args w, (callFunc 65 args).run Try.prog w = .ok (.enter 65 args) w := run_callFunc Try.func65 (by kernel_rfl) (by kernel_rfl)
set_option maxRecDepth 100000 in
set_option maxHeartbeats 400000 in
theorem s_spec_l1Cur_one {c1 : ((List Int) × Int × Int)} {vn2 : Int} {r : (Bool × (((List Int) × Int × Int)))} (h : r_spec_l1Cur_one c1 vn2 = some r) : CallR Try.prog 65 [.pt 80000 0, I vn2] [(80000, .box [.sl (c1.1.map c5), Ti c1.2.1, .v (.int .u64 c1.2.2)])] (Bo r.1) [] [(80000, .box [.sl (r.2.1.map c5), Ti r.2.2.1, .v (.int .u64 r.2.2.2)])] := by
  refine CallR_of_text (rs := [.t 4]) (vs := [.tmp 4]) Try.func65 rfl rfl (.cons rfl FitsL.nil) (by decide) 9 rfl rfl fun σ => ?_
  unfold r_spec_l1Cur_one at h
  show V _ _ ⟨[.pt 80000 0, I vn2, .bot, .bot, .bot, .bot, .bot, .bot, .bot], [(80000, .pbox (σ 80000) [.sl (c1.1.map c5), Ti c1.2.1, .v (.int .u64 c1.2.2)])]⟩ _
  refine V_sreg [true, true, false, false, false, false, false, false, false] [80000] (s1 := ⟨[.pt 80000 0, I vn2, .bot, .bot, .bot, .bot, .bot, .bot, .bot], [(80000, .pbox (σ 80000) [.sl (c1.1.map c5), Ti c1.2.1, .v (.int .u64 c1.2.2)])]⟩) ?_ ?_
  · refine XL_cons rfl (X_of_Y0 rfl (E_assign (Bo false) rfl (by kernel_rfl))) ?_
    refine XL_nil ?_
    kernel_rfl
  obtain ⟨y3, hy3, h⟩ := of_bind h
  refine V_sreg [false, false, false, false, true, false, false, false, false] [80000] (s1 := ⟨[.bot, .bot, .bot, .bot, Bo (eqI y3.1 0), .bot, .bot, .bot, .bot], [(80000, .pbox (σ 80000) [.sl (y3.2.1.map c5), Ti y3.2.2.1, .v (.int .u64 y3.2.2.2)])]⟩) ?_ ?_
  · refine XL_cons rfl (X_of_Y0 rfl (E_move (.pt 80000 0) rfl (by kernel_rfl))) ?_
    refine XL_cons rfl (X_of_Y0 rfl (E_move (I vn2) rfl (by kernel_rfl))) ?_
    refine XL_cons rfl (X_callR (E' := [(80000, .pbox (σ 80000) [.sl (y3.2.1.map c5), Ti y3.2.2.1, .v (.int .u64 y3.2.2.2)])]) [(80000, 80000)] 7 (s_spec_l1Cur_pick hy3) cf_spec_l1Cur_pick rfl rfl (by kernel_rfl) rfl (mE_cons (by kernel_rfl) mE_nil) rfl (by kernel_rfl) rfl rfl (by kernel_rfl)) ?_
    refine XL_cons rfl (X_of_Y0 rfl (Y0_eqw (k := .i64) (a := y3.1) (b := 0) rfl (by kernel_rfl) (by kernel_rfl))) ?_
    refine XL_cons rfl (X_of_Y0 rfl (E_assign (Bo (eqI y3.1 0)) rfl (by kernel_rfl))) ?_
    refine XL_nil ?_
    kernel_rfl
  refine V_ret ?_
  obtain rfl := some_inj h
  show PostR _ _ _ _ _ _
  exact ⟨⟨.inr rfl, rfl, rfl, rfl⟩, ⟨rfl, trivial⟩⟩
theorem cf_spec_DrawClassNumberByConductor : ∀ args w, (callFunc 14 args).run Try.prog w = .ok (.enter 14 args) w := run_callFunc Try.func14 (by kernel_rfl) (by kernel_rfl)
set_option maxRecDepth 100000 in
set_option maxHeartbeats 400000 in
theorem s_spec_DrawClassNumberByConductor {code1 : List Int} {r : Int} (h : r_spec_DrawClassNumberByConductor code1 = some r) : CallS Try.prog 14 [.c (.sl (code1.map c5))] (I r) [] := by
  refine CallS_of_text (rs := [.t 2]) (vs := [.tmp 2]) Try.func14 rfl rfl (.cons rfl FitsL.nil) (by decide) 22 rfl ?_
  unfold r_spec_DrawClassNumberByConductor at h
  show V _ _ ⟨[.c (.sl (code1.map c5)), .bot, .bot, .bot, .bot, .bot, .bot, .bot, .bot, .bot, .bot, .bot, .bot, .bot, .bot, .bot, .bot, .bot, .bot, .bot, .bot, .bot], []⟩ _
  refine V_sreg [true, false, false, false, false, false, false, false, false, false, false, false, false, false, false, false, false, false, false, false, false, false] [] (s1 := ⟨[.c (.sl (code1.map c5)), .bot, .bot, .bot, .bot, .bot, .bot, .bot, .bot, .bot, .bot, .bot, .bot, .bot, .bot, .bot, .bot, .bot, .bot, .bot, .bot, .bot], []⟩) ?_ ?_
  · refine XL_cons rfl (X_of_Y0 rfl (E_assign (I 0) rfl (by kernel_rfl))) ?_
    refine XL_nil ?_
    kernel_rfl
  refine V_sreg [false, false, false, true, false, false, false, false, false, false, false, false, false, false, false, false, false, false, false, false, false, false] [56] (s1 := ⟨[.bot, .bot, .bot, .pt 56 0, .bot, .bot, .bot, .bot, .bot, .bot, .bot, .bot, .bot, .bot, .bot, .bot, .bot, .bot, .bot, .bot, .bot, .bot], [(56, .box [.sl (code1.map c5), Ti 0, .v (.int .u64 0)])]⟩) ?_ ?_
  · refine XL_cons rfl (X_of_Y0 rfl (E_move (.c (.sl (code1.map c5))) rfl (by kernel_rfl))) ?_
    refine XL_cons rfl (X_of_Y0 rfl (Y0_build (cs := [.sl (code1.map c5), Ti 0, .v (.int .u64 0)]) pl62 bt62 rfl rfl (by kernel_rfl))) ?_
    refine XL_cons rfl (X_of_Y1 rfl (Y1_box (cs := [.sl (code1.map c5), Ti 0, .v (.int .u64 0)]) rfl (by kernel_rfl))) ?_
    refine XL_cons rfl (X_of_Y0 rfl (E_assign (.pt 56 0) rfl (by kernel_rfl))) ?_
    refine XL_nil ?_
    kernel_rfl
  refine V_seq ?_
  obtain ⟨y2, hy2, h⟩ := of_bind h
  refine V_sreg [false, false, false, true, false, false, false, false, false, true, false, false, false, false, false, false, false, false, false, false, false, false] [56] (s1 := ⟨[.bot, .bot, .bot, .pt 56 0, .bot, .bot, .bot, .bot, .bot, Bo y2.1, .bot, .bot, .bot, .bot, .bot, .bot, .bot, .bot, .bot, .bot, .bot, .bot], [(56, .box [.sl (y2.2.1.map c5), Ti y2.2.2.1, .v (.int .u64 y2.2.2.2)])]⟩) ?_ ?_
  · refine XL_cons rfl (X_of_Y0 rfl (E_move (.pt 56 0) rfl (by kernel_rfl))) ?_
    refine XL_cons rfl (X_callR (E' := [(56, .box [.sl (y2.2.1.map c5), Ti y2.2.2.1, .v (.int .u64 y2.2.2.2)])]) [(80000, 56)] 9 (s_spec_l1Cur_one hy2) cf_spec_l1Cur_one rfl rfl (by kernel_rfl) rfl (mE_cons (by kernel_rfl) mE_nil) rfl (by kernel_rfl) rfl rfl (by kernel_rfl)) ?_
    refine XL_nil ?_
    kernel_rfl
  refine V_cond rfl (fun hc3 => ?_) (fun hc3 => ?_)
  · have h := of_true h hc3
    obtain ⟨y4, hy4, h⟩ := of_bind h
    obtain ⟨k5, hk5, h⟩ := of_sI h
    refine V_sreg [false, false, false, true, true, false, false, false, false, false, false, false, false, false, false, false, false, false, false, false, false, false] [56] (s1 := ⟨[.bot, .bot, .bot, .pt 56 0, I k5, .bot, .bot, .bot, .bot, .bot, .bot, .bot, .bot, .bot, .bot, .bot, .bot, .bot, .bot, .bot, .bot, .bot], [(56, .box [.sl (y4.2.1.map c5), Ti y4.2.2.1, .v (.int .u64 y4.2.2.2)])]⟩) ?_ ?_
    · refine XL_cons rfl (X_of_Y0 rfl (E_move (.pt 56 0) rfl (by kernel_rfl))) ?_
      refine XL_cons rfl (X_callR (E' := [(56, .box [.sl (y4.2.1.map c5), Ti y4.2.2.1, .v (.int .u64 y4.2.2.2)])]) [(80000, 56)] 11 (s_spec_l1Cur_pick hy4) cf_spec_l1Cur_pick rfl rfl (by kernel_rfl) rfl (mE_cons (by kernel_rfl) mE_nil) rfl (by kernel_rfl) rfl rfl (by kernel_rfl)) ?_
      refine XL_cons rfl (X_of_Y0 rfl (Y0_add64 (a := 1) (b := y4.1) rfl (by kernel_rfl) (by kernel_rfl))) ?_
      refine XL_cons rfl (X_of_Y0 rfl (E_assign (I (w64 (1 + y4.1))) rfl (by kernel_rfl))) ?_
      refine XL_nil ?_
      subst hk5
      kernel_rfl
    obtain ⟨y6, hy6, h⟩ := of_bind h
    obtain ⟨t7, ht7, h⟩ := of_sI h
    refine V_sreg [false, false, true, false, false, false, false, false, false, false, false, false, false, false, false, false, false, false, false, false, false, false] [] (s1 := ⟨[.bot, .bot, I t7, .bot, .bot, .bot, .bot, .bot, .bot, .bot, .bot, .bot, .bot, .bot, .bot, .bot, .bot, .bot, .bot, .bot, .bot, .bot], []⟩) ?_ ?_
    · refine XL_cons rfl (X_of_Y0 rfl (E_move (.pt 56 0) rfl (by kernel_rfl))) ?_
      refine XL_cons rfl (X_of_Y1 rfl (Y1_bslice (z := zv3) (els := [-3, -4, -7, -8, -11, -15, -20].map c3) Try.underlying27 iz3 rfl (by decide) rfl (by kernel_rfl) rfl (by simp [c3]) (by decide) (by decide))) ?_
      refine XL_freeze 112 (T := 3) (sz := 1) (els := ([-3, -4, -7, -8, -11, -15, -20]).map c3) (s1 := ⟨[.bot, .bot, .bot, .pt 56 0, I k5, .bot, .bot, .bot, .bot, .bot, .bot, .bot, .bot, .pt 56 0, .c (.sl (([-3, -4, -7, -8, -11, -15, -20]).map c3)), .bot, .bot, .bot, .bot, .bot, .bot, .bot], [(56, .box [.sl (y4.2.1.map c5), Ti y4.2.2.1, .v (.int .u64 y4.2.2.2)])]⟩) (by kernel_rfl) (by kernel_rfl) ?_
      refine XL_cons rfl (X_callR (E' := [(56, .box [.sl (y6.2.1.map c5), Ti y6.2.2.1, .v (.int .u64 y6.2.2.2)])]) [(80000, 56)] 15 (s_spec_l1Cur_among hy6) cf_spec_l1Cur_among rfl rfl (by kernel_rfl) rfl (mE_cons (by kernel_rfl) mE_nil) rfl (by kernel_rfl) rfl rfl (by kernel_rfl)) ?_
      refine XL_cons rfl (X_of_Y0 rfl (E_move (I k5) rfl (by kernel_rfl))) ?_
      refine XL_cons rfl (X_of_Y0 rfl (Y0_mul64 (a := y6.1) (b := k5) rfl (by kernel_rfl) (by kernel_rfl))) ?_
      refine XL_cons rfl (X_of_Y0 rfl (E_move (I k5) rfl (by kernel_rfl))) ?_
      refine XL_cons rfl (X_of_Y0 rfl (Y0_mul64 (a := w64 (y6.1 * k5)) (b := k5) rfl (by kernel_rfl) (by kernel_rfl))) ?_
      refine XL_cons rfl (X_of_Y0 rfl (E_assign (I (w64 ((w64 (y6.1 * k5)) * k5))) rfl (by kernel_rfl))) ?_
      refine XL_nil ?_
      subst ht7
      kernel_rfl
    refine V_ret ?_
    obtain rfl := some_inj h
    show Post _ _ _ _ _
    exact ⟨.inr rfl, rfl, rfl, rfl⟩
  · have h := of_false h hc3
    refine V_skip ?_
    show V _ _ _ _
    obtain ⟨y8, hy8, h⟩ := of_bind h
    refine V_sreg [false, false, true, false, false, false, false, false, false, false, false, false, false, false, false, false, false, false, false, false, false, false] [] (s1 := ⟨[.bot, .bot, I y8.1, .bot, .bot, .bot, .bot, .bot, .bot, .bot, .bot, .bot, .bot, .bot, .bot, .bot, .bot, .bot, .bot, .bot, .bot, .bot], []⟩) ?_ ?_
    · refine XL_cons rfl (X_of_Y0 rfl (E_move (.pt 56 0) rfl (by kernel_rfl))) ?_
      refine XL_cons rfl (X_callR (E' := [(56, .box [.sl (y8.2.1.map c5), Ti y8.2.2.1, .v (.int .u64 y8.2.2.2)])]) [(80000, 56)] 21 (s_spec_l1Cur_disc hy8) cf_spec_l1Cur_disc rfl rfl (by kernel_rfl) rfl (mE_cons (by kernel_rfl) mE_nil) rfl (by kernel_rfl) rfl rfl (by kernel_rfl)) ?_
      refine XL_cons rfl (X_of_Y0 rfl (E_assign (I y8.1) rfl (by kernel_rfl))) ?_
      refine XL_nil ?_
      kernel_rfl
    refine V_ret ?_
    obtain rfl := some_inj h
    show Post _ _ _ _ _
    exact ⟨.inr rfl, rfl, rfl, rfl⟩
theorem cf_impl_factors : ∀ args w, (callFunc 156 args).run Try.prog w = .ok (.enter 156 args) w := run_callFunc Try.func156 (by kernel_rfl) (by kernel_rfl)
set_option maxRecDepth 100000 in
set_option maxHeartbeats 400000 in
theorem s_impl_factors {vn1 : Int} {r : List Int} (h : r_impl_factors vn1 = some r) : CallS Try.prog 156 [I vn1] (.ow 0) [(0, .arr 3 1 (r.map c3))] := by
  refine CallS_of_text (rs := [.t 2]) (vs := [.tmp 2]) Try.func156 rfl rfl (.cons rfl FitsL.nil) (by decide) 31 rfl ?_
  unfold r_impl_factors at h
  show V _ _ ⟨[I vn1, .bot, .bot, .bot, .bot, .bot, .bot, .bot, .bot, .bot, .bot, .bot, .bot, .bot, .bot, .bot, .bot, .bot, .bot, .bot, .bot, .bot, .bot, .bot, .bot, .bot, .bot, .bot, .bot, .bot, .bot], []⟩ _
  refine V_sreg [true, false, false, false, false, false, false, false, false, false, false, false, false, false, false, false, false, false, false, false, false, false, false, false, false, false, false, false, false, false, false] [] (s1 := ⟨[I vn1, .bot, .bot, .bot, .bot, .bot, .bot, .bot, .bot, .bot, .bot, .bot, .bot, .bot, .bot, .bot, .bot, .bot, .bot, .bot, .bot, .bot, .bot, .bot, .bot, .bot, .bot, .bot, .bot, .bot, .bot], []⟩) ?_ ?_
  · refine XL_cons rfl (X_of_Y1 rfl (Y1_nil (e := 3) 1 (by decide) (.inl rfl))) ?_
    refine XL_nil ?_
    kernel_rfl
  refine V_sreg [true, false, false, true, false, false, false, false, false, false, false, false, false, false, false, false, false, false, false, false, false, false, false, false, false, false, false, false, false, false, false] [40] (s1 := ⟨[I vn1, .bot, .bot, .ow 40, .bot, .bot, .bot, .bot, .bot, .bot, .bot, .bot, .bot, .bot, .bot, .bot, .bot, .bot, .bot, .bot, .bot, .bot, .bot, .bot, .bot, .bot, .bot, .bot, .bot, .bot, .bot], [(40, .arr 3 1 ((([] : List Int)).map c3))]⟩) ?_ ?_
  · refine XL_cons rfl (X_of_Y1 rfl (Y1_bslice0 Try.underlying27 sz3 (by decide) rfl rfl)) ?_
    refine XL_cons rfl (X_of_Y0 rfl (E_assign (.ow 40) rfl (by kernel_rfl))) ?_
    refine XL_nil ?_
    kernel_rfl
  refine V_seq ?_
  refine V_sreg [true, false, false, true, true, false, false, false, false, false, false, false, false, false, false, false, false, false, false, false, false, false, false, false, false, false, false, false, false, false, false] [40] (s1 := ⟨[I vn1, .bot, .bot, .ow 40, I 2, .bot, .bot, .bot, .bot, .bot, .bot, .bot, .bot, .bot, .bot, .bot, .bot, .bot, .bot, .bot, .bot, .bot, .bot, .bot, .bot, .bot, .bot, .bot, .bot, .bot, .bot], [(40, .arr 3 1 ((([] : List Int)).map c3))]⟩) ?_ ?_
  · refine XL_cons rfl (X_of_Y0 rfl (E_assign (I 2) rfl (by kernel_rfl))) ?_
    refine XL_nil ?_
    kernel_rfl
  obtain ⟨o6, hLo6, h⟩ := of_bind h
  refine V_toK [true, false, false, true, false, false, false, false, false, false, false, false, false, false, false, false, false, false, false, false, false, false, false, false, false, false, false, false, false, false, false] [40] (s1 := ⟨[I o6.1, .bot, .bot, .ow 40, .bot, .bot, .bot, .bot, .bot, .bot, .bot, .bot, .bot, .bot, .bot, .bot, .bot, .bot, .bot, .bot, .bot, .bot, .bot, .bot, .bot, .bot, .bot, .bot, .bot, .bot, .bot], [(40, .arr 3 1 (o6.2.map c3))]⟩) ?_ ?_
  · clear h
    refine V_block (V_loop (fun n s => ∃ (vn2 : Int) (p3 : Int) (l4 : List Int), s.keep [true, false, false, true, true, false, false, false, false, false, false, false, false, false, false, false, false, false, false, false, false, false, false, false, false, false, false, false, false, false, false] [40] = (⟨[I vn2, .bot, .bot, .ow 40, I p3, .bot, .bot, .bot, .bot, .bot, .bot, .bot, .bot, .bot, .bot, .bot, .bot, .bot, .bot, .bot, .bot, .bot, .bot, .bot, .bot, .bot, .bot, .bot, .bot, .bot, .bot], [(40, .arr 3 1 (l4.map c3))]⟩ : St) ∧ r_impl_factors_L5 n vn2 p3 l4 = some o6) FU ⟨_, _, _,  by rfl, hLo6⟩ ?_)
    clear hLo6
    rintro n s ⟨vn2, p3, l4, hs, h⟩
    refine V_keep _ _ hs ?_
    clear hs
    cases n with
    | zero => cases h
    | succ n =>
      rw [r_impl_factors_L5] at h
      refine V_seq ?_
      refine V_sreg [true, false, false, true, true, false, false, false, false, false, true, false, false, false, false, false, false, false, false, false, false, false, false, false, false, false, false, false, false, false, false] [40] (s1 := ⟨[I vn2, .bot, .bot, .ow 40, I p3, .bot, .bot, .bot, .bot, .bot, Bo (leI (w64 (p3 * p3)) vn2), .bot, .bot, .bot, .bot, .bot, .bot, .bot, .bot, .bot, .bot, .bot, .bot, .bot, .bot, .bot, .bot, .bot, .bot, .bot, .bot], [(40, .arr 3 1 (l4.map c3))]⟩) ?_ ?_
      · refine XL_cons rfl (X_of_Y0 rfl (E_move (I p3) rfl (by kernel_rfl))) ?_
        refine XL_cons rfl (X_of_Y0 rfl (E_move (I p3) rfl (by kernel_rfl))) ?_
        refine XL_cons rfl (X_of_Y0 rfl (Y0_mul64 (a := p3) (b := p3) rfl (by kernel_rfl) (by kernel_rfl))) ?_
        refine XL_cons rfl (X_of_Y0 rfl (E_move (I vn2) rfl (by kernel_rfl))) ?_
        refine XL_cons rfl (X_of_Y0 rfl (Y0_lew (k := .i64) (a := w64 (p3 * p3)) (b := vn2) rfl (by kernel_rfl) (by kernel_rfl))) ?_
        refine XL_nil ?_
        kernel_rfl
      refine V_cond rfl (fun hc7 => ?_) (fun hc7 => ?_)
      · have h := of_true h hc7
        refine V_skip ?_
        show V _ _ _ _
        refine V_seq ?_
        refine V_block ?_
        obtain ⟨o11, hLo11, h⟩ := of_bind h
        refine V_toK [true, false, false, true, true, false, false, false, false, false, false, false, false, false, false, false, false, false, false, false, false, false, false, false, false, false, false, false, false, false, false] [40] (s1 := ⟨[I o11.1, .bot, .bot, .ow 40, I p3, .bot, .bot, .bot, .bot, .bot, .bot, .bot, .bot, .bot, .bot, .bot, .bot, .bot, .bot, .bot, .bot, .bot, .bot, .bot, .bot, .bot, .bot, .bot, .bot, .bot, .bot], [(40, .arr 3 1 (o11.2.map c3))]⟩) ?_ ?_
        · clear h
          refine V_block (V_loop (fun n s => ∃ (vn8 : Int) (l9 : List Int), s.keep [true, false, false, true, true, false, false, false, false, false, false, false, false, false, false, false, false, false, false, false, false, false, false, false, false, false, false, false, false, false, false] [40] = (⟨[I vn8, .bot, .bot, .ow 40, I p3, .bot, .bot, .bot, .bot, .bot, .bot, .bot, .bot, .bot, .bot, .bot, .bot, .bot, .bot, .bot, .bot, .bot, .bot, .bot, .bot, .bot, .bot, .bot, .bot, .bot, .bot], [(40, .arr 3 1 (l9.map c3))]⟩ : St) ∧ r_impl_factors_L10 p3 n vn8 l9 = some o11) FU ⟨_, _,  by rfl, hLo11⟩ ?_)
          clear hLo11
          rintro n s ⟨vn8, l9, hs, h⟩
          refine V_keep _ _ hs ?_
          clear hs
          cases n with
          | zero => cases h
          | succ n =>
            rw [r_impl_factors_L10] at h
            refine V_seq ?_
            obtain ⟨z12, hz12, h⟩ := of_bind h
            refine V_sreg [true, false, false, true, true, false, false, false, false, false, false, false, false, false, false, false, true, false, false, false, false, false, false, false, false, false, false, false, false, false, false] [40] (s1 := ⟨[I vn8, .bot, .bot, .ow 40, I p3, .bot, .bot, .bot, .bot, .bot, .bot, .bot, .bot, .bot, .bot, .bot, Bo (eqI (Int.tmod vn8 p3) 0), .bot, .bot, .bot, .bot, .bot, .bot, .bot, .bot, .bot, .bot, .bot, .bot, .bot, .bot], [(40, .arr 3 1 (l9.map c3))]⟩) ?_ ?_
            · refine XL_cons rfl (X_of_Y0 rfl (E_move (I vn8) rfl (by kernel_rfl))) ?_
              refine XL_cons rfl (X_of_Y0 rfl (E_move (I p3) rfl (by kernel_rfl))) ?_
              refine XL_cons rfl (X_of_Y0 rfl (Y0_rem (k := .i64) (a := vn8) (b := p3) rfl (by kernel_rfl) (by kernel_rfl) (nz_some hz12))) ?_
              refine XL_cons rfl (X_of_Y0 rfl (Y0_eqw (k := .i64) (a := Int.tmod vn8 p3) (b := 0) rfl (by kernel_rfl) (by kernel_rfl))) ?_
              refine XL_nil ?_
              kernel_rfl
            refine V_cond rfl (fun hc13 => ?_) (fun hc13 => ?_)
            · have h := of_true h hc13
              refine V_skip ?_
              show V _ _ _ _
              refine V_block ?_
              obtain ⟨u14, hu14, h⟩ := of_bind h
              refine V_sreg [true, false, false, true, true, false, false, false, false, false, false, false, false, false, false, false, false, false, false, false, false, false, false, false, false, false, false, false, false, false, false] [40] (s1 := ⟨[I vn8, .bot, .bot, .ow 40, I p3, .bot, .bot, .bot, .bot, .bot, .bot, .bot, .bot, .bot, .bot, .bot, .bot, .bot, .bot, .bot, .bot, .bot, .bot, .bot, .bot, .bot, .bot, .bot, .bot, .bot, .bot], [(40, .arr 3 1 ((l9 ++ ([p3])).map c3))]⟩) ?_ ?_
              · refine XL_cons rfl (X_of_Y0 rfl (E_move (.ow 40) rfl (by kernel_rfl))) ?_
                refine XL_cons rfl (X_of_Y0 rfl (E_move (I p3) rfl (by kernel_rfl))) ?_
                refine XL_cons rfl (X_of_Y1 rfl (Y1_bslice (z := zv3) (els := [p3].map c3) Try.underlying27 iz3 rfl (by decide) rfl (by kernel_rfl) rfl (by simp [c3]) (by decide) (by decide))) ?_
                refine XL_cons rfl (X_appendM (c := c3) (xs := l9) (ys := [p3]) (id := 40) (z := zv3) rfl rfl Try.underlying27 izb3 rfl (by kernel_rfl) (by kernel_rfl) (by kernel_rfl) (fun _ => rfl) (by simp) (room_some hu14) (by decide)) ?_
                refine XL_cons rfl (X_of_Y0 rfl (E_assign (.ow 40) rfl (by kernel_rfl))) ?_
                refine XL_nil ?_
                kernel_rfl
              obtain ⟨z15, hz15, h⟩ := of_bind h
              obtain ⟨vn16, hvn16, h⟩ := of_sI h
              refine V_reg [true, false, false, true, true, false, false, false, false, false, false, false, false, false, false, false, false, false, false, false, false, false, false, false, false, false, false, false, false, false, false] [40] (s1 := ⟨[I vn16, .bot, .bot, .ow 40, I p3, .bot, .bot, .bot, .bot, .bot, .bot, .bot, .bot, .bot, .bot, .bot, .bot, .bot, .bot, .bot, .bot, .bot, .bot, .bot, .bot, .bot, .bot, .bot, .bot, .bot, .bot], [(40, .arr 3 1 ((l9 ++ ([p3])).map c3))]⟩) ?_ ?_
              · refine XL_cons rfl (X_of_Y0 rfl (E_move (I vn8) rfl (by kernel_rfl))) ?_
                refine XL_cons rfl (X_of_Y0 rfl (E_move (I p3) rfl (by kernel_rfl))) ?_
                refine XL_cons rfl (X_of_Y0 rfl (Y0_quo64 (a := vn8) (b := p3) rfl (by kernel_rfl) (by kernel_rfl) (nz_some hz15))) ?_
                refine XL_cons rfl (X_of_Y0 rfl (E_assign (I (w64 (Int.tdiv vn8 p3))) rfl (by kernel_rfl))) ?_
                refine XL_nil ?_
                subst hvn16
                kernel_rfl
              exact ⟨n, Nat.lt_succ_self n, _, _,  by rfl, h⟩
            · have h := of_false h hc13
              refine V_exit ?_
              obtain rfl := some_inj h
              show St.keep _ _ _ = _
              rfl
        show V _ _ _ _
        obtain ⟨p17, hp17, h⟩ := of_sI h
        refine V_reg [true, false, false, true, true, false, false, false, false, false, false, false, false, false, false, false, false, false, false, false, false, false, false, false, false, false, false, false, false, false, false] [40] (s1 := ⟨[I o11.1, .bot, .bot, .ow 40, I p17, .bot, .bot, .bot, .bot, .bot, .bot, .bot, .bot, .bot, .bot, .bot, .bot, .bot, .bot, .bot, .bot, .bot, .bot, .bot, .bot, .bot, .bot, .bot, .bot, .bot, .bot], [(40, .arr 3 1 (o11.2.map c3))]⟩) ?_ ?_
        · refine XL_cons rfl (X_of_Y0 rfl (E_move (I p3) rfl (by kernel_rfl))) ?_
          refine XL_cons rfl (X_of_Y0 rfl (Y0_add64 (a := p3) (b := 1) rfl (by kernel_rfl) (by kernel_rfl))) ?_
          refine XL_cons rfl (X_of_Y0 rfl (E_assign (I (w64 (p3 + 1))) rfl (by kernel_rfl))) ?_
          refine XL_nil ?_
          subst hp17
          kernel_rfl
        exact ⟨n, Nat.lt_succ_self n, _, _, _,  by rfl, h⟩
      · have h := of_false h hc7
        refine V_exit ?_
        obtain rfl := some_inj h
        show St.keep _ _ _ = _
        rfl
  show V _ _ _ _
  refine V_seq ?_
  refine V_sreg [true, false, false, true, false, false, false, false, false, false, false, false, false, false, false, false, false, false, false, false, false, false, false, false, false, true, false, false, false, false, false] [40] (s1 := ⟨[I o6.1, .bot, .bot, .ow 40, .bot, .bot, .bot, .bot, .bot, .bot, .bot, .bot, .bot, .bot, .bot, .bot, .bot, .bot, .bot, .bot, .bot, .bot, .bot, .bot, .bot, Bo (ltI 1 o6.1), .bot, .bot, .bot, .bot, .bot], [(40, .arr 3 1 (o6.2.map c3))]⟩) ?_ ?_
  · refine XL_cons rfl (X_of_Y0 rfl (E_move (I o6.1) rfl (by kernel_rfl))) ?_
    refine XL_cons rfl (X_of_Y0 rfl (Y0_gtw (k := .i64) (a := o6.1) (b := 1) rfl (by kernel_rfl) (by kernel_rfl))) ?_
    refine XL_nil ?_
    kernel_rfl
  refine V_cond rfl (fun hc18 => ?_) (fun hc18 => ?_)
  · have h := of_true h hc18
    obtain ⟨u19, hu19, h⟩ := of_bind h
    refine V_reg [false, false, false, true, false, false, false, false, false, false, false, false, false, false, false, false, false, false, false, false, false, false, false, false, false, false, false, false, false, false, false] [40] (s1 := ⟨[.bot, .bot, .bot, .ow 40, .bot, .bot, .bot, .bot, .bot, .bot, .bot, .bot, .bot, .bot, .bot, .bot, .bot, .bot, .bot, .bot, .bot, .bot, .bot, .bot, .bot, .bot, .bot, .bot, .bot, .bot, .bot], [(40, .arr 3 1 ((o6.2 ++ ([o6.1])).map c3))]⟩) ?_ ?_
    · refine XL_cons rfl (X_of_Y0 rfl (E_move (.ow 40) rfl (by kernel_rfl))) ?_
      refine XL_cons rfl (X_of_Y0 rfl (E_move (I o6.1) rfl (by kernel_rfl))) ?_
      refine XL_cons rfl (X_of_Y1 rfl (Y1_bslice (z := zv3) (els := [o6.1].map c3) Try.underlying27 iz3 rfl (by decide) rfl (by kernel_rfl) rfl (by simp [c3]) (by decide) (by decide))) ?_
      refine XL_cons rfl (X_appendM (c := c3) (xs := o6.2) (ys := [o6.1]) (id := 40) (z := zv3) rfl rfl Try.underlying27 izb3 rfl (by kernel_rfl) (by kernel_rfl) (by kernel_rfl) (fun _ => rfl) (by simp) (room_some hu19) (by decide)) ?_
      refine XL_cons rfl (X_of_Y0 rfl (E_assign (.ow 40) rfl (by kernel_rfl))) ?_
      refine XL_nil ?_
      kernel_rfl
    show V _ _ _ _
    refine V_sreg [false, false, true, false, false, false, false, false, false, false, false, false, false, false, false, false, false, false, false, false, false, false, false, false, false, false, false, false, false, false, false] [40] (s1 := ⟨[.bot, .bot, .ow 40, .bot, .bot, .bot, .bot, .bot, .bot, .bot, .bot, .bot, .bot, .bot, .bot, .bot, .bot, .bot, .bot, .bot, .bot, .bot, .bot, .bot, .bot, .bot, .bot, .bot, .bot, .bot, .bot], [(40, .arr 3 1 ((o6.2 ++ ([o6.1])).map c3))]⟩) ?_ ?_
    · refine XL_cons rfl (X_of_Y0 rfl (E_move (.ow 40) rfl (by kernel_rfl))) ?_
      refine XL_cons rfl (X_of_Y0 rfl (E_assign (.ow 40) rfl (by kernel_rfl))) ?_
      refine XL_nil ?_
      kernel_rfl
    refine V_ret ?_
    obtain rfl := some_inj h
    show Post _ _ _ _ _
    exact ⟨.inr rfl, rfl, rfl, rfl⟩
  · have h := of_false h hc18
    refine V_skip ?_
    show V _ _ _ _
    refine V_sreg [false, false, true, false, false, false, false, false, false, false, false, false, false, false, false, false, false, false, false, false, false, false, false, false, false, false, false, false, false, false, false] [40] (s1 := ⟨[.bot, .bot, .ow 40, .bot, .bot, .bot, .bot, .bot, .bot, .bot, .bot, .bot, .bot, .bot, .bot, .bot, .bot, .bot, .bot, .bot, .bot, .bot, .bot, .bot, .bot, .bot, .bot, .bot, .bot, .bot, .bot], [(40, .arr 3 1 (o6.2.map c3))]⟩) ?_ ?_
    · refine XL_cons rfl (X_of_Y0 rfl (E_move (.ow 40) rfl (by kernel_rfl))) ?_
      refine XL_cons rfl (X_of_Y0 rfl (E_assign (.ow 40) rfl (by kernel_rfl))) ?_
      refine XL_nil ?_
      kernel_rfl
    refine V_ret ?_
    obtain rfl := some_inj h
    show Post _ _ _ _ _
    exact ⟨.inr rfl, rfl, rfl, rfl⟩
theorem cf_impl_primesOf : ∀ args w, (callFunc 126 args).run Try.prog w = .ok (.enter 126 args) w := run_callFunc Try.func126 (by kernel_rfl) (by kernel_rfl)
set_option maxRecDepth 100000 in
set_option maxHeartbeats 400000 in
theorem s_impl_primesOf {vn1 : Int} {r : List Int} (h : r_impl_primesOf vn1 = some r) : CallS Try.prog 126 [I vn1] (.ow 0) [(0, .arr 3 1 (r.map c3))] := by
  refine CallS_of_text (rs := [.t 2]) (vs := [.tmp 2]) Try.func126 rfl rfl (.cons rfl FitsL.nil) (by decide) 33 rfl ?_
  unfold r_impl_primesOf at h
  show V _ _ ⟨[I vn1, .bot, .bot, .bot, .bot, .bot, .bot, .bot, .bot, .bot, .bot, .bot, .bot, .bot, .bot, .bot, .bot, .bot, .bot, .bot, .bot, .bot, .bot, .bot, .bot, .bot, .bot, .bot, .bot, .bot, .bot, .bot, .bot], []⟩ _
  refine V_sreg [true, false, false, false, false, false, false, false, false, false, false, false, false, false, false, false, false, false, false, false, false, false, false, false, false, false, false, false, false, false, false, false, false] [] (s1 := ⟨[I vn1, .bot, .bot, .bot, .bot, .bot, .bot, .bot, .bot, .bot, .bot, .bot, .bot, .bot, .bot, .bot, .bot, .bot, .bot, .bot, .bot, .bot, .bot, .bot, .bot, .bot, .bot, .bot, .bot, .bot, .bot, .bot, .bot], []⟩) ?_ ?_
  · refine XL_cons rfl (X_of_Y1 rfl (Y1_nil (e := 3) 1 (by decide) (.inl rfl))) ?_
    refine XL_nil ?_
    kernel_rfl
  refine V_sreg [true, false, false, true, false, false, false, false, false, false, false, false, false, false, false, false, false, false, false, false, false, false, false, false, false, false, false, false, false, false, false, false, false] [48] (s1 := ⟨[I vn1, .bot, .bot, .ow 48, .bot, .bot, .bot, .bot, .bot, .bot, .bot, .bot, .bot, .bot, .bot, .bot, .bot, .bot, .bot, .bot, .bot, .bot, .bot, .bot, .bot, .bot, .bot, .bot, .bot, .bot, .bot, .bot, .bot], [(48, .arr 3 1 ((([] : List Int)).map c3))]⟩) ?_ ?_
  · refine XL_cons rfl (X_of_Y1 rfl (Y1_bslice0 Try.underlying27 sz3 (by decide) rfl rfl)) ?_
    refine XL_cons rfl (X_of_Y0 rfl (E_assign (.ow 48) rfl (by kernel_rfl))) ?_
    refine XL_nil ?_
    kernel_rfl
  refine V_seq ?_
  obtain ⟨y2, hy2, h⟩ := of_bind h
  refine V_sreg [false, false, false, true, false, false, false, false, true, true, true, false, false, false, false, false, false, false, false, false, false, false, false, false, false, false, false, false, false, false, false, false, false] [64, 48] (s1 := ⟨[.bot, .bot, .bot, .ow 48, .bot, .bot, .bot, .bot, .ow 64, I ((y2.length : Int)), I 0, .bot, .bot, .bot, .bot, .bot, .bot, .bot, .bot, .bot, .bot, .bot, .bot, .bot, .bot, .bot, .bot, .bot, .bot, .bot, .bot, .bot, .bot], [(64, .arr 3 1 (y2.map c3)), (48, .arr 3 1 ((([] : List Int)).map c3))]⟩) ?_ ?_
  · refine XL_cons rfl (X_of_Y0 rfl (E_move (I vn1) rfl (by kernel_rfl))) ?_
    refine XL_cons rfl (X_of_Y1 rfl (Y1_call (s_impl_factors hy2) cf_impl_factors rfl (by kernel_rfl))) ?_
    refine XL_cons rfl (X_of_Y0 rfl (Y0_lenM (c := c3) (xs := y2) Try.underlying27 rfl (by kernel_rfl))) ?_
    refine XL_cons rfl (X_of_Y0 rfl (E_move (I 0) rfl (by kernel_rfl))) ?_
    refine XL_nil ?_
    kernel_rfl
  obtain ⟨o6, hLo6, h⟩ := of_bind h
  refine V_toK [false, false, false, true, false, false, false, false, false, false, false, false, false, false, false, false, false, false, false, false, false, false, false, false, false, false, false, false, false, false, false, false, false] [48] (s1 := ⟨[.bot, .bot, .bot, .ow 48, .bot, .bot, .bot, .bot, .bot, .bot, .bot, .bot, .bot, .bot, .bot, .bot, .bot, .bot, .bot, .bot, .bot, .bot, .bot, .bot, .bot, .bot, .bot, .bot, .bot, .bot, .bot, .bot, .bot], [(48, .arr 3 1 (o6.map c3))]⟩) ?_ ?_
  · clear h
    refine V_block (V_loop (fun n s => ∃ (t3 : Int) (l4 : List Int), s.keep [false, false, false, true, false, false, false, false, true, true, true, false, false, false, false, false, false, false, false, false, false, false, false, false, false, false, false, false, false, false, false, false, false] [64, 48] = (⟨[.bot, .bot, .bot, .ow 48, .bot, .bot, .bot, .bot, .ow 64, I ((y2.length : Int)), I t3, .bot, .bot, .bot, .bot, .bot, .bot, .bot, .bot, .bot, .bot, .bot, .bot, .bot, .bot, .bot, .bot, .bot, .bot, .bot, .bot, .bot, .bot], [(64, .arr 3 1 (y2.map c3)), (48, .arr 3 1 (l4.map c3))]⟩ : St) ∧ r_impl_primesOf_L5 y2 n t3 l4 = some o6) FU ⟨_, _,  by rfl, hLo6⟩ ?_)
    clear hLo6
    rintro n s ⟨t3, l4, hs, h⟩
    refine V_keep _ _ hs ?_
    clear hs
    cases n with
    | zero => cases h
    | succ n =>
      rw [r_impl_primesOf_L5] at h
      refine V_sreg [false, false, false, true, false, false, false, false, true, true, true, true, false, false, false, false, false, false, false, false, false, false, false, false, false, false, false, false, false, false, false, false, false] [64, 48] (s1 := ⟨[.bot, .bot, .bot, .ow 48, .bot, .bot, .bot, .bot, .ow 64, I ((y2.length : Int)), I t3, Bo (ltI t3 ((y2.length : Int))), .bot, .bot, .bot, .bot, .bot, .bot, .bot, .bot, .bot, .bot, .bot, .bot, .bot, .bot, .bot, .bot, .bot, .bot, .bot, .bot, .bot], [(64, .arr 3 1 (y2.map c3)), (48, .arr 3 1 (l4.map c3))]⟩) ?_ ?_
      · refine XL_cons rfl (X_of_Y0 rfl (Y0_ltw (k := .i64) (a := t3) (b := (y2.length : Int)) rfl (by kernel_rfl) (by kernel_rfl))) ?_
        refine XL_nil ?_
        kernel_rfl
      refine V_seq ?_
      refine V_cond rfl (fun hc7 => ?_) (fun hc7 => ?_)
      · have h := of_true h hc7
        refine V_skip ?_
        show V _ _ _ _
        refine V_seq ?_
        refine V_block ?_
        obtain ⟨e8, he8, h⟩ := of_bind h
        obtain ⟨e9, he9, h⟩ := of_bind h
        refine V_sreg [false, false, false, true, false, true, false, false, true, true, true, false, false, false, false, false, false, false, false, false, false, false, false, false, false, false, false, false, false, false, false, false, false] [64, 48] (s1 := ⟨[.bot, .bot, .bot, .ow 48, .bot, I e9, .bot, .bot, .ow 64, I ((y2.length : Int)), I t3, .bot, .bot, .bot, .bot, .bot, .bot, .bot, .bot, .bot, .bot, .bot, .bot, .bot, .bot, .bot, .bot, .bot, .bot, .bot, .bot, .bot, .bot], [(64, .arr 3 1 (y2.map c3)), (48, .arr 3 1 (l4.map c3))]⟩) ?_ ?_
        · refine XL_cons rfl (X_of_Y0 rfl (Y0_idxoM (c := c3) (xs := y2) (v := e8) (id := 64) (T := 3) (sz := 1) (n := t3) Try.underlying27 sz3 rfl (by kernel_rfl) (by kernel_rfl) (by kernel_rfl) he8)) ?_
          refine XL_cons rfl (X_of_Y0 rfl (Y0_loado1 (c := c3) (xs := y2) (v := e9) (id := 64) (sz := 1) (T := 3) (off := 0) (n := t3) (d := Ti e9) (ds := []) sc3 rfl (by kernel_rfl) (by kernel_rfl) he9 (by kernel_rfl))) ?_
          refine XL_cons rfl (X_of_Y0 rfl (E_assign (I e9) rfl (by kernel_rfl))) ?_
          refine XL_nil ?_
          kernel_rfl
        obtain ⟨b13, hb13, h⟩ := of_bind h
        refine V_sreg [false, false, false, true, false, true, false, false, true, true, true, false, false, false, false, false, false, false, false, false, false, false, false, false, false, false, true, false, false, false, false, false, false] [64, 48] (s1 := ⟨[.bot, .bot, .bot, .ow 48, .bot, I e9, .bot, .bot, .ow 64, I ((y2.length : Int)), I t3, .bot, .bot, .bot, .bot, .bot, .bot, .bot, .bot, .bot, .bot, .bot, .bot, .bot, .bot, .bot, Bo b13, .bot, .bot, .bot, .bot, .bot, .bot], [(64, .arr 3 1 (y2.map c3)), (48, .arr 3 1 (l4.map c3))]⟩) ?_ ?_
        · refine XL_cons rfl (X_of_Y0 rfl (E_move (.ow 48) rfl (by kernel_rfl))) ?_
          refine XL_cons rfl (X_of_Y0 rfl (Y0_lenM (c := c3) (xs := l4) Try.underlying27 rfl (by kernel_rfl))) ?_
          refine XL_cons rfl (X_of_Y0 rfl (Y0_eqw (k := .i64) (a := (l4.length : Int)) (b := 0) rfl (by kernel_rfl) (by kernel_rfl))) ?_
          refine XL_cons rfl (X_of_Y0 rfl (E_move (Bo (eqI ((l4.length : Int)) 0)) rfl (by kernel_rfl))) ?_
          refine XL_split (eqI ((l4.length : Int)) 0) (fun hc10 => ?_) (fun hc10 => ?_)
          · have hb13 := some_inj (of_true hb13 hc10)
            refine XL_skipF (eqI ((l4.length : Int)) 0) rfl rfl (by kernel_rfl) hc10 rfl ?_
            refine XL_skipF (eqI ((l4.length : Int)) 0) rfl rfl (by kernel_rfl) hc10 rfl ?_
            refine XL_skipF (eqI ((l4.length : Int)) 0) rfl rfl (by kernel_rfl) hc10 rfl ?_
            refine XL_skipF (eqI ((l4.length : Int)) 0) rfl rfl (by kernel_rfl) hc10 rfl ?_
            refine XL_skipF (eqI ((l4.length : Int)) 0) rfl rfl (by kernel_rfl) hc10 rfl ?_
            refine XL_skipF (eqI ((l4.length : Int)) 0) rfl rfl (by kernel_rfl) hc10 rfl ?_
            refine XL_skipF (eqI ((l4.length : Int)) 0) rfl rfl (by kernel_rfl) hc10 rfl ?_
            refine XL_skipF (eqI ((l4.length : Int)) 0) rfl rfl (by kernel_rfl) hc10 rfl ?_
            refine XL_cons rfl (X_of_Y0 rfl (Y0_pickTe (b := eqI ((l4.length : Int)) 0) (p := true) rfl (by kernel_rfl) hc10 (by kernel_rfl) hb13)) ?_
            refine XL_nil ?_
            kernel_rfl
          · have hb13 := of_false hb13 hc10
            obtain ⟨e11, he11, hb13⟩ := of_bind hb13
            obtain ⟨e12, he12, hb13⟩ := of_bind hb13
            have hb13 := some_inj hb13
            refine XL_takeC (eqI ((l4.length : Int)) 0) rfl rfl (by kernel_rfl) hc10 (X_of_Y0 rfl (E_move (.ow 48) rfl (by kernel_rfl))) ?_
            refine XL_takeC (eqI ((l4.length : Int)) 0) rfl rfl (by kernel_rfl) hc10 (X_of_Y0 rfl (E_move (.ow 48) rfl (by kernel_rfl))) ?_
            refine XL_takeC (eqI ((l4.length : Int)) 0) rfl rfl (by kernel_rfl) hc10 (X_of_Y0 rfl (Y0_lenM (c := c3) (xs := l4) Try.underlying27 rfl (by kernel_rfl))) ?_
            refine XL_takeC (eqI ((l4.length : Int)) 0) rfl rfl (by kernel_rfl) hc10 (X_of_Y0 rfl (Y0_sub64 (a := (l4.length : Int)) (b := 1) rfl (by kernel_rfl) (by kernel_rfl))) ?_
            refine XL_takeC (eqI ((l4.length : Int)) 0) rfl rfl (by kernel_rfl) hc10 (X_of_Y0 rfl (Y0_idxoM (c := c3) (xs := l4) (v := e11) (id := 48) (T := 3) (sz := 1) (n := w64 (((l4.length : Int)) - 1)) Try.underlying27 sz3 rfl (by kernel_rfl) (by kernel_rfl) (by kernel_rfl) he11)) ?_
            refine XL_takeC (eqI ((l4.length : Int)) 0) rfl rfl (by kernel_rfl) hc10 (X_of_Y0 rfl (Y0_loado1 (c := c3) (xs := l4) (v := e12) (id := 48) (sz := 1) (T := 3) (off := 0) (n := w64 (((l4.length : Int)) - 1)) (d := Ti e12) (ds := []) sc3 rfl (by kernel_rfl) (by kernel_rfl) he12 (by kernel_rfl))) ?_
            refine XL_takeC (eqI ((l4.length : Int)) 0) rfl rfl (by kernel_rfl) hc10 (X_of_Y0 rfl (E_move (I e9) rfl (by kernel_rfl))) ?_
            refine XL_takeC (eqI ((l4.length : Int)) 0) rfl rfl (by kernel_rfl) hc10 (X_of_Y0 rfl (Y0_new (k := .i64) (a := e12) (b := e9) rfl (by kernel_rfl) (by kernel_rfl))) ?_
            refine XL_cons rfl (X_of_Y0 rfl (Y0_pickFe (b := eqI ((l4.length : Int)) 0) (p := !eqI e12 e9) rfl (by kernel_rfl) hc10 (by kernel_rfl) hb13)) ?_
            refine XL_nil ?_
            kernel_rfl
        refine V_cond rfl (fun hc14 => ?_) (fun hc14 => ?_)
        · have h := of_true h hc14
          obtain ⟨u15, hu15, h⟩ := of_bind h
          refine V_reg [false, false, false, true, false, false, false, false, true, true, true, false, false, false, false, false, false, false, false, false, false, false, false, false, false, false, false, false, false, false, false, false, false] [64, 48] (s1 := ⟨[.bot, .bot, .bot, .ow 48, .bot, .bot, .bot, .bot, .ow 64, I ((y2.length : Int)), I t3, .bot, .bot, .bot, .bot, .bot, .bot, .bot, .bot, .bot, .bot, .bot, .bot, .bot, .bot, .bot, .bot, .bot, .bot, .bot, .bot, .bot, .bot], [(64, .arr 3 1 (y2.map c3)), (48, .arr 3 1 ((l4 ++ ([e9])).map c3))]⟩) ?_ ?_
          · refine XL_cons rfl (X_of_Y0 rfl (E_move (.ow 48) rfl (by kernel_rfl))) ?_
            refine XL_cons rfl (X_of_Y0 rfl (E_move (I e9) rfl (by kernel_rfl))) ?_
            refine XL_cons rfl (X_of_Y1 rfl (Y1_bslice (z := zv3) (els := [e9].map c3) Try.underlying27 iz3 rfl (by decide) rfl (by kernel_rfl) rfl (by simp [c3]) (by decide) (by decide))) ?_
            refine XL_cons rfl (X_appendM (c := c3) (xs := l4) (ys := [e9]) (id := 48) (z := zv3) rfl rfl Try.underlying27 izb3 rfl (by kernel_rfl) (by kernel_rfl) (by kernel_rfl) (fun _ => rfl) (by simp) (room_some hu15) (by decide)) ?_
            refine XL_cons rfl (X_of_Y0 rfl (E_assign (.ow 48) rfl (by kernel_rfl))) ?_
            refine XL_nil ?_
            kernel_rfl
          show V _ _ _ _
          obtain ⟨t16, ht16, h⟩ := of_sI h
          refine V_reg [false, false, false, true, false, false, false, false, true, true, true, false, false, false, false, false, false, false, false, false, false, false, false, false, false, false, false, false, false, false, false, false, false] [64, 48] (s1 := ⟨[.bot, .bot, .bot, .ow 48, .bot, .bot, .bot, .bot, .ow 64, I ((y2.length : Int)), I t16, .bot, .bot, .bot, .bot, .bot, .bot, .bot, .bot, .bot, .bot, .bot, .bot, .bot, .bot, .bot, .bot, .bot, .bot, .bot, .bot, .bot, .bot], [(64, .arr 3 1 (y2.map c3)), (48, .arr 3 1 ((l4 ++ ([e9])).map c3))]⟩) ?_ ?_
          · refine XL_cons rfl (X_of_Y0 rfl (Y0_add64 (a := t3) (b := 1) rfl (by kernel_rfl) (by kernel_rfl))) ?_
            refine XL_cons rfl (X_of_Y0 rfl (E_move (I (w64 (t3 + 1))) rfl (by kernel_rfl))) ?_
            refine XL_nil ?_
            subst ht16
            kernel_rfl
          exact ⟨n, Nat.lt_succ_self n, _, _,  by rfl, h⟩
        · have h := of_false h hc14
          refine V_skip ?_
          show V _ _ _ _
          obtain ⟨t17, ht17, h⟩ := of_sI h
          refine V_reg [false, false, false, true, false, false, false, false, true, true, true, false, false, false, false, false, false, false, false, false, false, false, false, false, false, false, false, false, false, false, false, false, false] [64, 48] (s1 := ⟨[.bot, .bot, .bot, .ow 48, .bot, .bot, .bot, .bot, .ow 64, I ((y2.length : Int)), I t17, .bot, .bot, .bot, .bot, .bot, .bot, .bot, .bot, .bot, .bot, .bot, .bot, .bot, .bot, .bot, .bot, .bot, .bot, .bot, .bot, .bot, .bot], [(64, .arr 3 1 (y2.map c3)), (48, .arr 3 1 (l4.map c3))]⟩) ?_ ?_
          · refine XL_cons rfl (X_of_Y0 rfl (Y0_add64 (a := t3) (b := 1) rfl (by kernel_rfl) (by kernel_rfl))) ?_
            refine XL_cons rfl (X_of_Y0 rfl (E_move (I (w64 (t3 + 1))) rfl (by kernel_rfl))) ?_
            refine XL_nil ?_
            subst ht17
            kernel_rfl
          exact ⟨n, Nat.lt_succ_self n, _, _,  by rfl, h⟩
      · have h := of_false h hc7
        refine V_exit ?_
        obtain rfl := some_inj h
        show St.keep _ _ _ = _
        rfl
  show V _ _ _ _
  refine V_sreg [false, false, true, false, false, false, false, false, false, false, false, false, false, false, false, false, false, false, false, false, false, false, false, false, false, false, false, false, false, false, false, false, false] [48] (s1 := ⟨[.bot, .bot, .ow 48, .bot, .bot, .bot, .bot, .bot, .bot, .bot, .bot, .bot, .bot, .bot, .bot, .bot, .bot, .bot, .bot, .bot, .bot, .bot, .bot, .bot, .bot, .bot, .bot, .bot, .bot, .bot, .bot, .bot, .bot], [(48, .arr 3 1 (o6.map c3))]⟩) ?_ ?_
  · refine XL_cons rfl (X_of_Y0 rfl (E_move (.ow 48) rfl (by kernel_rfl))) ?_
    refine XL_cons rfl (X_of_Y0 rfl (E_assign (.ow 48) rfl (by kernel_rfl))) ?_
    refine XL_nil ?_
    kernel_rfl
  refine V_ret ?_
  obtain rfl := some_inj h
  show Post _ _ _ _ _
  exact ⟨.inr rfl, rfl, rfl, rfl⟩
theorem cf_impl_conductorFactor : ∀ args w, (callFunc 71 args).run Try.prog w = .ok (.enter 71 args) w := run_callFunc Try.func71 (by kernel_rfl) (by kernel_rfl)
set_option maxRecDepth 100000 in
set_option maxHeartbeats 400000 in
theorem s_impl_conductorFactor {e1 : Int} {k2 : Int} {r : Int} (h : r_impl_conductorFactor e1 k2 = some r) : CallS Try.prog 71 [I e1, I k2] (I r) [] := by
  refine CallS_of_text (rs := [.t 4]) (vs := [.tmp 4]) Try.func71 rfl rfl (.cons rfl FitsL.nil) (by decide) 27 rfl ?_
  unfold r_impl_conductorFactor at h
  show V _ _ ⟨[I e1, I k2, .bot, .bot, .bot, .bot, .bot, .bot, .bot, .bot, .bot, .bot, .bot, .bot, .bot, .bot, .bot, .bot, .bot, .bot, .bot, .bot, .bot, .bot, .bot, .bot, .bot], []⟩ _
  refine V_sreg [true, true, false, false, false, false, false, false, false, false, false, false, false, false, false, false, false, false, false, false, false, false, false, false, false, false, false] [] (s1 := ⟨[I e1, I k2, .bot, .bot, .bot, .bot, .bot, .bot, .bot, .bot, .bot, .bot, .bot, .bot, .bot, .bot, .bot, .bot, .bot, .bot, .bot, .bot, .bot, .bot, .bot, .bot, .bot], []⟩) ?_ ?_
  · refine XL_cons rfl (X_of_Y0 rfl (E_assign (I 0) rfl (by kernel_rfl))) ?_
    refine XL_nil ?_
    kernel_rfl
  refine V_sreg [true, true, false, false, false, true, false, false, false, false, false, false, false, false, false, false, false, false, false, false, false, false, false, false, false, false, false] [] (s1 := ⟨[I e1, I k2, .bot, .bot, .bot, I k2, .bot, .bot, .bot, .bot, .bot, .bot, .bot, .bot, .bot, .bot, .bot, .bot, .bot, .bot, .bot, .bot, .bot, .bot, .bot, .bot, .bot], []⟩) ?_ ?_
  · refine XL_cons rfl (X_of_Y0 rfl (E_move (I k2) rfl (by kernel_rfl))) ?_
    refine XL_cons rfl (X_of_Y0 rfl (E_assign (I k2) rfl (by kernel_rfl))) ?_
    refine XL_nil ?_
    kernel_rfl
  refine V_seq ?_
  obtain ⟨y3, hy3, h⟩ := of_bind h
  refine V_sreg [true, false, false, false, false, true, false, false, false, false, true, true, true, false, false, false, false, false, false, false, false, false, false, false, false, false, false] [80] (s1 := ⟨[I e1, .bot, .bot, .bot, .bot, I k2, .bot, .bot, .bot, .bot, .ow 80, I ((y3.length : Int)), I 0, .bot, .bot, .bot, .bot, .bot, .bot, .bot, .bot, .bot, .bot, .bot, .bot, .bot, .bot], [(80, .arr 3 1 (y3.map c3))]⟩) ?_ ?_
  · refine XL_cons rfl (X_of_Y0 rfl (E_move (I k2) rfl (by kernel_rfl))) ?_
    refine XL_cons rfl (X_of_Y1 rfl (Y1_call (s_impl_primesOf hy3) cf_impl_primesOf rfl (by kernel_rfl))) ?_
    refine XL_cons rfl (X_of_Y0 rfl (Y0_lenM (c := c3) (xs := y3) Try.underlying27 rfl (by kernel_rfl))) ?_
    refine XL_cons rfl (X_of_Y0 rfl (E_move (I 0) rfl (by kernel_rfl))) ?_
    refine XL_nil ?_
    kernel_rfl
  obtain ⟨o7, hLo7, h⟩ := of_bind h
  refine V_toK [false, false, false, false, false, true, false, false, false, false, false, false, false, false, false, false, false, false, false, false, false, false, false, false, false, false, false] [] (s1 := ⟨[.bot, .bot, .bot, .bot, .bot, I o7, .bot, .bot, .bot, .bot, .bot, .bot, .bot, .bot, .bot, .bot, .bot, .bot, .bot, .bot, .bot, .bot, .bot, .bot, .bot, .bot, .bot], []⟩) ?_ ?_
  · clear h
    refine V_block (V_loop (fun n s => ∃ (product4 : Int) (t5 : Int), s.keep [true, false, false, false, false, true, false, false, false, false, true, true, true, false, false, false, false, false, false, false, false, false, false, false, false, false, false] [80] = (⟨[I e1, .bot, .bot, .bot, .bot, I product4, .bot, .bot, .bot, .bot, .ow 80, I ((y3.length : Int)), I t5, .bot, .bot, .bot, .bot, .bot, .bot, .bot, .bot, .bot, .bot, .bot, .bot, .bot, .bot], [(80, .arr 3 1 (y3.map c3))]⟩ : St) ∧ r_impl_conductorFactor_L6 e1 y3 n product4 t5 = some o7) FU ⟨_, _,  by rfl, hLo7⟩ ?_)
    clear hLo7
    rintro n s ⟨product4, t5, hs, h⟩
    refine V_keep _ _ hs ?_
    clear hs
    cases n with
    | zero => cases h
    | succ n =>
      rw [r_impl_conductorFactor_L6] at h
      refine V_sreg [true, false, false, false, false, true, false, false, false, false, true, true, true, true, false, false, false, false, false, false, false, false, false, false, false, false, false] [80] (s1 := ⟨[I e1, .bot, .bot, .bot, .bot, I product4, .bot, .bot, .bot, .bot, .ow 80, I ((y3.length : Int)), I t5, Bo (ltI t5 ((y3.length : Int))), .bot, .bot, .bot, .bot, .bot, .bot, .bot, .bot, .bot, .bot, .bot, .bot, .bot], [(80, .arr 3 1 (y3.map c3))]⟩) ?_ ?_
      · refine XL_cons rfl (X_of_Y0 rfl (Y0_ltw (k := .i64) (a := t5) (b := (y3.length : Int)) rfl (by kernel_rfl) (by kernel_rfl))) ?_
        refine XL_nil ?_
        kernel_rfl
      refine V_seq ?_
      refine V_cond rfl (fun hc8 => ?_) (fun hc8 => ?_)
      · have h := of_true h hc8
        refine V_skip ?_
        show V _ _ _ _
        refine V_seq ?_
        refine V_block ?_
        obtain ⟨e9, he9, h⟩ := of_bind h
        obtain ⟨e10, he10, h⟩ := of_bind h
        refine V_sreg [true, false, false, false, false, true, false, true, false, false, true, true, true, false, false, false, false, false, false, false, false, false, false, false, false, false, false] [80] (s1 := ⟨[I e1, .bot, .bot, .bot, .bot, I product4, .bot, I e10, .bot, .bot, .ow 80, I ((y3.length : Int)), I t5, .bot, .bot, .bot, .bot, .bot, .bot, .bot, .bot, .bot, .bot, .bot, .bot, .bot, .bot], [(80, .arr 3 1 (y3.map c3))]⟩) ?_ ?_
        · refine XL_cons rfl (X_of_Y0 rfl (Y0_idxoM (c := c3) (xs := y3) (v := e9) (id := 80) (T := 3) (sz := 1) (n := t5) Try.underlying27 sz3 rfl (by kernel_rfl) (by kernel_rfl) (by kernel_rfl) he9)) ?_
          refine XL_cons rfl (X_of_Y0 rfl (Y0_loado1 (c := c3) (xs := y3) (v := e10) (id := 80) (sz := 1) (T := 3) (off := 0) (n := t5) (d := Ti e10) (ds := []) sc3 rfl (by kernel_rfl) (by kernel_rfl) he10 (by kernel_rfl))) ?_
          refine XL_cons rfl (X_of_Y0 rfl (E_assign (I e10) rfl (by kernel_rfl))) ?_
          refine XL_nil ?_
          kernel_rfl
        obtain ⟨z11, hz11, h⟩ := of_bind h
        obtain ⟨y12, hy12, h⟩ := of_bind h
        obtain ⟨product13, hproduct13, h⟩ := of_sI h
        refine V_dreg [0, 0, 3, 0, 0, 0, 48, 120, 255, 511] 10 [[.z, .b, .z, .b, .b, .b, .b, .b, .z, .z], [.b, .z, .z, .b, .b, .b, .b, .b, .z, .z], [.a, .a, .z, .b, .b, .b, .b, .b, .z, .z], [.b, .b, .b, .z, .b, .b, .b, .z, .z, .z], [.b, .b, .b, .b, .z, .b, .z, .z, .z, .z], [.b, .b, .b, .b, .b, .z, .z, .z, .z, .z], [.b, .b, .b, .b, .a, .a, .z, .z, .z, .z], [.b, .b, .b, .a, .a, .a, .a, .z, .z, .z], [.a, .a, .a, .a, .a, .a, .a, .a, .z, .z], [.a, .a, .a, .a, .a, .a, .a, .a, .a, .z]] [true, false, false, false, false, true, false, false, false, false, true, true, true, false, false, false, false, false, false, false, false, false, false, false, false, false, false] [80] (s1 := ⟨[I e1, .bot, .bot, .bot, .bot, I product13, .bot, .bot, .bot, .bot, .ow 80, I ((y3.length : Int)), I t5, .bot, .bot, .bot, .bot, .bot, .bot, .bot, .bot, .bot, .bot, .bot, .bot, .bot, .bot], [(80, .arr 3 1 (y3.map c3))]⟩) (by kernel_rfl) (by kernel_rfl) ?_ ?_
        · refine DE_0 0 (I product4) (by kernel_rfl) rfl rfl rfl (gsat_none rfl) (by kernel_rfl) (E_move (I product4) rfl (by kernel_rfl)) 16 rfl ?_
          refine DE_0 1 (I e10) (by kernel_rfl) rfl rfl rfl (gsat_none rfl) (by kernel_rfl) (E_move (I e10) rfl (by kernel_rfl)) 17 rfl ?_
          refine DE_0 2 (I (w64 (Int.tdiv product4 e10))) (by kernel_rfl) rfl rfl rfl (gsat_none rfl) (by kernel_rfl) (Y0_quo64 (a := product4) (b := e10) rfl (by kernel_rfl) (by kernel_rfl) (nz_some hz11)) 18 rfl ?_
          refine DE_0 3 (I e10) (by kernel_rfl) rfl rfl rfl (gsat_none rfl) (by kernel_rfl) (E_move (I e10) rfl (by kernel_rfl)) 19 rfl ?_
          refine DE_0 4 (I e1) (by kernel_rfl) rfl rfl rfl (gsat_none rfl) (by kernel_rfl) (E_move (I e1) rfl (by kernel_rfl)) 20 rfl ?_
          refine DE_0 5 (I e10) (by kernel_rfl) rfl rfl rfl (gsat_none rfl) (by kernel_rfl) (E_move (I e10) rfl (by kernel_rfl)) 21 rfl ?_
          refine DE_1 6 (by kernel_rfl) rfl rfl rfl (gsat_none rfl) (Y1_call (s_impl_kronecker hy12) cf_impl_kronecker rfl (by kernel_rfl)) rfl rfl rfl 22 rfl ?_
          refine DE_0 7 (I (w64 (e10 - y12))) (by kernel_rfl) rfl rfl rfl (gsat_none rfl) (by kernel_rfl) (Y0_sub64 (a := e10) (b := y12) rfl (by kernel_rfl) (by kernel_rfl)) 23 rfl ?_
          refine DE_0 8 (I (w64 ((w64 (Int.tdiv product4 e10)) * (w64 (e10 - y12))))) (by kernel_rfl) rfl rfl rfl (gsat_none rfl) (by kernel_rfl) (Y0_mul64 (a := w64 (Int.tdiv product4 e10)) (b := w64 (e10 - y12)) rfl (by kernel_rfl) (by kernel_rfl)) 24 rfl ?_
          refine DE_0 9 (I (w64 ((w64 (Int.tdiv product4 e10)) * (w64 (e10 - y12))))) (by kernel_rfl) rfl rfl rfl (gsat_none rfl) (by kernel_rfl) (E_assign (I (w64 ((w64 (Int.tdiv product4 e10)) * (w64 (e10 - y12))))) rfl (by kernel_rfl)) 5 rfl ?_
          refine DL_nil (by kernel_rfl) ?_
          refine XL_nil ?_
          subst hproduct13
          kernel_rfl
        show V _ _ _ _
        obtain ⟨t14, ht14, h⟩ := of_sI h
        refine V_reg [true, false, false, false, false, true, false, false, false, false, true, true, true, false, false, false, false, false, false, false, false, false, false, false, false, false, false] [80] (s1 := ⟨[I e1, .bot, .bot, .bot, .bot, I product13, .bot, .bot, .bot, .bot, .ow 80, I ((y3.length : Int)), I t14, .bot, .bot, .bot, .bot, .bot, .bot, .bot, .bot, .bot, .bot, .bot, .bot, .bot, .bot], [(80, .arr 3 1 (y3.map c3))]⟩) ?_ ?_
        · refine XL_cons rfl (X_of_Y0 rfl (Y0_add64 (a := t5) (b := 1) rfl (by kernel_rfl) (by kernel_rfl))) ?_
          refine XL_cons rfl (X_of_Y0 rfl (E_move (I (w64 (t5 + 1))) rfl (by kernel_rfl))) ?_
          refine XL_nil ?_
          subst ht14
          kernel_rfl
        exact ⟨n, Nat.lt_succ_self n, _, _,  by rfl, h⟩
      · have h := of_false h hc8
        refine V_exit ?_
        obtain rfl := some_inj h
        show St.keep _ _ _ = _
        rfl
  show V _ _ _ _
  refine V_sreg [false, false, false, false, true, false, false, false, false, false, false, false, false, false, false, false, false, false, false, false, false, false, false, false, false, false, false] [] (s1 := ⟨[.bot, .bot, .bot, .bot, I o7, .bot, .bot, .bot, .bot, .bot, .bot, .bot, .bot, .bot, .bot, .bot, .bot, .bot, .bot, .bot, .bot, .bot, .bot, .bot, .bot, .bot, .bot], []⟩) ?_ ?_
  · refine XL_cons rfl (X_of_Y0 rfl (E_move (I o7) rfl (by kernel_rfl))) ?_
    refine XL_cons rfl (X_of_Y0 rfl (E_assign (I o7) rfl (by kernel_rfl))) ?_
    refine XL_nil ?_
    kernel_rfl
  refine V_ret ?_
  obtain rfl := some_inj h
  show Post _ _ _ _ _
  exact ⟨.inr rfl, rfl, rfl, rfl⟩
theorem cf_impl_ClassNumberByConductor : ∀ args w, (callFunc 15 args).run Try.prog w = .ok (.enter 15 args) w := run_callFunc Try.func15 (by kernel_rfl) (by kernel_rfl)
set_option maxRecDepth 100000 in
set_option maxHeartbeats 400000 in
theorem s_impl_ClassNumberByConductor {d1 : Int} {r : (Int × Bool)} (h : r_impl_ClassNumberByConductor d1 = some r) : CallS Try.prog 15 [I d1] (.tc (I r.1) (.tc (Bo r.2) .tn)) [] := by
  refine CallS_of_text (rs := [.t 2, .t 3]) (vs := [.tmp 2, .tmp 3]) Try.func15 rfl rfl (.cons rfl (.cons rfl FitsL.nil)) (by decide) 27 rfl ?_
  unfold r_impl_ClassNumberByConductor at h
  show V _ _ ⟨[I d1, .bot, .bot, .bot, .bot, .bot, .bot, .bot, .bot, .bot, .bot, .bot, .bot, .bot, .bot, .bot, .bot, .bot, .bot, .bot, .bot, .bot, .bot, .bot, .bot, .bot, .bot], []⟩ _
  refine V_sreg [true, false, false, false, false, false, false, false, false, false, false, false, false, false, false, false, false, false, false, false, false, false, false, false, false, false, false] [] (s1 := ⟨[I d1, .bot, .bot, .bot, .bot, .bot, .bot, .bot, .bot, .bot, .bot, .bot, .bot, .bot, .bot, .bot, .bot, .bot, .bot, .bot, .bot, .bot, .bot, .bot, .bot, .bot, .bot], []⟩) ?_ ?_
  · refine XL_cons rfl (X_of_Y0 rfl (E_assign (I 0) rfl (by kernel_rfl))) ?_
    refine XL_cons rfl (X_of_Y0 rfl (E_assign (Bo false) rfl (by kernel_rfl))) ?_
    refine XL_nil ?_
    kernel_rfl
  refine V_seq ?_
  obtain ⟨y2, hy2, h⟩ := of_bind h
  refine V_sreg [true, false, false, false, false, false, false, false, true, false, false, false, false, false, false, false, false, false, false, false, false, false, false, false, false, false, false] [] (s1 := ⟨[I d1, .bot, .bot, .bot, .bot, .bot, .bot, .bot, Bo (!y2), .bot, .bot, .bot, .bot, .bot, .bot, .bot, .bot, .bot, .bot, .bot, .bot, .bot, .bot, .bot, .bot, .bot, .bot], []⟩) ?_ ?_
  · refine XL_cons rfl (X_of_Y0 rfl (E_move (I d1) rfl (by kernel_rfl))) ?_
    refine XL_cons rfl (X_of_Y1 rfl (Y1_call (s_impl_isNegativeDisc hy2) cf_impl_isNegativeDisc rfl (by kernel_rfl))) ?_
    refine XL_cons rfl (X_of_Y0 rfl (Y0_not (b := y2) rfl (by kernel_rfl))) ?_
    refine XL_nil ?_
    kernel_rfl
  refine V_cond rfl (fun hc3 => ?_) (fun hc3 => ?_)
  · have h := of_true h hc3
    refine V_sreg [false, false, true, true, false, false, false, false, false, false, false, false, false, false, false, false, false, false, false, false, false, false, false, false, false, false, false] [] (s1 := ⟨[.bot, .bot, I 0, Bo false, .bot, .bot, .bot, .bot, .bot, .bot, .bot, .bot, .bot, .bot, .bot, .bot, .bot, .bot, .bot, .bot, .bot, .bot, .bot, .bot, .bot, .bot, .bot], []⟩) ?_ ?_
    · refine XL_cons rfl (X_of_Y0 rfl (E_assign (I 0) rfl (by kernel_rfl))) ?_
      refine XL_cons rfl (X_of_Y0 rfl (E_assign (Bo false) rfl (by kernel_rfl))) ?_
      refine XL_nil ?_
      kernel_rfl
    refine V_ret ?_
    obtain rfl := some_inj h
    show Post _ _ _ _ _
    exact ⟨.inr rfl, rfl, rfl, rfl⟩
  · have h := of_false h hc3
    refine V_skip ?_
    show V _ _ _ _
    obtain ⟨y4, hy4, h⟩ := of_bind h
    refine V_sreg [true, false, false, false, true, true, false, false, false, false, false, false, false, false, false, false, false, false, false, false, false, false, false, false, false, false, false] [] (s1 := ⟨[I d1, .bot, .bot, .bot, I y4.1, I y4.2, .bot, .bot, .bot, .bot, .bot, .bot, .bot, .bot, .bot, .bot, .bot, .bot, .bot, .bot, .bot, .bot, .bot, .bot, .bot, .bot, .bot], []⟩) ?_ ?_
    · refine XL_cons rfl (X_of_Y0 rfl (E_move (I d1) rfl (by kernel_rfl))) ?_
      refine XL_cons rfl (X_of_Y1 rfl (Y1_call (s_impl_fundamental hy4) cf_impl_fundamental rfl (by kernel_rfl))) ?_
      refine XL_cons rfl (X_of_Y0 rfl (E_move (.tc (I y4.1) (.tc (I y4.2) .tn)) rfl (by kernel_rfl))) ?_
      refine XL_cons rfl (X_of_Y0 rfl (E_ext (n := 0) (I y4.1) (.tc (I y4.2) .tn) (I y4.1) rfl (by kernel_rfl) (by kernel_rfl) (by intro hh; cases hh))) ?_
      refine XL_cons rfl (X_of_Y0 rfl (E_ext (n := 1) (I y4.1) (.tc (I y4.2) .tn) (I y4.2) rfl (by kernel_rfl) (by kernel_rfl) (by intro hh; cases hh))) ?_
      refine XL_cons rfl (X_of_Y0 rfl (E_assign (I y4.1) rfl (by kernel_rfl))) ?_
      refine XL_cons rfl (X_of_Y0 rfl (E_assign (I y4.2) rfl (by kernel_rfl))) ?_
      refine XL_nil ?_
      kernel_rfl
    obtain ⟨y5, hy5, h⟩ := of_bind h
    obtain ⟨y6, hy6, h⟩ := of_bind h
    obtain ⟨y7, hy7, h⟩ := of_bind h
    obtain ⟨y8, hy8, h⟩ := of_bind h
    obtain ⟨z9, hz9, h⟩ := of_bind h
    obtain ⟨t10, ht10, h⟩ := of_sI h
    refine V_sreg [false, false, true, true, false, false, false, false, false, false, false, false, false, false, false, false, false, false, false, false, false, false, false, false, false, false, false] [] (s1 := ⟨[.bot, .bot, I t10, Bo true, .bot, .bot, .bot, .bot, .bot, .bot, .bot, .bot, .bot, .bot, .bot, .bot, .bot, .bot, .bot, .bot, .bot, .bot, .bot, .bot, .bot, .bot, .bot], []⟩) ?_ ?_
    · refine XL_cons rfl (X_of_Y0 rfl (E_move (I y4.1) rfl (by kernel_rfl))) ?_
      refine XL_cons rfl (X_of_Y1 rfl (Y1_call (s_impl_reducedForms hy5) cf_impl_reducedForms rfl (by kernel_rfl))) ?_
      refine XL_cons rfl (X_of_Y0 rfl (Y0_lenM (c := c37) (xs := y5) Try.underlying31 rfl (by kernel_rfl))) ?_
      refine XL_cons rfl (X_of_Y0 rfl (E_move (I y4.1) rfl (by kernel_rfl))) ?_
      refine XL_cons rfl (X_of_Y0 rfl (E_move (I y4.2) rfl (by kernel_rfl))) ?_
      refine XL_cons rfl (X_of_Y1 rfl (Y1_call (s_impl_conductorFactor hy6) cf_impl_conductorFactor rfl (by kernel_rfl))) ?_
      refine XL_cons rfl (X_of_Y0 rfl (Y0_mul64 (a := (y5.length : Int)) (b := y6) rfl (by kernel_rfl) (by kernel_rfl))) ?_
      refine XL_cons rfl (X_of_Y0 rfl (E_move (I d1) rfl (by kernel_rfl))) ?_
      refine XL_cons rfl (X_of_Y1 rfl (Y1_call (s_impl_automorphCount hy7) cf_impl_automorphCount rfl (by kernel_rfl))) ?_
      refine XL_cons rfl (X_of_Y0 rfl (Y0_mul64 (a := w64 (((y5.length : Int)) * y6)) (b := y7) rfl (by kernel_rfl) (by kernel_rfl))) ?_
      refine XL_cons rfl (X_of_Y0 rfl (E_move (I y4.1) rfl (by kernel_rfl))) ?_
      refine XL_cons rfl (X_of_Y1 rfl (Y1_call (s_impl_automorphCount hy8) cf_impl_automorphCount rfl (by kernel_rfl))) ?_
      refine XL_cons rfl (X_of_Y0 rfl (Y0_quo64 (a := w64 ((w64 (((y5.length : Int)) * y6)) * y7)) (b := y8) rfl (by kernel_rfl) (by kernel_rfl) (nz_some hz9))) ?_
      refine XL_cons rfl (X_of_Y0 rfl (E_assign (I (w64 (Int.tdiv (w64 ((w64 (((y5.length : Int)) * y6)) * y7)) y8))) rfl (by kernel_rfl))) ?_
      refine XL_cons rfl (X_of_Y0 rfl (E_assign (Bo true) rfl (by kernel_rfl))) ?_
      refine XL_nil ?_
      subst ht10
      kernel_rfl
    refine V_ret ?_
    obtain rfl := some_inj h
    show Post _ _ _ _ _
    exact ⟨.inr rfl, rfl, rfl, rfl⟩
theorem cf_spec_foDisc : ∀ args w, (callFunc 157 args).run Try.prog w = .ok (.enter 157 args) w := run_callFunc Try.func157 (by kernel_rfl) (by kernel_rfl)
set_option maxRecDepth 100000 in
set_option maxHeartbeats 400000 in
theorem s_spec_foDisc {f1 : (Int × Int × Int)} {r : Int} (h : r_spec_foDisc f1 = some r) : CallS Try.prog 157 [.ag [Ti f1.1, Ti f1.2.1, Ti f1.2.2]] (I r) [] := by
  refine CallS_of_text (rs := [.t 2]) (vs := [.tmp 2]) Try.func157 rfl rfl (.cons rfl FitsL.nil) (by decide) 15 rfl ?_
  unfold r_spec_foDisc at h
  show V _ _ ⟨[.ag [Ti f1.1, Ti f1.2.1, Ti f1.2.2], .bot, .bot, .bot, .bot, .bot, .bot, .bot, .bot, .bot, .bot, .bot, .bot, .bot, .bot], []⟩ _
  refine V_sreg [false, true, false, false, false, false, false, false, false, false, false, false, false, false, false] [8] (s1 := ⟨[.bot, .pt 8 0, .bot, .bot, .bot, .bot, .bot, .bot, .bot, .bot, .bot, .bot, .bot, .bot, .bot], [(8, .box [Ti f1.1, Ti f1.2.1, Ti f1.2.2])]⟩) ?_ ?_
  · refine XL_cons rfl (X_of_Y1 rfl (Y1_box (cs := [Ti f1.1, Ti f1.2.1, Ti f1.2.2]) rfl (by kernel_rfl))) ?_
    refine XL_cons rfl (X_of_Y0 rfl (E_assign (I 0) rfl (by kernel_rfl))) ?_
    refine XL_nil ?_
    kernel_rfl
  obtain ⟨t2, ht2, h⟩ := of_sI h
  refine V_sreg [false, false, true, false, false, false, false, false, false, false, false, false, false, false, false] [] (s1 := ⟨[.bot, .bot, I t2, .bot, .bot, .bot, .bot, .bot, .bot, .bot, .bot, .bot, .bot, .bot, .bot], []⟩) ?_ ?_
  · refine XL_cons rfl (X_of_Y0 rfl (E_field (.pt 8 1) Try.underlying37 rfl sz3 rfl (by kernel_rfl) (by intro hh; cases hh))) ?_
    refine XL_cons rfl (X_of_Y0 rfl (Y0_load1 (c := Ti f1.2.1) (cs := [Ti f1.2.2]) sc3 rfl (by kernel_rfl))) ?_
    refine XL_cons rfl (X_of_Y0 rfl (E_field (.pt 8 1) Try.underlying37 rfl sz3 rfl (by kernel_rfl) (by intro hh; cases hh))) ?_
    refine XL_cons rfl (X_of_Y0 rfl (Y0_load1 (c := Ti f1.2.1) (cs := [Ti f1.2.2]) sc3 rfl (by kernel_rfl))) ?_
    refine XL_cons rfl (X_of_Y0 rfl (Y0_mul64 (a := f1.2.1) (b := f1.2.1) rfl (by kernel_rfl) (by kernel_rfl))) ?_
    refine XL_cons rfl (X_of_Y0 rfl (E_field (.pt 8 0) Try.underlying37 rfl sz3 rfl (by kernel_rfl) (by intro hh; cases hh))) ?_
    refine XL_cons rfl (X_of_Y0 rfl (Y0_load1 (c := Ti f1.1) (cs := [Ti f1.2.1, Ti f1.2.2]) sc3 rfl (by kernel_rfl))) ?_
    refine XL_cons rfl (X_of_Y0 rfl (Y0_mul64 (a := 4) (b := f1.1) rfl (by kernel_rfl) (by kernel_rfl))) ?_
    refine XL_cons rfl (X_of_Y0 rfl (E_field (.pt 8 2) Try.underlying37 rfl sz3 rfl (by kernel_rfl) (by intro hh; cases hh))) ?_
    refine XL_cons rfl (X_of_Y0 rfl (Y0_load1 (c := Ti f1.2.2) (cs := []) sc3 rfl (by kernel_rfl))) ?_
    refine XL_cons rfl (X_of_Y0 rfl (Y0_mul64 (a := w64 (4 * f1.1)) (b := f1.2.2) rfl (by kernel_rfl) (by kernel_rfl))) ?_
    refine XL_cons rfl (X_of_Y0 rfl (Y0_sub64 (a := w64 (f1.2.1 * f1.2.1)) (b := w64 ((w64 (4 * f1.1)) * f1.2.2)) rfl (by kernel_rfl) (by kernel_rfl))) ?_
    refine XL_cons rfl (X_of_Y0 rfl (E_assign (I (w64 ((w64 (f1.2.1 * f1.2.1)) - (w64 ((w64 (4 * f1.1)) * f1.2.2))))) rfl (by kernel_rfl))) ?_
    refine XL_nil ?_
    subst ht2
    kernel_rfl
  refine V_ret ?_
  obtain rfl := some_inj h
  show Post _ _ _ _ _
  exact ⟨.inr rfl, rfl, rfl, rfl⟩
theorem cf_spec_reIs : ∀ args w, (callFunc 158 args).run Try.prog w = .ok (.enter 158 args) w := run_callFunc Try.func158 (by kernel_rfl) (by kernel_rfl)
set_option maxRecDepth 100000 in
set_option maxHeartbeats 400000 in
theorem s_spec_reIs {f1 : (Int × Int × Int)} {r : Bool} (h : r_spec_reIs f1 = some r) : CallS Try.prog 158 [.ag [Ti f1.1, Ti f1.2.1, Ti f1.2.2]] (Bo r) [] := by
  refine CallS_of_text (rs := [.t 2]) (vs := [.tmp 2]) Try.func158 rfl rfl (.cons rfl FitsL.nil) (by decide) 35 rfl ?_
  unfold r_spec_reIs at h
  show V _ _ ⟨[.ag [Ti f1.1, Ti f1.2.1, Ti f1.2.2], .bot, .bot, .bot, .bot, .bot, .bot, .bot, .bot, .bot, .bot, .bot, .bot, .bot, .bot, .bot, .bot, .bot, .bot, .bot, .bot, .bot, .bot, .bot, .bot, .bot, .bot, .bot, .bot, .bot, .bot, .bot, .bot, .bot, .bot], []⟩ _
  refine V_sreg [false, true, false, false, false, false, false, false, false, false, false, false, false, false, false, false, false, false, false, false, false, false, false, false, false, false, false, false, false, false, false, false, false, false, false] [8] (s1 := ⟨[.bot, .pt 8 0, .bot, .bot, .bot, .bot, .bot, .bot, .bot, .bot, .bot, .bot, .bot, .bot, .bot, .bot, .bot, .bot, .bot, .bot, .bot, .bot, .bot, .bot, .bot, .bot, .bot, .bot, .bot, .bot, .bot, .bot, .bot, .bot, .bot], [(8, .box [Ti f1.1, Ti f1.2.1, Ti f1.2.2])]⟩) ?_ ?_
  · refine XL_cons rfl (X_of_Y1 rfl (Y1_box (cs := [Ti f1.1, Ti f1.2.1, Ti f1.2.2]) rfl (by kernel_rfl))) ?_
    refine XL_cons rfl (X_of_Y0 rfl (E_assign (Bo false) rfl (by kernel_rfl))) ?_
    refine XL_nil ?_
    kernel_rfl
  obtain ⟨t6, ht6, h⟩ := of_bind h
  have ht6 := some_inj ht6
  refine V_sreg [false, false, true, false, false, false, false, false, false, false, false, false, false, false, false, false, false, false, false, false, false, false, false, false, false, false, false, false, false, false, false, false, false, false, false] [] (s1 := ⟨[.bot, .bot, Bo t6, .bot, .bot, .bot, .bot, .bot, .bot, .bot, .bot, .bot, .bot, .bot, .bot, .bot, .bot, .bot, .bot, .bot, .bot, .bot, .bot, .bot, .bot, .bot, .bot, .bot, .bot, .bot, .bot, .bot, .bot, .bot, .bot], []⟩) ?_ ?_
  · refine XL_cons rfl (X_of_Y0 rfl (E_field (.pt 8 0) Try.underlying37 rfl sz3 rfl (by kernel_rfl) (by intro hh; cases hh))) ?_
    refine XL_cons rfl (X_of_Y0 rfl (Y0_load1 (c := Ti f1.1) (cs := [Ti f1.2.1, Ti f1.2.2]) sc3 rfl (by kernel_rfl))) ?_
    refine XL_cons rfl (X_of_Y0 rfl (Y0_neg64 (a := f1.1) rfl (by kernel_rfl))) ?_
    refine XL_cons rfl (X_of_Y0 rfl (E_field (.pt 8 1) Try.underlying37 rfl sz3 rfl (by kernel_rfl) (by intro hh; cases hh))) ?_
    refine XL_cons rfl (X_of_Y0 rfl (Y0_load1 (c := Ti f1.2.1) (cs := [Ti f1.2.2]) sc3 rfl (by kernel_rfl))) ?_
    refine XL_cons rfl (X_of_Y0 rfl (Y0_ltw (k := .i64) (a := w64 (0 - f1.1)) (b := f1.2.1) rfl (by kernel_rfl) (by kernel_rfl))) ?_
    refine XL_cons rfl (X_of_Y0 rfl (E_move (Bo (ltI (w64 (0 - f1.1)) f1.2.1)) rfl (by kernel_rfl))) ?_
    refine XL_split (ltI (w64 (0 - f1.1)) f1.2.1) (fun hc2 => ?_) (fun hc2 => ?_)
    · refine XL_takeC (ltI (w64 (0 - f1.1)) f1.2.1) rfl rfl (by kernel_rfl) hc2 (X_of_Y0 rfl (E_field (.pt 8 1) Try.underlying37 rfl sz3 rfl (by kernel_rfl) (by intro hh; cases hh))) ?_
      refine XL_takeC (ltI (w64 (0 - f1.1)) f1.2.1) rfl rfl (by kernel_rfl) hc2 (X_of_Y0 rfl (Y0_load1 (c := Ti f1.2.1) (cs := [Ti f1.2.2]) sc3 rfl (by kernel_rfl))) ?_
      refine XL_takeC (ltI (w64 (0 - f1.1)) f1.2.1) rfl rfl (by kernel_rfl) hc2 (X_of_Y0 rfl (E_field (.pt 8 0) Try.underlying37 rfl sz3 rfl (by kernel_rfl) (by intro hh; cases hh))) ?_
      refine XL_takeC (ltI (w64 (0 - f1.1)) f1.2.1) rfl rfl (by kernel_rfl) hc2 (X_of_Y0 rfl (Y0_load1 (c := Ti f1.1) (cs := [Ti f1.2.1, Ti f1.2.2]) sc3 rfl (by kernel_rfl))) ?_
      refine XL_takeC (ltI (w64 (0 - f1.1)) f1.2.1) rfl rfl (by kernel_rfl) hc2 (X_of_Y0 rfl (Y0_lew (k := .i64) (a := f1.2.1) (b := f1.1) rfl (by kernel_rfl) (by kernel_rfl))) ?_
      refine XL_cons rfl (X_of_Y0 rfl (Y0_pick1 (b := ltI (w64 (0 - f1.1)) f1.2.1) (p := leI f1.2.1 f1.1) (q := false) rfl (by kernel_rfl) hc2 (by kernel_rfl))) ?_
      refine XL_cons rfl (X_of_Y0 rfl (E_move (Bo (bif (ltI (w64 (0 - f1.1)) f1.2.1) then (leI f1.2.1 f1.1) else false)) rfl (by kernel_rfl))) ?_
      refine XL_split (bif (ltI (w64 (0 - f1.1)) f1.2.1) then (leI f1.2.1 f1.1) else false) (fun hc3 => ?_) (fun hc3 => ?_)
      · refine XL_takeC (bif (ltI (w64 (0 - f1.1)) f1.2.1) then (leI f1.2.1 f1.1) else false) rfl rfl (by kernel_rfl) hc3 (X_of_Y0 rfl (E_field (.pt 8 0) Try.underlying37 rfl sz3 rfl (by kernel_rfl) (by intro hh; cases hh))) ?_
        refine XL_takeC (bif (ltI (w64 (0 - f1.1)) f1.2.1) then (leI f1.2.1 f1.1) else false) rfl rfl (by kernel_rfl) hc3 (X_of_Y0 rfl (Y0_load1 (c := Ti f1.1) (cs := [Ti f1.2.1, Ti f1.2.2]) sc3 rfl (by kernel_rfl))) ?_
        refine XL_takeC (bif (ltI (w64 (0 - f1.1)) f1.2.1) then (leI f1.2.1 f1.1) else false) rfl rfl (by kernel_rfl) hc3 (X_of_Y0 rfl (E_field (.pt 8 2) Try.underlying37 rfl sz3 rfl (by kernel_rfl) (by intro hh; cases hh))) ?_
        refine XL_takeC (bif (ltI (w64 (0 - f1.1)) f1.2.1) then (leI f1.2.1 f1.1) else false) rfl rfl (by kernel_rfl) hc3 (X_of_Y0 rfl (Y0_load1 (c := Ti f1.2.2) (cs := []) sc3 rfl (by kernel_rfl))) ?_
        refine XL_takeC (bif (ltI (w64 (0 - f1.1)) f1.2.1) then (leI f1.2.1 f1.1) else false) rfl rfl (by kernel_rfl) hc3 (X_of_Y0 rfl (Y0_ltw (k := .i64) (a := f1.1) (b := f1.2.2) rfl (by kernel_rfl) (by kernel_rfl))) ?_
        refine XL_takeC (bif (ltI (w64 (0 - f1.1)) f1.2.1) then (leI f1.2.1 f1.1) else false) rfl rfl (by kernel_rfl) hc3 (X_of_Y0 rfl (E_move (Bo (ltI f1.1 f1.2.2)) rfl (by kernel_rfl))) ?_
        refine XL_split (ltI f1.1 f1.2.2) (fun hc4 => ?_) (fun hc4 => ?_)
        · refine XL_skipF (ltI f1.1 f1.2.2) rfl rfl (by kernel_rfl) hc4 rfl ?_
          refine XL_skipF (ltI f1.1 f1.2.2) rfl rfl (by kernel_rfl) hc4 rfl ?_
          refine XL_skipF (ltI f1.1 f1.2.2) rfl rfl (by kernel_rfl) hc4 rfl ?_
          refine XL_skipF (ltI f1.1 f1.2.2) rfl rfl (by kernel_rfl) hc4 rfl ?_
          refine XL_skipF (ltI f1.1 f1.2.2) rfl rfl (by kernel_rfl) hc4 rfl ?_
          refine XL_skipF (ltI f1.1 f1.2.2) rfl rfl (by kernel_rfl) hc4 rfl ?_
          refine XL_skip2 rfl rfl (by kernel_rfl) rfl ?_
          refine XL_skip2 rfl rfl (by kernel_rfl) rfl ?_
          refine XL_skip2 rfl rfl (by kernel_rfl) rfl ?_
          refine XL_skipF (ltI f1.1 f1.2.2) rfl rfl (by kernel_rfl) hc4 rfl ?_
          refine XL_takeC (bif (ltI (w64 (0 - f1.1)) f1.2.1) then (leI f1.2.1 f1.1) else false) rfl rfl (by kernel_rfl) hc3 (X_of_Y0 rfl (Y0_pick1 (b := ltI f1.1 f1.2.2) (p := true) (q := bif (eqI f1.1 f1.2.2) then (leI 0 f1.2.1) else false) rfl (by kernel_rfl) hc4 (by kernel_rfl))) ?_
          refine XL_cons rfl (X_of_Y0 rfl (Y0_pick1 (b := bif (ltI (w64 (0 - f1.1)) f1.2.1) then (leI f1.2.1 f1.1) else false) (p := bif (ltI f1.1 f1.2.2) then true else (bif (eqI f1.1 f1.2.2) then (leI 0 f1.2.1) else false)) (q := false) rfl (by kernel_rfl) hc3 (by kernel_rfl))) ?_
          refine XL_cons rfl (X_of_Y0 rfl (E_assign (Bo (bif (bif (ltI (w64 (0 - f1.1)) f1.2.1) then (leI f1.2.1 f1.1) else false) then (bif (ltI f1.1 f1.2.2) then true else (bif (eqI f1.1 f1.2.2) then (leI 0 f1.2.1) else false)) else false)) rfl (by kernel_rfl))) ?_
          refine XL_nil ?_
          subst ht6
          kernel_rfl
        · refine XL_takeC (ltI f1.1 f1.2.2) rfl rfl (by kernel_rfl) hc4 (X_of_Y0 rfl (E_field (.pt 8 0) Try.underlying37 rfl sz3 rfl (by kernel_rfl) (by intro hh; cases hh))) ?_
          refine XL_takeC (ltI f1.1 f1.2.2) rfl rfl (by kernel_rfl) hc4 (X_of_Y0 rfl (Y0_load1 (c := Ti f1.1) (cs := [Ti f1.2.1, Ti f1.2.2]) sc3 rfl (by kernel_rfl))) ?_
          refine XL_takeC (ltI f1.1 f1.2.2) rfl rfl (by kernel_rfl) hc4 (X_of_Y0 rfl (E_field (.pt 8 2) Try.underlying37 rfl sz3 rfl (by kernel_rfl) (by intro hh; cases hh))) ?_
          refine XL_takeC (ltI f1.1 f1.2.2) rfl rfl (by kernel_rfl) hc4 (X_of_Y0 rfl (Y0_load1 (c := Ti f1.2.2) (cs := []) sc3 rfl (by kernel_rfl))) ?_
          refine XL_takeC (ltI f1.1 f1.2.2) rfl rfl (by kernel_rfl) hc4 (X_of_Y0 rfl (Y0_eqw (k := .i64) (a := f1.1) (b := f1.2.2) rfl (by kernel_rfl) (by kernel_rfl))) ?_
          refine XL_takeC (ltI f1.1 f1.2.2) rfl rfl (by kernel_rfl) hc4 (X_of_Y0 rfl (E_move (Bo (eqI f1.1 f1.2.2)) rfl (by kernel_rfl))) ?_
          refine XL_split (eqI f1.1 f1.2.2) (fun hc5 => ?_) (fun hc5 => ?_)
          · refine XL_takeC (eqI f1.1 f1.2.2) rfl rfl (by kernel_rfl) hc5 (X_of_Y0 rfl (E_field (.pt 8 1) Try.underlying37 rfl sz3 rfl (by kernel_rfl) (by intro hh; cases hh))) ?_
            refine XL_takeC (eqI f1.1 f1.2.2) rfl rfl (by kernel_rfl) hc5 (X_of_Y0 rfl (Y0_load1 (c := Ti f1.2.1) (cs := [Ti f1.2.2]) sc3 rfl (by kernel_rfl))) ?_
            refine XL_takeC (eqI f1.1 f1.2.2) rfl rfl (by kernel_rfl) hc5 (X_of_Y0 rfl (Y0_gew (k := .i64) (a := f1.2.1) (b := 0) rfl (by kernel_rfl) (by kernel_rfl))) ?_
            refine XL_takeC (ltI f1.1 f1.2.2) rfl rfl (by kernel_rfl) hc4 (X_of_Y0 rfl (Y0_pick1 (b := eqI f1.1 f1.2.2) (p := leI 0 f1.2.1) (q := false) rfl (by kernel_rfl) hc5 (by kernel_rfl))) ?_
            refine XL_takeC (bif (ltI (w64 (0 - f1.1)) f1.2.1) then (leI f1.2.1 f1.1) else false) rfl rfl (by kernel_rfl) hc3 (X_of_Y0 rfl (Y0_pick0 (b := ltI f1.1 f1.2.2) (p := true) (q := bif (eqI f1.1 f1.2.2) then (leI 0 f1.2.1) else false) rfl (by kernel_rfl) hc4 (by kernel_rfl))) ?_
            refine XL_cons rfl (X_of_Y0 rfl (Y0_pick1 (b := bif (ltI (w64 (0 - f1.1)) f1.2.1) then (leI f1.2.1 f1.1) else false) (p := bif (ltI f1.1 f1.2.2) then true else (bif (eqI f1.1 f1.2.2) then (leI 0 f1.2.1) else false)) (q := false) rfl (by kernel_rfl) hc3 (by kernel_rfl))) ?_
            refine XL_cons rfl (X_of_Y0 rfl (E_assign (Bo (bif (bif (ltI (w64 (0 - f1.1)) f1.2.1) then (leI f1.2.1 f1.1) else false) then (bif (ltI f1.1 f1.2.2) then true else (bif (eqI f1.1 f1.2.2) then (leI 0 f1.2.1) else false)) else false)) rfl (by kernel_rfl))) ?_
            refine XL_nil ?_
            subst ht6
            kernel_rfl
          · refine XL_skipT (eqI f1.1 f1.2.2) rfl rfl (by kernel_rfl) hc5 rfl ?_
            refine XL_skipT (eqI f1.1 f1.2.2) rfl rfl (by kernel_rfl) hc5 rfl ?_
            refine XL_skipT (eqI f1.1 f1.2.2) rfl rfl (by kernel_rfl) hc5 rfl ?_
            refine XL_takeC (ltI f1.1 f1.2.2) rfl rfl (by kernel_rfl) hc4 (X_of_Y0 rfl (Y0_pick0 (b := eqI f1.1 f1.2.2) (p := leI 0 f1.2.1) (q := false) rfl (by kernel_rfl) hc5 (by kernel_rfl))) ?_
            refine XL_takeC (bif (ltI (w64 (0 - f1.1)) f1.2.1) then (leI f1.2.1 f1.1) else false) rfl rfl (by kernel_rfl) hc3 (X_of_Y0 rfl (Y0_pick0 (b := ltI f1.1 f1.2.2) (p := true) (q := bif (eqI f1.1 f1.2.2) then (leI 0 f1.2.1) else false) rfl (by kernel_rfl) hc4 (by kernel_rfl))) ?_
            refine XL_cons rfl (X_of_Y0 rfl (Y0_pick1 (b := bif (ltI (w64 (0 - f1.1)) f1.2.1) then (leI f1.2.1 f1.1) else false) (p := bif (ltI f1.1 f1.2.2) then true else (bif (eqI f1.1 f1.2.2) then (leI 0 f1.2.1) else false)) (q := false) rfl (by kernel_rfl) hc3 (by kernel_rfl))) ?_
            refine XL_cons rfl (X_of_Y0 rfl (E_assign (Bo (bif (bif (ltI (w64 (0 - f1.1)) f1.2.1) then (leI f1.2.1 f1.1) else false) then (bif (ltI f1.1 f1.2.2) then true else (bif (eqI f1.1 f1.2.2) then (leI 0 f1.2.1) else false)) else false)) rfl (by kernel_rfl))) ?_
            refine XL_nil ?_
            subst ht6
            kernel_rfl
      · refine XL_skipT (bif (ltI (w64 (0 - f1.1)) f1.2.1) then (leI f1.2.1 f1.1) else false) rfl rfl (by kernel_rfl) hc3 rfl ?_
        refine XL_skipT (bif (ltI (w64 (0 - f1.1)) f1.2.1) then (leI f1.2.1 f1.1) else false) rfl rfl (by kernel_rfl) hc3 rfl ?_
        refine XL_skipT (bif (ltI (w64 (0 - f1.1)) f1.2.1) then (leI f1.2.1 f1.1) else false) rfl rfl (by kernel_rfl) hc3 rfl ?_
        refine XL_skipT (bif (ltI (w64 (0 - f1.1)) f1.2.1) then (leI f1.2.1 f1.1) else false) rfl rfl (by kernel_rfl) hc3 rfl ?_
        refine XL_skipT (bif (ltI (w64 (0 - f1.1)) f1.2.1) then (leI f1.2.1 f1.1) else false) rfl rfl (by kernel_rfl) hc3 rfl ?_
        refine XL_skipT (bif (ltI (w64 (0 - f1.1)) f1.2.1) then (leI f1.2.1 f1.1) else false) rfl rfl (by kernel_rfl) hc3 rfl ?_
        refine XL_skip2 rfl rfl (by kernel_rfl) rfl ?_
        refine XL_skip2 rfl rfl (by kernel_rfl) rfl ?_
        refine XL_skip2 rfl rfl (by kernel_rfl) rfl ?_
        refine XL_skip2 rfl rfl (by kernel_rfl) rfl ?_
        refine XL_skip2 rfl rfl (by kernel_rfl) rfl ?_
        refine XL_skip2 rfl rfl (by kernel_rfl) rfl ?_
        refine XL_skip2 rfl rfl (by kernel_rfl) rfl ?_
        refine XL_skip2 rfl rfl (by kernel_rfl) rfl ?_
        refine XL_skip2 rfl rfl (by kernel_rfl) rfl ?_
        refine XL_skip2 rfl rfl (by kernel_rfl) rfl ?_
        refine XL_skipT (bif (ltI (w64 (0 - f1.1)) f1.2.1) then (leI f1.2.1 f1.1) else false) rfl rfl (by kernel_rfl) hc3 rfl ?_
        refine XL_cons rfl (X_of_Y0 rfl (Y0_pick0 (b := bif (ltI (w64 (0 - f1.1)) f1.2.1) then (leI f1.2.1 f1.1) else false) (p := bif (ltI f1.1 f1.2.2) then true else (bif (eqI f1.1 f1.2.2) then (leI 0 f1.2.1) else false)) (q := false) rfl (by kernel_rfl) hc3 (by kernel_rfl))) ?_
        refine XL_cons rfl (X_of_Y0 rfl (E_assign (Bo (bif (bif (ltI (w64 (0 - f1.1)) f1.2.1) then (leI f1.2.1 f1.1) else false) then (bif (ltI f1.1 f1.2.2) then true else (bif (eqI f1.1 f1.2.2) then (leI 0 f1.2.1) else false)) else false)) rfl (by kernel_rfl))) ?_
        refine XL_nil ?_
        subst ht6
        kernel_rfl
    · refine XL_skipT (ltI (w64 (0 - f1.1)) f1.2.1) rfl rfl (by kernel_rfl) hc2 rfl ?_
      refine XL_skipT (ltI (w64 (0 - f1.1)) f1.2.1) rfl rfl (by kernel_rfl) hc2 rfl ?_
      refine XL_skipT (ltI (w64 (0 - f1.1)) f1.2.1) rfl rfl (by kernel_rfl) hc2 rfl ?_
      refine XL_skipT (ltI (w64 (0 - f1.1)) f1.2.1) rfl rfl (by kernel_rfl) hc2 rfl ?_
      refine XL_skipT (ltI (w64 (0 - f1.1)) f1.2.1) rfl rfl (by kernel_rfl) hc2 rfl ?_
      refine XL_cons rfl (X_of_Y0 rfl (Y0_pick0 (b := ltI (w64 (0 - f1.1)) f1.2.1) (p := leI f1.2.1 f1.1) (q := false) rfl (by kernel_rfl) hc2 (by kernel_rfl))) ?_
      refine XL_cons rfl (X_of_Y0 rfl (E_move (Bo (bif (ltI (w64 (0 - f1.1)) f1.2.1) then (leI f1.2.1 f1.1) else false)) rfl (by kernel_rfl))) ?_
      refine XL_split (bif (ltI (w64 (0 - f1.1)) f1.2.1) then (leI f1.2.1 f1.1) else false) (fun hc3 => ?_) (fun hc3 => ?_)
      · refine XL_takeC (bif (ltI (w64 (0 - f1.1)) f1.2.1) then (leI f1.2.1 f1.1) else false) rfl rfl (by kernel_rfl) hc3 (X_of_Y0 rfl (E_field (.pt 8 0) Try.underlying37 rfl sz3 rfl (by kernel_rfl) (by intro hh; cases hh))) ?_
        refine XL_takeC (bif (ltI (w64 (0 - f1.1)) f1.2.1) then (leI f1.2.1 f1.1) else false) rfl rfl (by kernel_rfl) hc3 (X_of_Y0 rfl (Y0_load1 (c := Ti f1.1) (cs := [Ti f1.2.1, Ti f1.2.2]) sc3 rfl (by kernel_rfl))) ?_
        refine XL_takeC (bif (ltI (w64 (0 - f1.1)) f1.2.1) then (leI f1.2.1 f1.1) else false) rfl rfl (by kernel_rfl) hc3 (X_of_Y0 rfl (E_field (.pt 8 2) Try.underlying37 rfl sz3 rfl (by kernel_rfl) (by intro hh; cases hh))) ?_
        refine XL_takeC (bif (ltI (w64 (0 - f1.1)) f1.2.1) then (leI f1.2.1 f1.1) else false) rfl rfl (by kernel_rfl) hc3 (X_of_Y0 rfl (Y0_load1 (c := Ti f1.2.2) (cs := []) sc3 rfl (by kernel_rfl))) ?_
        refine XL_takeC (bif (ltI (w64 (0 - f1.1)) f1.2.1) then (leI f1.2.1 f1.1) else false) rfl rfl (by kernel_rfl) hc3 (X_of_Y0 rfl (Y0_ltw (k := .i64) (a := f1.1) (b := f1.2.2) rfl (by kernel_rfl) (by kernel_rfl))) ?_
        refine XL_takeC (bif (ltI (w64 (0 - f1.1)) f1.2.1) then (leI f1.2.1 f1.1) else false) rfl rfl (by kernel_rfl) hc3 (X_of_Y0 rfl (E_move (Bo (ltI f1.1 f1.2.2)) rfl (by kernel_rfl))) ?_
        refine XL_split (ltI f1.1 f1.2.2) (fun hc4 => ?_) (fun hc4 => ?_)
        · refine XL_skipF (ltI f1.1 f1.2.2) rfl rfl (by kernel_rfl) hc4 rfl ?_
          refine XL_skipF (ltI f1.1 f1.2.2) rfl rfl (by kernel_rfl) hc4 rfl ?_
          refine XL_skipF (ltI f1.1 f1.2.2) rfl rfl (by kernel_rfl) hc4 rfl ?_
          refine XL_skipF (ltI f1.1 f1.2.2) rfl rfl (by kernel_rfl) hc4 rfl ?_
          refine XL_skipF (ltI f1.1 f1.2.2) rfl rfl (by kernel_rfl) hc4 rfl ?_
          refine XL_skipF (ltI f1.1 f1.2.2) rfl rfl (by kernel_rfl) hc4 rfl ?_
          refine XL_skip2 rfl rfl (by kernel_rfl) rfl ?_
          refine XL_skip2 rfl rfl (by kernel_rfl) rfl ?_
          refine XL_skip2 rfl rfl (by kernel_rfl) rfl ?_
          refine XL_skipF (ltI f1.1 f1.2.2) rfl rfl (by kernel_rfl) hc4 rfl ?_
          refine XL_takeC (bif (ltI (w64 (0 - f1.1)) f1.2.1) then (leI f1.2.1 f1.1) else false) rfl rfl (by kernel_rfl) hc3 (X_of_Y0 rfl (Y0_pick1 (b := ltI f1.1 f1.2.2) (p := true) (q := bif (eqI f1.1 f1.2.2) then (leI 0 f1.2.1) else false) rfl (by kernel_rfl) hc4 (by kernel_rfl))) ?_
          refine XL_cons rfl (X_of_Y0 rfl (Y0_pick1 (b := bif (ltI (w64 (0 - f1.1)) f1.2.1) then (leI f1.2.1 f1.1) else false) (p := bif (ltI f1.1 f1.2.2) then true else (bif (eqI f1.1 f1.2.2) then (leI 0 f1.2.1) else false)) (q := false) rfl (by kernel_rfl) hc3 (by kernel_rfl))) ?_
          refine XL_cons rfl (X_of_Y0 rfl (E_assign (Bo (bif (bif (ltI (w64 (0 - f1.1)) f1.2.1) then (leI f1.2.1 f1.1) else false) then (bif (ltI f1.1 f1.2.2) then true else (bif (eqI f1.1 f1.2.2) then (leI 0 f1.2.1) else false)) else false)) rfl (by kernel_rfl))) ?_
          refine XL_nil ?_
          subst ht6
          kernel_rfl
        · refine XL_takeC (ltI f1.1 f1.2.2) rfl rfl (by kernel_rfl) hc4 (X_of_Y0 rfl (E_field (.pt 8 0) Try.underlying37 rfl sz3 rfl (by kernel_rfl) (by intro hh; cases hh))) ?_
          refine XL_takeC (ltI f1.1 f1.2.2) rfl rfl (by kernel_rfl) hc4 (X_of_Y0 rfl (Y0_load1 (c := Ti f1.1) (cs := [Ti f1.2.1, Ti f1.2.2]) sc3 rfl (by kernel_rfl))) ?_
          refine XL_takeC (ltI f1.1 f1.2.2) rfl rfl (by kernel_rfl) hc4 (X_of_Y0 rfl (E_field (.pt 8 2) Try.underlying37 rfl sz3 rfl (by kernel_rfl) (by intro hh; cases hh))) ?_
          refine XL_takeC (ltI f1.1 f1.2.2) rfl rfl (by kernel_rfl) hc4 (X_of_Y0 rfl (Y0_load1 (c := Ti f1.2.2) (cs := []) sc3 rfl (by kernel_rfl))) ?_
          refine XL_takeC (ltI f1.1 f1.2.2) rfl rfl (by kernel_rfl) hc4 (X_of_Y0 rfl (Y0_eqw (k := .i64) (a := f1.1) (b := f1.2.2) rfl (by kernel_rfl) (by kernel_rfl))) ?_
          refine XL_takeC (ltI f1.1 f1.2.2) rfl rfl (by kernel_rfl) hc4 (X_of_Y0 rfl (E_move (Bo (eqI f1.1 f1.2.2)) rfl (by kernel_rfl))) ?_
          refine XL_split (eqI f1.1 f1.2.2) (fun hc5 => ?_) (fun hc5 => ?_)
          · refine XL_takeC (eqI f1.1 f1.2.2) rfl rfl (by kernel_rfl) hc5 (X_of_Y0 rfl (E_field (.pt 8 1) Try.underlying37 rfl sz3 rfl (by kernel_rfl) (by intro hh; cases hh))) ?_
            refine XL_takeC (eqI f1.1 f1.2.2) rfl rfl (by kernel_rfl) hc5 (X_of_Y0 rfl (Y0_load1 (c := Ti f1.2.1) (cs := [Ti f1.2.2]) sc3 rfl (by kernel_rfl))) ?_
            refine XL_takeC (eqI f1.1 f1.2.2) rfl rfl (by kernel_rfl) hc5 (X_of_Y0 rfl (Y0_gew (k := .i64) (a := f1.2.1) (b := 0) rfl (by kernel_rfl) (by kernel_rfl))) ?_
            refine XL_takeC (ltI f1.1 f1.2.2) rfl rfl (by kernel_rfl) hc4 (X_of_Y0 rfl (Y0_pick1 (b := eqI f1.1 f1.2.2) (p := leI 0 f1.2.1) (q := false) rfl (by kernel_rfl) hc5 (by kernel_rfl))) ?_
            refine XL_takeC (bif (ltI (w64 (0 - f1.1)) f1.2.1) then (leI f1.2.1 f1.1) else false) rfl rfl (by kernel_rfl) hc3 (X_of_Y0 rfl (Y0_pick0 (b := ltI f1.1 f1.2.2) (p := true) (q := bif (eqI f1.1 f1.2.2) then (leI 0 f1.2.1) else false) rfl (by kernel_rfl) hc4 (by kernel_rfl))) ?_
            refine XL_cons rfl (X_of_Y0 rfl (Y0_pick1 (b := bif (ltI (w64 (0 - f1.1)) f1.2.1) then (leI f1.2.1 f1.1) else false) (p := bif (ltI f1.1 f1.2.2) then true else (bif (eqI f1.1 f1.2.2) then (leI 0 f1.2.1) else false)) (q := false) rfl (by kernel_rfl) hc3 (by kernel_rfl))) ?_
            refine XL_cons rfl (X_of_Y0 rfl (E_assign (Bo (bif (bif (ltI (w64 (0 - f1.1)) f1.2.1) then (leI f1.2.1 f1.1) else false) then (bif (ltI f1.1 f1.2.2) then true else (bif (eqI f1.1 f1.2.2) then (leI 0 f1.2.1) else false)) else false)) rfl (by kernel_rfl))) ?_
            refine XL_nil ?_
            subst ht6
            kernel_rfl
          · refine XL_skipT (eqI f1.1 f1.2.2) rfl rfl (by kernel_rfl) hc5 rfl ?_
            refine XL_skipT (eqI f1.1 f1.2.2) rfl rfl (by kernel_rfl) hc5 rfl ?_
            refine XL_skipT (eqI f1.1 f1.2.2) rfl rfl (by kernel_rfl) hc5 rfl ?_
            refine XL_takeC (ltI f1.1 f1.2.2) rfl rfl (by kernel_rfl) hc4 (X_of_Y0 rfl (Y0_pick0 (b := eqI f1.1 f1.2.2) (p := leI 0 f1.2.1) (q := false) rfl (by kernel_rfl) hc5 (by kernel_rfl))) ?_
            refine XL_takeC (bif (ltI (w64 (0 - f1.1)) f1.2.1) then (leI f1.2.1 f1.1) else false) rfl rfl (by kernel_rfl) hc3 (X_of_Y0 rfl (Y0_pick0 (b := ltI f1.1 f1.2.2) (p := true) (q := bif (eqI f1.1 f1.2.2) then (leI 0 f1.2.1) else false) rfl (by kernel_rfl) hc4 (by kernel_rfl))) ?_
            refine XL_cons rfl (X_of_Y0 rfl (Y0_pick1 (b := bif (ltI (w64 (0 - f1.1)) f1.2.1) then (leI f1.2.1 f1.1) else false) (p := bif (ltI f1.1 f1.2.2) then true else (bif (eqI f1.1 f1.2.2) then (leI 0 f1.2.1) else false)) (q := false) rfl (by kernel_rfl) hc3 (by kernel_rfl))) ?_
            refine XL_cons rfl (X_of_Y0 rfl (E_assign (Bo (bif (bif (ltI (w64 (0 - f1.1)) f1.2.1) then (leI f1.2.1 f1.1) else false) then (bif (ltI f1.1 f1.2.2) then true else (bif (eqI f1.1 f1.2.2) then (leI 0 f1.2.1) else false)) else false)) rfl (by kernel_rfl))) ?_
            refine XL_nil ?_
            subst ht6
            kernel_rfl
      · refine XL_skipT (bif (ltI (w64 (0 - f1.1)) f1.2.1) then (leI f1.2.1 f1.1) else false) rfl rfl (by kernel_rfl) hc3 rfl ?_
        refine XL_skipT (bif (ltI (w64 (0 - f1.1)) f1.2.1) then (leI f1.2.1 f1.1) else false) rfl rfl (by kernel_rfl) hc3 rfl ?_
        refine XL_skipT (bif (ltI (w64 (0 - f1.1)) f1.2.1) then (leI f1.2.1 f1.1) else false) rfl rfl (by kernel_rfl) hc3 rfl ?_
        refine XL_skipT (bif (ltI (w64 (0 - f1.1)) f1.2.1) then (leI f1.2.1 f1.1) else false) rfl rfl (by kernel_rfl) hc3 rfl ?_
        refine XL_skipT (bif (ltI (w64 (0 - f1.1)) f1.2.1) then (leI f1.2.1 f1.1) else false) rfl rfl (by kernel_rfl) hc3 rfl ?_
        refine XL_skipT (bif (ltI (w64 (0 - f1.1)) f1.2.1) then (leI f1.2.1 f1.1) else false) rfl rfl (by kernel_rfl) hc3 rfl ?_
        refine XL_skip2 rfl rfl (by kernel_rfl) rfl ?_
        refine XL_skip2 rfl rfl (by kernel_rfl) rfl ?_
        refine XL_skip2 rfl rfl (by kernel_rfl) rfl ?_
        refine XL_skip2 rfl rfl (by kernel_rfl) rfl ?_
        refine XL_skip2 rfl rfl (by kernel_rfl) rfl ?_
        refine XL_skip2 rfl rfl (by kernel_rfl) rfl ?_
        refine XL_skip2 rfl rfl (by kernel_rfl) rfl ?_
        refine XL_skip2 rfl rfl (by kernel_rfl) rfl ?_
        refine XL_skip2 rfl rfl (by kernel_rfl) rfl ?_
        refine XL_skip2 rfl rfl (by kernel_rfl) rfl ?_
        refine XL_skipT (bif (ltI (w64 (0 - f1.1)) f1.2.1) then (leI f1.2.1 f1.1) else false) rfl rfl (by kernel_rfl) hc3 rfl ?_
        refine XL_cons rfl (X_of_Y0 rfl (Y0_pick0 (b := bif (ltI (w64 (0 - f1.1)) f1.2.1) then (leI f1.2.1 f1.1) else false) (p := bif (ltI f1.1 f1.2.2) then true else (bif (eqI f1.1 f1.2.2) then (leI 0 f1.2.1) else false)) (q := false) rfl (by kernel_rfl) hc3 (by kernel_rfl))) ?_
        refine XL_cons rfl (X_of_Y0 rfl (E_assign (Bo (bif (bif (ltI (w64 (0 - f1.1)) f1.2.1) then (leI f1.2.1 f1.1) else false) then (bif (ltI f1.1 f1.2.2) then true else (bif (eqI f1.1 f1.2.2) then (leI 0 f1.2.1) else false)) else false)) rfl (by kernel_rfl))) ?_
        refine XL_nil ?_
        subst ht6
        kernel_rfl
  refine V_ret ?_
  obtain rfl := some_inj h
  show Post _ _ _ _ _
  exact ⟨.inr rfl, rfl, rfl, rfl⟩
theorem cf_spec_reAll : ∀ args w, (callFunc 128 args).run Try.prog w = .ok (.enter 128 args) w := run_callFunc Try.func128 (by kernel_rfl) (by kernel_rfl)
set_option maxRecDepth 100000 in
set_option maxHeartbeats 400000 in
theorem s_spec_reAll {d1 : Int} {r : List ((Int × Int × Int))} (h : r_spec_reAll d1 = some r) : CallS Try.prog 128 [I d1] (.ow 0) [(0, .arr 37 3 (r.map c37))] := by
  refine CallS_of_text (rs := [.t 2]) (vs := [.tmp 2]) Try.func128 rfl rfl (.cons rfl FitsL.nil) (by decide) 47 rfl ?_
  unfold r_spec_reAll at h
  show V _ _ ⟨[I d1, .bot, .bot, .bot, .bot, .bot, .bot, .bot, .bot, .bot, .bot, .bot, .bot, .bot, .bot, .bot, .bot, .bot, .bot, .bot, .bot, .bot, .bot, .bot, .bot, .bot, .bot, .bot, .bot, .bot, .bot, .bot, .bot, .bot, .bot, .bot, .bot, .bot, .bot, .bot, .bot, .bot, .bot, .bot, .bot, .bot, .bot], []⟩ _
  refine V_sreg [true, false, false, false, false, false, false, false, false, false, false, false, false, false, false, false, false, false, false, false, false, false, false, false, false, false, false, false, false, false, false, false, false, false, false, false, false, false, false, false, false, false, false, false, false, false, false] [] (s1 := ⟨[I d1, .bot, .bot, .bot, .bot, .bot, .bot, .bot, .bot, .bot, .bot, .bot, .bot, .bot, .bot, .bot, .bot, .bot, .bot, .bot, .bot, .bot, .bot, .bot, .bot, .bot, .bot, .bot, .bot, .bot, .bot, .bot, .bot, .bot, .bot, .bot, .bot, .bot, .bot, .bot, .bot, .bot, .bot, .bot, .bot, .bot, .bot], []⟩) ?_ ?_
  · refine XL_cons rfl (X_of_Y1 rfl (Y1_nil (e := 37) 3 (by decide) (.inl rfl))) ?_
    refine XL_nil ?_
    kernel_rfl
  refine V_sreg [true, false, false, true, false, false, false, false, false, false, false, false, false, false, false, false, false, false, false, false, false, false, false, false, false, false, false, false, false, false, false, false, false, false, false, false, false, false, false, false, false, false, false, false, false, false, false] [24] (s1 := ⟨[I d1, .bot, .bot, .ow 24, .bot, .bot, .bot, .bot, .bot, .bot, .bot, .bot, .bot, .bot, .bot, .bot, .bot, .bot, .bot, .bot, .bot, .bot, .bot, .bot, .bot, .bot, .bot, .bot, .bot, .bot, .bot, .bot, .bot, .bot, .bot, .bot, .bot, .bot, .bot, .bot, .bot, .bot, .bot, .bot, .bot, .bot, .bot], [(24, .arr 37 3 ((([] : List ((Int × Int × Int)))).map c37))]⟩) ?_ ?_
  · refine XL_cons rfl (X_of_Y1 rfl (Y1_nil (e := 37) 3 (by decide) (.inl rfl))) ?_
    refine XL_nil ?_
    kernel_rfl
  refine V_seq ?_
  refine V_sreg [true, false, false, true, true, false, false, false, false, false, false, false, false, false, false, false, false, false, false, false, false, false, false, false, false, false, false, false, false, false, false, false, false, false, false, false, false, false, false, false, false, false, false, false, false, false, false] [24] (s1 := ⟨[I d1, .bot, .bot, .ow 24, I 1, .bot, .bot, .bot, .bot, .bot, .bot, .bot, .bot, .bot, .bot, .bot, .bot, .bot, .bot, .bot, .bot, .bot, .bot, .bot, .bot, .bot, .bot, .bot, .bot, .bot, .bot, .bot, .bot, .bot, .bot, .bot, .bot, .bot, .bot, .bot, .bot, .bot, .bot, .bot, .bot, .bot, .bot], [(24, .arr 37 3 ((([] : List ((Int × Int × Int)))).map c37))]⟩) ?_ ?_
  · refine XL_cons rfl (X_of_Y0 rfl (E_assign (I 1) rfl (by kernel_rfl))) ?_
    refine XL_nil ?_
    kernel_rfl
  obtain ⟨o5, hLo5, h⟩ := of_bind h
  refine V_toK [false, false, false, true, false, false, false, false, false, false, false, false, false, false, false, false, false, false, false, false, false, false, false, false, false, false, false, false, false, false, false, false, false, false, false, false, false, false, false, false, false, false, false, false, false, false, false] [24] (s1 := ⟨[.bot, .bot, .bot, .ow 24, .bot, .bot, .bot, .bot, .bot, .bot, .bot, .bot, .bot, .bot, .bot, .bot, .bot, .bot, .bot, .bot, .bot, .bot, .bot, .bot, .bot, .bot, .bot, .bot, .bot, .bot, .bot, .bot, .bot, .bot, .bot, .bot, .bot, .bot, .bot, .bot, .bot, .bot, .bot, .bot, .bot, .bot, .bot], [(24, .arr 37 3 (o5.map c37))]⟩) ?_ ?_
  · clear h
    refine V_block (V_loop (fun n s => ∃ (a2 : Int) (l3 : List ((Int × Int × Int))), s.keep [true, false, false, true, true, false, false, false, false, false, false, false, false, false, false, false, false, false, false, false, false, false, false, false, false, false, false, false, false, false, false, false, false, false, false, false, false, false, false, false, false, false, false, false, false, false, false] [24] = (⟨[I d1, .bot, .bot, .ow 24, I a2, .bot, .bot, .bot, .bot, .bot, .bot, .bot, .bot, .bot, .bot, .bot, .bot, .bot, .bot, .bot, .bot, .bot, .bot, .bot, .bot, .bot, .bot, .bot, .bot, .bot, .bot, .bot, .bot, .bot, .bot, .bot, .bot, .bot, .bot, .bot, .bot, .bot, .bot, .bot, .bot, .bot, .bot], [(24, .arr 37 3 (l3.map c37))]⟩ : St) ∧ r_spec_reAll_L4 d1 n a2 l3 = some o5) FU ⟨_, _,  by rfl, hLo5⟩ ?_)
    clear hLo5
    rintro n s ⟨a2, l3, hs, h⟩
    refine V_keep _ _ hs ?_
    clear hs
    cases n with
    | zero => cases h
    | succ n =>
      rw [r_spec_reAll_L4] at h
      refine V_seq ?_
      refine V_sreg [true, false, false, true, true, false, false, false, false, false, false, false, false, true, false, false, false, false, false, false, false, false, false, false, false, false, false, false, false, false, false, false, false, false, false, false, false, false, false, false, false, false, false, false, false, false, false] [24] (s1 := ⟨[I d1, .bot, .bot, .ow 24, I a2, .bot, .bot, .bot, .bot, .bot, .bot, .bot, .bot, Bo (leI (w64 ((w64 (3 * a2)) * a2)) (w64 (0 - d1))), .bot, .bot, .bot, .bot, .bot, .bot, .bot, .bot, .bot, .bot, .bot, .bot, .bot, .bot, .bot, .bot, .bot, .bot, .bot, .bot, .bot, .bot, .bot, .bot, .bot, .bot, .bot, .bot, .bot, .bot, .bot, .bot, .bot], [(24, .arr 37 3 (l3.map c37))]⟩) ?_ ?_
      · refine XL_cons rfl (X_of_Y0 rfl (E_move (I a2) rfl (by kernel_rfl))) ?_
        refine XL_cons rfl (X_of_Y0 rfl (Y0_mul64 (a := 3) (b := a2) rfl (by kernel_rfl) (by kernel_rfl))) ?_
        refine XL_cons rfl (X_of_Y0 rfl (E_move (I a2) rfl (by kernel_rfl))) ?_
        refine XL_cons rfl (X_of_Y0 rfl (Y0_mul64 (a := w64 (3 * a2)) (b := a2) rfl (by kernel_rfl) (by kernel_rfl))) ?_
        refine XL_cons rfl (X_of_Y0 rfl (E_move (I d1) rfl (by kernel_rfl))) ?_
        refine XL_cons rfl (X_of_Y0 rfl (Y0_neg64 (a := d1) rfl (by kernel_rfl))) ?_
        refine XL_cons rfl (X_of_Y0 rfl (Y0_lew (k := .i64) (a := w64 ((w64 (3 * a2)) * a2)) (b := w64 (0 - d1)) rfl (by kernel_rfl) (by kernel_rfl))) ?_
        refine XL_nil ?_
        kernel_rfl
      refine V_cond rfl (fun hc6 => ?_) (fun hc6 => ?_)
      · have h := of_true h hc6
        refine V_skip ?_
        show V _ _ _ _
        refine V_seq ?_
        refine V_block ?_
        obtain ⟨b7, hb7, h⟩ := of_sI h
        refine V_sreg [true, false, false, true, true, true, false, false, false, false, false, false, false, false, false, false, false, false, false, false, false, false, false, false, false, false, false, false, false, false, false, false, false, false, false, false, false, false, false, false, false, false, false, false, false, false, false] [24] (s1 := ⟨[I d1, .bot, .bot, .ow 24, I a2, I b7, .bot, .bot, .bot, .bot, .bot, .bot, .bot, .bot, .bot, .bot, .bot, .bot, .bot, .bot, .bot, .bot, .bot, .bot, .bot, .bot, .bot, .bot, .bot, .bot, .bot, .bot, .bot, .bot, .bot, .bot, .bot, .bot, .bot, .bot, .bot, .bot, .bot, .bot, .bot, .bot, .bot], [(24, .arr 37 3 (l3.map c37))]⟩) ?_ ?_
        · refine XL_cons rfl (X_of_Y0 rfl (E_move (I a2) rfl (by kernel_rfl))) ?_
          refine XL_cons rfl (X_of_Y0 rfl (Y0_sub64 (a := 1) (b := a2) rfl (by kernel_rfl) (by kernel_rfl))) ?_
          refine XL_cons rfl (X_of_Y0 rfl (E_assign (I (w64 (1 - a2))) rfl (by kernel_rfl))) ?_
          refine XL_nil ?_
          subst hb7
          kernel_rfl
        obtain ⟨o11, hLo11, h⟩ := of_bind h
        refine V_toK [true, false, false, true, true, false, false, false, false, false, false, false, false, false, false, false, false, false, false, false, false, false, false, false, false, false, false, false, false, false, false, false, false, false, false, false, false, false, false, false, false, false, false, false, false, false, false] [24] (s1 := ⟨[I d1, .bot, .bot, .ow 24, I a2, .bot, .bot, .bot, .bot, .bot, .bot, .bot, .bot, .bot, .bot, .bot, .bot, .bot, .bot, .bot, .bot, .bot, .bot, .bot, .bot, .bot, .bot, .bot, .bot, .bot, .bot, .bot, .bot, .bot, .bot, .bot, .bot, .bot, .bot, .bot, .bot, .bot, .bot, .bot, .bot, .bot, .bot], [(24, .arr 37 3 (o11.map c37))]⟩) ?_ ?_
        · clear h
          refine V_block (V_loop (fun n s => ∃ (b8 : Int) (l9 : List ((Int × Int × Int))), s.keep [true, false, false, true, true, true, false, false, false, false, false, false, false, false, false, false, false, false, false, false, false, false, false, false, false, false, false, false, false, false, false, false, false, false, false, false, false, false, false, false, false, false, false, false, false, false, false] [24] = (⟨[I d1, .bot, .bot, .ow 24, I a2, I b8, .bot, .bot, .bot, .bot, .bot, .bot, .bot, .bot, .bot, .bot, .bot, .bot, .bot, .bot, .bot, .bot, .bot, .bot, .bot, .bot, .bot, .bot, .bot, .bot, .bot, .bot, .bot, .bot, .bot, .bot, .bot, .bot, .bot, .bot, .bot, .bot, .bot, .bot, .bot, .bot, .bot], [(24, .arr 37 3 (l9.map c37))]⟩ : St) ∧ r_spec_reAll_L10 a2 d1 n b8 l9 = some o11) FU ⟨_, _,  by rfl, hLo11⟩ ?_)
          clear hLo11
          rintro n s ⟨b8, l9, hs, h⟩
          refine V_keep _ _ hs ?_
          clear hs
          cases n with
          | zero => cases h
          | succ n =>
            rw [r_spec_reAll_L10] at h
            refine V_seq ?_
            refine V_sreg [true, false, false, true, true, true, false, false, false, false, false, false, false, false, false, false, false, false, false, false, true, false, false, false, false, false, false, false, false, false, false, false, false, false, false, false, false, false, false, false, false, false, false, false, false, false, false] [24] (s1 := ⟨[I d1, .bot, .bot, .ow 24, I a2, I b8, .bot, .bot, .bot, .bot, .bot, .bot, .bot, .bot, .bot, .bot, .bot, .bot, .bot, .bot, Bo (leI b8 a2), .bot, .bot, .bot, .bot, .bot, .bot, .bot, .bot, .bot, .bot, .bot, .bot, .bot, .bot, .bot, .bot, .bot, .bot, .bot, .bot, .bot, .bot, .bot, .bot, .bot, .bot], [(24, .arr 37 3 (l9.map c37))]⟩) ?_ ?_
            · refine XL_cons rfl (X_of_Y0 rfl (E_move (I b8) rfl (by kernel_rfl))) ?_
              refine XL_cons rfl (X_of_Y0 rfl (E_move (I a2) rfl (by kernel_rfl))) ?_
              refine XL_cons rfl (X_of_Y0 rfl (Y0_lew (k := .i64) (a := b8) (b := a2) rfl (by kernel_rfl) (by kernel_rfl))) ?_
              refine XL_nil ?_
              kernel_rfl
            refine V_cond rfl (fun hc12 => ?_) (fun hc12 => ?_)
            · have h := of_true h hc12
              refine V_skip ?_
              show V _ _ _ _
              refine V_seq ?_
              refine V_block ?_
              obtain ⟨z13, hz13, h⟩ := of_bind h
              obtain ⟨f14, hf14, h⟩ := of_sI h
              refine V_sreg [true, false, false, true, true, true, true, false, false, false, false, false, false, false, false, false, false, false, false, false, false, false, false, false, false, false, false, false, false, false, false, false, false, false, false, false, false, false, false, false, false, false, false, false, false, false, false] [48, 24] (s1 := ⟨[I d1, .bot, .bot, .ow 24, I a2, I b8, .pt 48 0, .bot, .bot, .bot, .bot, .bot, .bot, .bot, .bot, .bot, .bot, .bot, .bot, .bot, .bot, .bot, .bot, .bot, .bot, .bot, .bot, .bot, .bot, .bot, .bot, .bot, .bot, .bot, .bot, .bot, .bot, .bot, .bot, .bot, .bot, .bot, .bot, .bot, .bot, .bot, .bot], [(48, .box [Ti a2, Ti b8, Ti f14]), (24, .arr 37 3 (l9.map c37))]⟩) ?_ ?_
              · refine XL_cons rfl (X_of_Y0 rfl (E_move (I a2) rfl (by kernel_rfl))) ?_
                refine XL_cons rfl (X_of_Y0 rfl (E_move (I b8) rfl (by kernel_rfl))) ?_
                refine XL_cons rfl (X_of_Y0 rfl (E_move (I b8) rfl (by kernel_rfl))) ?_
                refine XL_cons rfl (X_of_Y0 rfl (E_move (I b8) rfl (by kernel_rfl))) ?_
                refine XL_cons rfl (X_of_Y0 rfl (Y0_mul64 (a := b8) (b := b8) rfl (by kernel_rfl) (by kernel_rfl))) ?_
                refine XL_cons rfl (X_of_Y0 rfl (E_move (I d1) rfl (by kernel_rfl))) ?_
                refine XL_cons rfl (X_of_Y0 rfl (Y0_sub64 (a := w64 (b8 * b8)) (b := d1) rfl (by kernel_rfl) (by kernel_rfl))) ?_
                refine XL_cons rfl (X_of_Y0 rfl (E_move (I a2) rfl (by kernel_rfl))) ?_
                refine XL_cons rfl (X_of_Y0 rfl (Y0_mul64 (a := 4) (b := a2) rfl (by kernel_rfl) (by kernel_rfl))) ?_
                refine XL_cons rfl (X_of_Y0 rfl (Y0_quo64 (a := w64 ((w64 (b8 * b8)) - d1)) (b := w64 (4 * a2)) rfl (by kernel_rfl) (by kernel_rfl) (nz_some hz13))) ?_
                refine XL_cons rfl (X_of_Y0 rfl (Y0_build (cs := [Ti a2, Ti b8, Ti (w64 (Int.tdiv (w64 ((w64 (b8 * b8)) - d1)) (w64 (4 * a2))))]) pl37 bt37 rfl rfl (by kernel_rfl))) ?_
                refine XL_cons rfl (X_of_Y1 rfl (Y1_alloc (z := zv37) rfl zf37 rfl)) ?_
                refine XL_cons rfl (E_store (id := 48) (off := 0) (cs := [Ti 0, Ti 0, Ti 0]) (vc := [Ti a2, Ti b8, Ti (w64 (Int.tdiv (w64 ((w64 (b8 * b8)) - d1)) (w64 (4 * a2))))]) [Ti a2, Ti b8, Ti (w64 (Int.tdiv (w64 ((w64 (b8 * b8)) - d1)) (w64 (4 * a2))))] rfl rfl (by kernel_rfl) (by kernel_rfl) (by kernel_rfl) sz37 (Nat.le_of_ble_eq_true rfl) (by kernel_rfl)) ?_
                refine XL_nil ?_
                subst hf14
                kernel_rfl
              obtain ⟨y15, hy15, h⟩ := of_bind h
              obtain ⟨b18, hb18, h⟩ := of_bind h
              refine V_sreg [true, false, false, true, true, true, true, false, false, false, false, false, false, false, false, false, false, false, false, false, false, false, false, false, false, false, false, false, false, false, false, false, false, false, false, false, false, false, false, false, false, true, false, false, false, false, false] [48, 24] (s1 := ⟨[I d1, .bot, .bot, .ow 24, I a2, I b8, .pt 48 0, .bot, .bot, .bot, .bot, .bot, .bot, .bot, .bot, .bot, .bot, .bot, .bot, .bot, .bot, .bot, .bot, .bot, .bot, .bot, .bot, .bot, .bot, .bot, .bot, .bot, .bot, .bot, .bot, .bot, .bot, .bot, .bot, .bot, .bot, Bo b18, .bot, .bot, .bot, .bot, .bot], [(48, .box [Ti a2, Ti b8, Ti f14]), (24, .arr 37 3 (l9.map c37))]⟩) ?_ ?_
              · refine XL_cons rfl (X_of_Y0 rfl (E_loadn (cs := [Ti a2, Ti b8, Ti f14]) [Ti a2, Ti b8, Ti f14] wd37 rfl (by kernel_rfl) (Nat.le_of_ble_eq_true rfl) (by kernel_rfl))) ?_
                refine XL_cons rfl (X_of_Y1 rfl (Y1_call (s_spec_foDisc hy15) cf_spec_foDisc rfl (by kernel_rfl))) ?_
                refine XL_cons rfl (X_of_Y0 rfl (E_move (I d1) rfl (by kernel_rfl))) ?_
                refine XL_cons rfl (X_of_Y0 rfl (Y0_eqw (k := .i64) (a := y15) (b := d1) rfl (by kernel_rfl) (by kernel_rfl))) ?_
                refine XL_cons rfl (X_of_Y0 rfl (E_move (Bo (eqI y15 d1)) rfl (by kernel_rfl))) ?_
                refine XL_split (eqI y15 d1) (fun hc16 => ?_) (fun hc16 => ?_)
                · have hb18 := of_true hb18 hc16
                  obtain ⟨y17, hy17, hb18⟩ := of_bind hb18
                  have hb18 := some_inj hb18
                  refine XL_takeC (eqI y15 d1) rfl rfl (by kernel_rfl) hc16 (X_of_Y0 rfl (E_loadn (cs := [Ti a2, Ti b8, Ti f14]) [Ti a2, Ti b8, Ti f14] wd37 rfl (by kernel_rfl) (Nat.le_of_ble_eq_true rfl) (by kernel_rfl))) ?_
                  refine XL_takeC (eqI y15 d1) rfl rfl (by kernel_rfl) hc16 (X_of_Y1 rfl (Y1_call (s_spec_reIs hy17) cf_spec_reIs rfl (by kernel_rfl))) ?_
                  refine XL_cons rfl (X_of_Y0 rfl (Y0_pickTe (b := eqI y15 d1) (p := y17) rfl (by kernel_rfl) hc16 (by kernel_rfl) hb18)) ?_
                  refine XL_nil ?_
                  kernel_rfl
                · have hb18 := some_inj (of_false hb18 hc16)
                  refine XL_skipT (eqI y15 d1) rfl rfl (by kernel_rfl) hc16 rfl ?_
                  refine XL_skipT (eqI y15 d1) rfl rfl (by kernel_rfl) hc16 rfl ?_
                  refine XL_cons rfl (X_of_Y0 rfl (Y0_pickFe (b := eqI y15 d1) (p := false) rfl (by kernel_rfl) hc16 (by kernel_rfl) hb18)) ?_
                  refine XL_nil ?_
                  kernel_rfl
              refine V_cond rfl (fun hc19 => ?_) (fun hc19 => ?_)
              · have h := of_true h hc19
                obtain ⟨u20, hu20, h⟩ := of_bind h
                refine V_reg [true, false, false, true, true, true, false, false, false, false, false, false, false, false, false, false, false, false, false, false, false, false, false, false, false, false, false, false, false, false, false, false, false, false, false, false, false, false, false, false, false, false, false, false, false, false, false] [24] (s1 := ⟨[I d1, .bot, .bot, .ow 24, I a2, I b8, .bot, .bot, .bot, .bot, .bot, .bot, .bot, .bot, .bot, .bot, .bot, .bot, .bot, .bot, .bot, .bot, .bot, .bot, .bot, .bot, .bot, .bot, .bot, .bot, .bot, .bot, .bot, .bot, .bot, .bot, .bot, .bot, .bot, .bot, .bot, .bot, .bot, .bot, .bot, .bot, .bot], [(24, .arr 37 3 ((l9 ++ ([(a2, b8, f14)])).map c37))]⟩) ?_ ?_
                · refine XL_cons rfl (X_of_Y0 rfl (E_move (.ow 24) rfl (by kernel_rfl))) ?_
                  refine XL_cons rfl (X_of_Y0 rfl (E_loadn (cs := [Ti a2, Ti b8, Ti f14]) [Ti a2, Ti b8, Ti f14] wd37 rfl (by kernel_rfl) (Nat.le_of_ble_eq_true rfl) (by kernel_rfl))) ?_
                  refine XL_cons rfl (X_of_Y1 rfl (Y1_bslice (z := zv37) (els := [(a2, b8, f14)].map c37) Try.underlying31 iz37 rfl (by decide) rfl (by kernel_rfl) rfl (by simp [c37]) (by decide) (by decide))) ?_
                  refine XL_cons rfl (X_appendM (c := c37) (xs := l9) (ys := [(a2, b8, f14)]) (id := 24) (z := zv37) rfl rfl Try.underlying31 izb37 rfl (by kernel_rfl) (by kernel_rfl) (by kernel_rfl) (fun _ => rfl) (by simp) (room_some hu20) (by decide)) ?_
                  refine XL_cons rfl (X_of_Y0 rfl (E_assign (.ow 24) rfl (by kernel_rfl))) ?_
                  refine XL_nil ?_
                  kernel_rfl
                show V _ _ _ _
                obtain ⟨b21, hb21, h⟩ := of_sI h
                refine V_reg [true, false, false, true, true, true, false, false, false, false, false, false, false, false, false, false, false, false, false, false, false, false, false, false, false, false, false, false, false, false, false, false, false, false, false, false, false, false, false, false, false, false, false, false, false, false, false] [24] (s1 := ⟨[I d1, .bot, .bot, .ow 24, I a2, I b21, .bot, .bot, .bot, .bot, .bot, .bot, .bot, .bot, .bot, .bot, .bot, .bot, .bot, .bot, .bot, .bot, .bot, .bot, .bot, .bot, .bot, .bot, .bot, .bot, .bot, .bot, .bot, .bot, .bot, .bot, .bot, .bot, .bot, .bot, .bot, .bot, .bot, .bot, .bot, .bot, .bot], [(24, .arr 37 3 ((l9 ++ ([(a2, b8, f14)])).map c37))]⟩) ?_ ?_
                · refine XL_cons rfl (X_of_Y0 rfl (E_move (I b8) rfl (by kernel_rfl))) ?_
                  refine XL_cons rfl (X_of_Y0 rfl (Y0_add64 (a := b8) (b := 1) rfl (by kernel_rfl) (by kernel_rfl))) ?_
                  refine XL_cons rfl (X_of_Y0 rfl (E_assign (I (w64 (b8 + 1))) rfl (by kernel_rfl))) ?_
                  refine XL_nil ?_
                  subst hb21
                  kernel_rfl
                exact ⟨n, Nat.lt_succ_self n, _, _,  by rfl, h⟩
              · have h := of_false h hc19
                refine V_skip ?_
                show V _ _ _ _
                obtain ⟨b22, hb22, h⟩ := of_sI h
                refine V_reg [true, false, false, true, true, true, false, false, false, false, false, false, false, false, false, false, false, false, false, false, false, false, false, false, false, false, false, false, false, false, false, false, false, false, false, false, false, false, false, false, false, false, false, false, false, false, false] [24] (s1 := ⟨[I d1, .bot, .bot, .ow 24, I a2, I b22, .bot, .bot, .bot, .bot, .bot, .bot, .bot, .bot, .bot, .bot, .bot, .bot, .bot, .bot, .bot, .bot, .bot, .bot, .bot, .bot, .bot, .bot, .bot, .bot, .bot, .bot, .bot, .bot, .bot, .bot, .bot, .bot, .bot, .bot, .bot, .bot, .bot, .bot, .bot, .bot, .bot], [(24, .arr 37 3 (l9.map c37))]⟩) ?_ ?_
                · refine XL_cons rfl (X_of_Y0 rfl (E_move (I b8) rfl (by kernel_rfl))) ?_
                  refine XL_cons rfl (X_of_Y0 rfl (Y0_add64 (a := b8) (b := 1) rfl (by kernel_rfl) (by kernel_rfl))) ?_
                  refine XL_cons rfl (X_of_Y0 rfl (E_assign (I (w64 (b8 + 1))) rfl (by kernel_rfl))) ?_
                  refine XL_nil ?_
                  subst hb22
                  kernel_rfl
                exact ⟨n, Nat.lt_succ_self n, _, _,  by rfl, h⟩
            · have h := of_false h hc12
              refine V_exit ?_
              obtain rfl := some_inj h
              show St.keep _ _ _ = _
              rfl
        show V _ _ _ _
        obtain ⟨a23, ha23, h⟩ := of_sI h
        refine V_reg [true, false, false, true, true, false, false, false, false, false, false, false, false, false, false, false, false, false, false, false, false, false, false, false, false, false, false, false, false, false, false, false, false, false, false, false, false, false, false, false, false, false, false, false, false, false, false] [24] (s1 := ⟨[I d1, .bot, .bot, .ow 24, I a23, .bot, .bot, .bot, .bot, .bot, .bot, .bot, .bot, .bot, .bot, .bot, .bot, .bot, .bot, .bot, .bot, .bot, .bot, .bot, .bot, .bot, .bot, .bot, .bot, .bot, .bot, .bot, .bot, .bot, .bot, .bot, .bot, .bot, .bot, .bot, .bot, .bot, .bot, .bot, .bot, .bot, .bot], [(24, .arr 37 3 (o11.map c37))]⟩) ?_ ?_
        · refine XL_cons rfl (X_of_Y0 rfl (E_move (I a2) rfl (by kernel_rfl))) ?_
          refine XL_cons rfl (X_of_Y0 rfl (Y0_add64 (a := a2) (b := 1) rfl (by kernel_rfl) (by kernel_rfl))) ?_
          refine XL_cons rfl (X_of_Y0 rfl (E_assign (I (w64 (a2 + 1))) rfl (by kernel_rfl))) ?_
          refine XL_nil ?_
          subst ha23
          kernel_rfl
        exact ⟨n, Nat.lt_succ_self n, _, _,  by rfl, h⟩
      · have h := of_false h hc6
        refine V_exit ?_
        obtain rfl := some_inj h
        show St.keep _ _ _ = _
        rfl
  show V _ _ _ _
  refine V_sreg [false, false, true, false, false, false, false, false, false, false, false, false, false, false, false, false, false, false, false, false, false, false, false, false, false, false, false, false, false, false, false, false, false, false, false, false, false, false, false, false, false, false, false, false, false, false, false] [24] (s1 := ⟨[.bot, .bot, .ow 24, .bot, .bot, .bot, .bot, .bot, .bot, .bot, .bot, .bot, .bot, .bot, .bot, .bot, .bot, .bot, .bot, .bot, .bot, .bot, .bot, .bot, .bot, .bot, .bot, .bot, .bot, .bot, .bot, .bot, .bot, .bot, .bot, .bot, .bot, .bot, .bot, .bot, .bot, .bot, .bot, .bot, .bot, .bot, .bot], [(24, .arr 37 3 (o5.map c37))]⟩) ?_ ?_
  · refine XL_cons rfl (X_of_Y0 rfl (E_move (.ow 24) rfl (by kernel_rfl))) ?_
    refine XL_cons rfl (X_of_Y0 rfl (E_assign (.ow 24) rfl (by kernel_rfl))) ?_
    refine XL_nil ?_
    kernel_rfl
  refine V_ret ?_
  obtain rfl := some_inj h
  show Post _ _ _ _ _
  exact ⟨.inr rfl, rfl, rfl, rfl⟩
theorem cf_spec_nuGcd : ∀ args w, (callFunc 97 args).run Try.prog w = .ok (.enter 97 args) w := run_callFunc Try.func97 (by kernel_rfl) (by kernel_rfl)
set_option maxRecDepth 100000 in
set_option maxHeartbeats 400000 in
theorem s_spec_nuGcd {a1 : Int} {b2 : Int} {r : Int} (h : r_spec_nuGcd a1 b2 = some r) : CallS Try.prog 97 [I a1, I b2] (I r) [] := by
  refine CallS_of_text (rs := [.t 4]) (vs := [.tmp 4]) Try.func97 rfl rfl (.cons rfl FitsL.nil) (by decide) 16 rfl ?_
  unfold r_spec_nuGcd at h
  show V _ _ ⟨[I a1, I b2, .bot, .bot, .bot, .bot, .bot, .bot, .bot, .bot, .bot, .bot, .bot, .bot, .bot, .bot], []⟩ _
  refine V_sreg [true, true, false, false, false, false, false, false, false, false, false, false, false, false, false, false] [] (s1 := ⟨[I a1, I b2, .bot, .bot, .bot, .bot, .bot, .bot, .bot, .bot, .bot, .bot, .bot, .bot, .bot, .bot], []⟩) ?_ ?_
  · refine XL_cons rfl (X_of_Y0 rfl (E_assign (I 0) rfl (by kernel_rfl))) ?_
    refine XL_nil ?_
    kernel_rfl
  obtain ⟨y3, hy3, h⟩ := of_bind h
  obtain ⟨y4, hy4, h⟩ := of_bind h
  refine V_sreg [true, true, false, false, false, false, false, false, false, false, false, false, false, false, false, false] [] (s1 := ⟨[I y3, I y4, .bot, .bot, .bot, .bot, .bot, .bot, .bot, .bot, .bot, .bot, .bot, .bot, .bot, .bot], []⟩) ?_ ?_
  · refine XL_cons rfl (X_of_Y0 rfl (E_move (I a1) rfl (by kernel_rfl))) ?_
    refine XL_cons rfl (X_of_Y1 rfl (Y1_call (s_spec_l1Abs hy3) cf_spec_l1Abs rfl (by kernel_rfl))) ?_
    refine XL_cons rfl (X_of_Y0 rfl (E_move (I b2) rfl (by kernel_rfl))) ?_
    refine XL_cons rfl (X_of_Y1 rfl (Y1_call (s_spec_l1Abs hy4) cf_spec_l1Abs rfl (by kernel_rfl))) ?_
    refine XL_cons rfl (X_of_Y0 rfl (E_assign (I y3) rfl (by kernel_rfl))) ?_
    refine XL_cons rfl (X_of_Y0 rfl (E_assign (I y4) rfl (by kernel_rfl))) ?_
    refine XL_nil ?_
    kernel_rfl
  refine V_seq ?_
  obtain ⟨o8, hLo8, h⟩ := of_bind h
  refine V_toK [true, false, false, false, false, false, false, false, false, false, false, false, false, false, false, false] [] (s1 := ⟨[I o8, .bot, .bot, .bot, .bot, .bot, .bot, .bot, .bot, .bot, .bot, .bot, .bot, .bot, .bot, .bot], []⟩) ?_ ?_
  · clear h
    refine V_block (V_loop (fun n s => ∃ (a5 : Int) (b6 : Int), s.keep [true, true, false, false, false, false, false, false, false, false, false, false, false, false, false, false] [] = (⟨[I a5, I b6, .bot, .bot, .bot, .bot, .bot, .bot, .bot, .bot, .bot, .bot, .bot, .bot, .bot, .bot], []⟩ : St) ∧ r_spec_nuGcd_L7 n a5 b6 = some o8) FU ⟨_, _,  by rfl, hLo8⟩ ?_)
    clear hLo8
    rintro n s ⟨a5, b6, hs, h⟩
    refine V_keep _ _ hs ?_
    clear hs
    cases n with
    | zero => cases h
    | succ n =>
      rw [r_spec_nuGcd_L7] at h
      refine V_seq ?_
      refine V_sreg [true, true, false, false, false, false, false, false, false, false, true, false, false, false, false, false] [] (s1 := ⟨[I a5, I b6, .bot, .bot, .bot, .bot, .bot, .bot, .bot, .bot, Bo (!eqI b6 0), .bot, .bot, .bot, .bot, .bot], []⟩) ?_ ?_
      · refine XL_cons rfl (X_of_Y0 rfl (E_move (I b6) rfl (by kernel_rfl))) ?_
        refine XL_cons rfl (X_of_Y0 rfl (Y0_new (k := .i64) (a := b6) (b := 0) rfl (by kernel_rfl) (by kernel_rfl))) ?_
        refine XL_nil ?_
        kernel_rfl
      refine V_cond rfl (fun hc9 => ?_) (fun hc9 => ?_)
      · have h := of_true h hc9
        refine V_skip ?_
        show V _ _ _ _
        refine V_block ?_
        obtain ⟨z10, hz10, h⟩ := of_bind h
        obtain ⟨b11, hb11, h⟩ := of_sI h
        refine V_dreg [0, 0, 0, 6, 3, 31] 6 [[.z, .b, .b, .b, .z, .z], [.b, .z, .b, .z, .z, .z], [.b, .b, .z, .z, .b, .z], [.b, .a, .a, .z, .b, .z], [.a, .a, .b, .b, .z, .z], [.a, .a, .a, .a, .a, .z]] [true, true, false, false, false, false, false, false, false, false, false, false, false, false, false, false] [] (s1 := ⟨[I b6, I b11, .bot, .bot, .bot, .bot, .bot, .bot, .bot, .bot, .bot, .bot, .bot, .bot, .bot, .bot], []⟩) (by kernel_rfl) (by kernel_rfl) ?_ ?_
        · refine DE_0 0 (I b6) (by kernel_rfl) rfl rfl rfl (gsat_none rfl) (by kernel_rfl) (E_move (I b6) rfl (by kernel_rfl)) 11 rfl ?_
          refine DE_0 1 (I a5) (by kernel_rfl) rfl rfl rfl (gsat_none rfl) (by kernel_rfl) (E_move (I a5) rfl (by kernel_rfl)) 12 rfl ?_
          refine DE_0 2 (I b6) (by kernel_rfl) rfl rfl rfl (gsat_none rfl) (by kernel_rfl) (E_move (I b6) rfl (by kernel_rfl)) 13 rfl ?_
          refine DE_0 3 (I (Int.tmod a5 b6)) (by kernel_rfl) rfl rfl rfl (gsat_none rfl) (by kernel_rfl) (Y0_rem (k := .i64) (a := a5) (b := b6) rfl (by kernel_rfl) (by kernel_rfl) (nz_some hz10)) 14 rfl ?_
          refine DE_0 4 (I b6) (by kernel_rfl) rfl rfl rfl (gsat_none rfl) (by kernel_rfl) (E_assign (I b6) rfl (by kernel_rfl)) 0 rfl ?_
          refine DE_0 5 (I (Int.tmod a5 b6)) (by kernel_rfl) rfl rfl rfl (gsat_none rfl) (by kernel_rfl) (E_assign (I (Int.tmod a5 b6)) rfl (by kernel_rfl)) 1 rfl ?_
          refine DL_nil (by kernel_rfl) ?_
          refine XL_nil ?_
          subst hb11
          kernel_rfl
        exact ⟨n, Nat.lt_succ_self n, _, _,  by rfl, h⟩
      · have h := of_false h hc9
        refine V_exit ?_
        obtain rfl := some_inj h
        show St.keep _ _ _ = _
        rfl
  show V _ _ _ _
  refine V_sreg [false, false, false, false, true, false, false, false, false, false, false, false, false, false, false, false] [] (s1 := ⟨[.bot, .bot, .bot, .bot, I o8, .bot, .bot, .bot, .bot, .bot, .bot, .bot, .bot, .bot, .bot, .bot], []⟩) ?_ ?_
  · refine XL_cons rfl (X_of_Y0 rfl (E_move (I o8) rfl (by kernel_rfl))) ?_
    refine XL_cons rfl (X_of_Y0 rfl (E_assign (I o8) rfl (by kernel_rfl))) ?_
    refine XL_nil ?_
    kernel_rfl
  refine V_ret ?_
  obtain rfl := some_inj h
  show Post _ _ _ _ _
  exact ⟨.inr rfl, rfl, rfl, rfl⟩
theorem cf_spec_foContent : ∀ args w, (callFunc 82 args).run Try.prog w = .ok (.enter 82 args) w := run_callFunc Try.func82 (by kernel_rfl) (by kernel_rfl)
set_option maxRecDepth 100000 in
set_option maxHeartbeats 400000 in
theorem s_spec_foContent {f1 : (Int × Int × Int)} {r : Int} (h : r_spec_foContent f1 = some r) : CallS Try.prog 82 [.ag [Ti f1.1, Ti f1.2.1, Ti f1.2.2]] (I r) [] := by
  refine CallS_of_text (rs := [.t 2]) (vs := [.tmp 2]) Try.func82 rfl rfl (.cons rfl FitsL.nil) (by decide) 11 rfl ?_
  unfold r_spec_foContent at h
  show V _ _ ⟨[.ag [Ti f1.1, Ti f1.2.1, Ti f1.2.2], .bot, .bot, .bot, .bot, .bot, .bot, .bot, .bot, .bot, .bot], []⟩ _
  refine V_sreg [false, true, false, false, false, false, false, false, false, false, false] [8] (s1 := ⟨[.bot, .pt 8 0, .bot, .bot, .bot, .bot, .bot, .bot, .bot, .bot, .bot], [(8, .box [Ti f1.1, Ti f1.2.1, Ti f1.2.2])]⟩) ?_ ?_
  · refine XL_cons rfl (X_of_Y1 rfl (Y1_box (cs := [Ti f1.1, Ti f1.2.1, Ti f1.2.2]) rfl (by kernel_rfl))) ?_
    refine XL_cons rfl (X_of_Y0 rfl (E_assign (I 0) rfl (by kernel_rfl))) ?_
    refine XL_nil ?_
    kernel_rfl
  obtain ⟨y2, hy2, h⟩ := of_bind h
  obtain ⟨y3, hy3, h⟩ := of_bind h
  refine V_sdreg [0, 1, 0, 4, 15, 0, 32, 127, 255] 9 [[.z, .z, .b, .b, .z, .b, .b, .z, .z], [.a, .z, .b, .b, .z, .b, .b, .z, .z], [.b, .b, .z, .z, .z, .b, .b, .z, .z], [.b, .b, .a, .z, .z, .b, .b, .z, .z], [.a, .a, .a, .a, .z, .b, .b, .z, .z], [.b, .b, .b, .b, .b, .z, .z, .z, .z], [.b, .b, .b, .b, .b, .a, .z, .z, .z], [.a, .a, .a, .a, .a, .a, .a, .z, .z], [.a, .a, .a, .a, .a, .a, .a, .a, .z]] [false, false, true, false, false, false, false, false, false, false, false] [] (s1 := ⟨[.bot, .bot, I y3, .bot, .bot, .bot, .bot, .bot, .bot, .bot, .bot], []⟩) (by kernel_rfl) (by kernel_rfl) ?_ ?_
  · refine DE_0 0 (.pt 8 0) (by kernel_rfl) rfl rfl rfl (gsat_none rfl) (by kernel_rfl) (E_field (.pt 8 0) Try.underlying37 rfl sz3 rfl (by kernel_rfl) (by intro hh; cases hh)) 3 rfl ?_
    refine DE_0 1 (I f1.1) (by kernel_rfl) rfl rfl rfl (gsat_none rfl) (by kernel_rfl) (Y0_load1 (c := Ti f1.1) (cs := [Ti f1.2.1, Ti f1.2.2]) sc3 rfl (by kernel_rfl)) 4 rfl ?_
    refine DE_0 2 (.pt 8 1) (by kernel_rfl) rfl rfl rfl (gsat_none rfl) (by kernel_rfl) (E_field (.pt 8 1) Try.underlying37 rfl sz3 rfl (by kernel_rfl) (by intro hh; cases hh)) 5 rfl ?_
    refine DE_0 3 (I f1.2.1) (by kernel_rfl) rfl rfl rfl (gsat_none rfl) (by kernel_rfl) (Y0_load1 (c := Ti f1.2.1) (cs := [Ti f1.2.2]) sc3 rfl (by kernel_rfl)) 6 rfl ?_
    refine DE_1 4 (by kernel_rfl) rfl rfl rfl (gsat_none rfl) (Y1_call (s_spec_nuGcd hy2) cf_spec_nuGcd rfl (by kernel_rfl)) rfl rfl rfl 7 rfl ?_
    refine DE_0 5 (.pt 8 2) (by kernel_rfl) rfl rfl rfl (gsat_none rfl) (by kernel_rfl) (E_field (.pt 8 2) Try.underlying37 rfl sz3 rfl (by kernel_rfl) (by intro hh; cases hh)) 8 rfl ?_
    refine DE_0 6 (I f1.2.2) (by kernel_rfl) rfl rfl rfl (gsat_none rfl) (by kernel_rfl) (Y0_load1 (c := Ti f1.2.2) (cs := []) sc3 rfl (by kernel_rfl)) 9 rfl ?_
    refine DE_1 7 (by kernel_rfl) rfl rfl rfl (gsat_none rfl) (Y1_call (s_spec_nuGcd hy3) cf_spec_nuGcd rfl (by kernel_rfl)) rfl rfl rfl 10 rfl ?_
    refine DE_0 8 (I y3) (by kernel_rfl) rfl rfl rfl (gsat_none rfl) (by kernel_rfl) (E_assign (I y3) rfl (by kernel_rfl)) 2 rfl ?_
    refine DL_nil (by kernel_rfl) ?_
    refine XL_nil ?_
    kernel_rfl
  refine V_ret ?_
  obtain rfl := some_inj h
  show Post _ _ _ _ _
  exact ⟨.inr rfl, rfl, rfl, rfl⟩
theorem cf_spec_reList : ∀ args w, (callFunc 74 args).run Try.prog w = .ok (.enter 74 args) w := run_callFunc Try.func74 (by kernel_rfl) (by kernel_rfl)
set_option maxRecDepth 100000 in
set_option maxHeartbeats 400000 in
theorem s_spec_reList {d1 : Int} {r : List ((Int × Int × Int))} (h : r_spec_reList d1 = some r) : CallS Try.prog 74 [I d1] (.ow 0) [(0, .arr 37 3 (r.map c37))] := by
  refine CallS_of_text (rs := [.t 2]) (vs := [.tmp 2]) Try.func74 rfl rfl (.cons rfl FitsL.nil) (by decide) 22 rfl ?_
  unfold r_spec_reList at h
  show V _ _ ⟨[I d1, .bot, .bot, .bot, .bot, .bot, .bot, .bot, .bot, .bot, .bot, .bot, .bot, .bot, .bot, .bot, .bot, .bot, .bot, .bot, .bot, .bot], []⟩ _
  refine V_sreg [true, false, false, false, false, false, false, false, false, false, false, false, false, false, false, false, false, false, false, false, false, false] [] (s1 := ⟨[I d1, .bot, .bot, .bot, .bot, .bot, .bot, .bot, .bot, .bot, .bot, .bot, .bot, .bot, .bot, .bot, .bot, .bot, .bot, .bot, .bot, .bot], []⟩) ?_ ?_
  · refine XL_cons rfl (X_of_Y1 rfl (Y1_nil (e := 37) 3 (by decide) (.inl rfl))) ?_
    refine XL_nil ?_
    kernel_rfl
  refine V_sreg [true, false, false, true, false, false, false, false, false, false, false, false, false, false, false, false, false, false, false, false, false, false] [24] (s1 := ⟨[I d1, .bot, .bot, .ow 24, .bot, .bot, .bot, .bot, .bot, .bot, .bot, .bot, .bot, .bot, .bot, .bot, .bot, .bot, .bot, .bot, .bot, .bot], [(24, .arr 37 3 ((([] : List ((Int × Int × Int)))).map c37))]⟩) ?_ ?_
  · refine XL_cons rfl (X_of_Y1 rfl (Y1_nil (e := 37) 3 (by decide) (.inl rfl))) ?_
    refine XL_nil ?_
    kernel_rfl
  refine V_seq ?_
  obtain ⟨y2, hy2, h⟩ := of_bind h
  refine V_sreg [false, false, false, true, false, false, false, true, true, true, false, false, false, false, false, false, false, false, false, false, false, false] [56, 24] (s1 := ⟨[.bot, .bot, .bot, .ow 24, .bot, .bot, .bot, .ow 56, I ((y2.length : Int)), I 0, .bot, .bot, .bot, .bot, .bot, .bot, .bot, .bot, .bot, .bot, .bot, .bot], [(56, .arr 37 3 (y2.map c37)), (24, .arr 37 3 ((([] : List ((Int × Int × Int)))).map c37))]⟩) ?_ ?_
  · refine XL_cons rfl (X_of_Y0 rfl (E_move (I d1) rfl (by kernel_rfl))) ?_
    refine XL_cons rfl (X_of_Y1 rfl (Y1_call (s_spec_reAll hy2) cf_spec_reAll rfl (by kernel_rfl))) ?_
    refine XL_cons rfl (X_of_Y0 rfl (Y0_lenM (c := c37) (xs := y2) Try.underlying31 rfl (by kernel_rfl))) ?_
    refine XL_cons rfl (X_of_Y0 rfl (E_move (I 0) rfl (by kernel_rfl))) ?_
    refine XL_nil ?_
    kernel_rfl
  obtain ⟨o6, hLo6, h⟩ := of_bind h
  refine V_toK [false, false, false, true, false, false, false, false, false, false, false, false, false, false, false, false, false, false, false, false, false, false] [24] (s1 := ⟨[.bot, .bot, .bot, .ow 24, .bot, .bot, .bot, .bot, .bot, .bot, .bot, .bot, .bot, .bot, .bot, .bot, .bot, .bot, .bot, .bot, .bot, .bot], [(24, .arr 37 3 (o6.map c37))]⟩) ?_ ?_
  · clear h
    refine V_block (V_loop (fun n s => ∃ (t3 : Int) (l4 : List ((Int × Int × Int))), s.keep [false, false, false, true, false, false, false, true, true, true, false, false, false, false, false, false, false, false, false, false, false, false] [56, 24] = (⟨[.bot, .bot, .bot, .ow 24, .bot, .bot, .bot, .ow 56, I ((y2.length : Int)), I t3, .bot, .bot, .bot, .bot, .bot, .bot, .bot, .bot, .bot, .bot, .bot, .bot], [(56, .arr 37 3 (y2.map c37)), (24, .arr 37 3 (l4.map c37))]⟩ : St) ∧ r_spec_reList_L5 y2 n t3 l4 = some o6) FU ⟨_, _,  by rfl, hLo6⟩ ?_)
    clear hLo6
    rintro n s ⟨t3, l4, hs, h⟩
    refine V_keep _ _ hs ?_
    clear hs
    cases n with
    | zero => cases h
    | succ n =>
      rw [r_spec_reList_L5] at h
      refine V_sreg [false, false, false, true, false, false, false, true, true, true, true, false, false, false, false, false, false, false, false, false, false, false] [56, 24] (s1 := ⟨[.bot, .bot, .bot, .ow 24, .bot, .bot, .bot, .ow 56, I ((y2.length : Int)), I t3, Bo (ltI t3 ((y2.length : Int))), .bot, .bot, .bot, .bot, .bot, .bot, .bot, .bot, .bot, .bot, .bot], [(56, .arr 37 3 (y2.map c37)), (24, .arr 37 3 (l4.map c37))]⟩) ?_ ?_
      · refine XL_cons rfl (X_of_Y0 rfl (Y0_ltw (k := .i64) (a := t3) (b := (y2.length : Int)) rfl (by kernel_rfl) (by kernel_rfl))) ?_
        refine XL_nil ?_
        kernel_rfl
      refine V_seq ?_
      refine V_cond rfl (fun hc7 => ?_) (fun hc7 => ?_)
      · have h := of_true h hc7
        refine V_skip ?_
        show V _ _ _ _
        refine V_seq ?_
        refine V_block ?_
        obtain ⟨e8, he8, h⟩ := of_bind h
        obtain ⟨e9, he9, h⟩ := of_bind h
        refine V_sreg [false, false, false, true, false, true, false, true, true, true, false, false, false, false, false, false, false, false, false, false, false, false] [40, 56, 24] (s1 := ⟨[.bot, .bot, .bot, .ow 24, .bot, .pt 40 0, .bot, .ow 56, I ((y2.length : Int)), I t3, .bot, .bot, .bot, .bot, .bot, .bot, .bot, .bot, .bot, .bot, .bot, .bot], [(40, .box [Ti e9.1, Ti e9.2.1, Ti e9.2.2]), (56, .arr 37 3 (y2.map c37)), (24, .arr 37 3 (l4.map c37))]⟩) ?_ ?_
        · refine XL_cons rfl (X_of_Y0 rfl (Y0_idxoM (c := c37) (xs := y2) (v := e8) (id := 56) (T := 37) (sz := 3) (n := t3) Try.underlying31 sz37 rfl (by kernel_rfl) (by kernel_rfl) (by kernel_rfl) he8)) ?_
          refine XL_cons rfl (X_of_Y0 rfl (E_loadon (c := c37) (xs := y2) (v := e9) (id := 56) (sz := 3) (T := 37) (off := 0) (n := t3) [Ti e9.1, Ti e9.2.1, Ti e9.2.2] wd37 rfl (by kernel_rfl) (by kernel_rfl) he9 (Nat.le_of_ble_eq_true rfl) (by kernel_rfl))) ?_
          refine XL_cons rfl (X_of_Y1 rfl (Y1_alloc (z := zv37) rfl zf37 rfl)) ?_
          refine XL_cons rfl (E_store (id := 40) (off := 0) (cs := [Ti 0, Ti 0, Ti 0]) (vc := [Ti e9.1, Ti e9.2.1, Ti e9.2.2]) [Ti e9.1, Ti e9.2.1, Ti e9.2.2] rfl rfl (by kernel_rfl) (by kernel_rfl) (by kernel_rfl) sz37 (Nat.le_of_ble_eq_true rfl) (by kernel_rfl)) ?_
          refine XL_nil ?_
          kernel_rfl
        obtain ⟨y10, hy10, h⟩ := of_bind h
        refine V_sreg [false, false, false, true, false, true, false, true, true, true, false, false, false, false, false, true, false, false, false, false, false, false] [40, 56, 24] (s1 := ⟨[.bot, .bot, .bot, .ow 24, .bot, .pt 40 0, .bot, .ow 56, I ((y2.length : Int)), I t3, .bot, .bot, .bot, .bot, .bot, Bo (eqI y10 1), .bot, .bot, .bot, .bot, .bot, .bot], [(40, .box [Ti e9.1, Ti e9.2.1, Ti e9.2.2]), (56, .arr 37 3 (y2.map c37)), (24, .arr 37 3 (l4.map c37))]⟩) ?_ ?_
        · refine XL_cons rfl (X_of_Y0 rfl (E_loadn (cs := [Ti e9.1, Ti e9.2.1, Ti e9.2.2]) [Ti e9.1, Ti e9.2.1, Ti e9.2.2] wd37 rfl (by kernel_rfl) (Nat.le_of_ble_eq_true rfl) (by kernel_rfl))) ?_
          refine XL_cons rfl (X_of_Y1 rfl (Y1_call (s_spec_foContent hy10) cf_spec_foContent rfl (by kernel_rfl))) ?_
          refine XL_cons rfl (X_of_Y0 rfl (Y0_eqw (k := .i64) (a := y10) (b := 1) rfl (by kernel_rfl) (by kernel_rfl))) ?_
          refine XL_nil ?_
          kernel_rfl
        refine V_cond rfl (fun hc11 => ?_) (fun hc11 => ?_)
        · have h := of_true h hc11
          obtain ⟨u12, hu12, h⟩ := of_bind h
          refine V_reg [false, false, false, true, false, false, false, true, true, true, false, false, false, false, false, false, false, false, false, false, false, false] [56, 24] (s1 := ⟨[.bot, .bot, .bot, .ow 24, .bot, .bot, .bot, .ow 56, I ((y2.length : Int)), I t3, .bot, .bot, .bot, .bot, .bot, .bot, .bot, .bot, .bot, .bot, .bot, .bot], [(56, .arr 37 3 (y2.map c37)), (24, .arr 37 3 ((l4 ++ ([e9])).map c37))]⟩) ?_ ?_
          · refine XL_cons rfl (X_of_Y0 rfl (E_move (.ow 24) rfl (by kernel_rfl))) ?_
            refine XL_cons rfl (X_of_Y0 rfl (E_loadn (cs := [Ti e9.1, Ti e9.2.1, Ti e9.2.2]) [Ti e9.1, Ti e9.2.1, Ti e9.2.2] wd37 rfl (by kernel_rfl) (Nat.le_of_ble_eq_true rfl) (by kernel_rfl))) ?_
            refine XL_cons rfl (X_of_Y1 rfl (Y1_bslice (z := zv37) (els := [e9].map c37) Try.underlying31 iz37 rfl (by decide) rfl (by kernel_rfl) rfl (by simp [c37]) (by decide) (by decide))) ?_
            refine XL_cons rfl (X_appendM (c := c37) (xs := l4) (ys := [e9]) (id := 24) (z := zv37) rfl rfl Try.underlying31 izb37 rfl (by kernel_rfl) (by kernel_rfl) (by kernel_rfl) (fun _ => rfl) (by simp) (room_some hu12) (by decide)) ?_
            refine XL_cons rfl (X_of_Y0 rfl (E_assign (.ow 24) rfl (by kernel_rfl))) ?_
            refine XL_nil ?_
            kernel_rfl
          show V _ _ _ _
          obtain ⟨t13, ht13, h⟩ := of_sI h
          refine V_reg [false, false, false, true, false, false, false, true, true, true, false, false, false, false, false, false, false, false, false, false, false, false] [56, 24] (s1 := ⟨[.bot, .bot, .bot, .ow 24, .bot, .bot, .bot, .ow 56, I ((y2.length : Int)), I t13, .bot, .bot, .bot, .bot, .bot, .bot, .bot, .bot, .bot, .bot, .bot, .bot], [(56, .arr 37 3 (y2.map c37)), (24, .arr 37 3 ((l4 ++ ([e9])).map c37))]⟩) ?_ ?_
          · refine XL_cons rfl (X_of_Y0 rfl (Y0_add64 (a := t3) (b := 1) rfl (by kernel_rfl) (by kernel_rfl))) ?_
            refine XL_cons rfl (X_of_Y0 rfl (E_move (I (w64 (t3 + 1))) rfl (by kernel_rfl))) ?_
            refine XL_nil ?_
            subst ht13
            kernel_rfl
          exact ⟨n, Nat.lt_succ_self n, _, _,  by rfl, h⟩
        · have h := of_false h hc11
          refine V_skip ?_
          show V _ _ _ _
          obtain ⟨t14, ht14, h⟩ := of_sI h
          refine V_reg [false, false, false, true, false, false, false, true, true, true, false, false, false, false, false, false, false, false, false, false, false, false] [56, 24] (s1 := ⟨[.bot, .bot, .bot, .ow 24, .bot, .bot, .bot, .ow 56, I ((y2.length : Int)), I t14, .bot, .bot, .bot, .bot, .bot, .bot, .bot, .bot, .bot, .bot, .bot, .bot], [(56, .arr 37 3 (y2.map c37)), (24, .arr 37 3 (l4.map c37))]⟩) ?_ ?_
          · refine XL_cons rfl (X_of_Y0 rfl (Y0_add64 (a := t3) (b := 1) rfl (by kernel_rfl) (by kernel_rfl))) ?_
            refine XL_cons rfl (X_of_Y0 rfl (E_move (I (w64 (t3 + 1))) rfl (by kernel_rfl))) ?_
            refine XL_nil ?_
            subst ht14
            kernel_rfl
          exact ⟨n, Nat.lt_succ_self n, _, _,  by rfl, h⟩
      · have h := of_false h hc7
        refine V_exit ?_
        obtain rfl := some_inj h
        show St.keep _ _ _ = _
        rfl
  show V _ _ _ _
  refine V_sreg [false, false, true, false, false, false, false, false, false, false, false, false, false, false, false, false, false, false, false, false, false, false] [24] (s1 := ⟨[.bot, .bot, .ow 24, .bot, .bot, .bot, .bot, .bot, .bot, .bot, .bot, .bot, .bot, .bot, .bot, .bot, .bot, .bot, .bot, .bot, .bot, .bot], [(24, .arr 37 3 (o6.map c37))]⟩) ?_ ?_
  · refine XL_cons rfl (X_of_Y0 rfl (E_move (.ow 24) rfl (by kernel_rfl))) ?_
    refine XL_cons rfl (X_of_Y0 rfl (E_assign (.ow 24) rfl (by kernel_rfl))) ?_
    refine XL_nil ?_
    kernel_rfl
  refine V_ret ?_
  obtain rfl := some_inj h
  show Post _ _ _ _ _
  exact ⟨.inr rfl, rfl, rfl, rfl⟩
theorem cf_spec_nuFactors : ∀ args w, (callFunc 159 args).run Try.prog w = .ok (.enter 159 args) w := run_callFunc Try.func159 (by kernel_rfl) (by kernel_rfl)
set_option maxRecDepth 100000 in
set_option maxHeartbeats 400000 in
theorem s_spec_nuFactors {vn1 : Int} {r : List Int} (h : r_spec_nuFactors vn1 = some r) : CallS Try.prog 159 [I vn1] (.ow 0) [(0, .arr 3 1 (r.map c3))] := by
  refine CallS_of_text (rs := [.t 2]) (vs := [.tmp 2]) Try.func159 rfl rfl (.cons rfl FitsL.nil) (by decide) 30 rfl ?_
  unfold r_spec_nuFactors at h
  show V _ _ ⟨[I vn1, .bot, .bot, .bot, .bot, .bot, .bot, .bot, .bot, .bot, .bot, .bot, .bot, .bot, .bot, .bot, .bot, .bot, .bot, .bot, .bot, .bot, .bot, .bot, .bot, .bot, .bot, .bot, .bot, .bot], []⟩ _
  refine V_sreg [true, false, false, false, false, false, false, false, false, false, false, false, false, false, false, false, false, false, false, false, false, false, false, false, false, false, false, false, false, false] [] (s1 := ⟨[I vn1, .bot, .bot, .bot, .bot, .bot, .bot, .bot, .bot, .bot, .bot, .bot, .bot, .bot, .bot, .bot, .bot, .bot, .bot, .bot, .bot, .bot, .bot, .bot, .bot, .bot, .bot, .bot, .bot, .bot], []⟩) ?_ ?_
  · refine XL_cons rfl (X_of_Y1 rfl (Y1_nil (e := 3) 1 (by decide) (.inl rfl))) ?_
    refine XL_nil ?_
    kernel_rfl
  refine V_sreg [true, false, false, true, false, false, false, false, false, false, false, false, false, false, false, false, false, false, false, false, false, false, false, false, false, false, false, false, false, false] [24] (s1 := ⟨[I vn1, .bot, .bot, .ow 24, .bot, .bot, .bot, .bot, .bot, .bot, .bot, .bot, .bot, .bot, .bot, .bot, .bot, .bot, .bot, .bot, .bot, .bot, .bot, .bot, .bot, .bot, .bot, .bot, .bot, .bot], [(24, .arr 3 1 ((([] : List Int)).map c3))]⟩) ?_ ?_
  · refine XL_cons rfl (X_of_Y1 rfl (Y1_nil (e := 3) 1 (by decide) (.inl rfl))) ?_
    refine XL_nil ?_
    kernel_rfl
  refine V_seq ?_
  refine V_sreg [true, false, false, true, true, false, false, false, false, false, false, false, false, false, false, false, false, false, false, false, false, false, false, false, false, false, false, false, false, false] [24] (s1 := ⟨[I vn1, .bot, .bot, .ow 24, I 2, .bot, .bot, .bot, .bot, .bot, .bot, .bot, .bot, .bot, .bot, .bot, .bot, .bot, .bot, .bot, .bot, .bot, .bot, .bot, .bot, .bot, .bot, .bot, .bot, .bot], [(24, .arr 3 1 ((([] : List Int)).map c3))]⟩) ?_ ?_
  · refine XL_cons rfl (X_of_Y0 rfl (E_assign (I 2) rfl (by kernel_rfl))) ?_
    refine XL_nil ?_
    kernel_rfl
  obtain ⟨o6, hLo6, h⟩ := of_bind h
  refine V_toK [true, false, false, true, false, false, false, false, false, false, false, false, false, false, false, false, false, false, false, false, false, false, false, false, false, false, false, false, false, false] [24] (s1 := ⟨[I o6.1, .bot, .bot, .ow 24, .bot, .bot, .bot, .bot, .bot, .bot, .bot, .bot, .bot, .bot, .bot, .bot, .bot, .bot, .bot, .bot, .bot, .bot, .bot, .bot, .bot, .bot, .bot, .bot, .bot, .bot], [(24, .arr 3 1 (o6.2.map c3))]⟩) ?_ ?_
  · clear h
    refine V_block (V_loop (fun n s => ∃ (vn2 : Int) (d3 : Int) (l4 : List Int), s.keep [true, false, false, true, true, false, false, false, false, false, false, false, false, false, false, false, false, false, false, false, false, false, false, false, false, false, false, false, false, false] [24] = (⟨[I vn2, .bot, .bot, .ow 24, I d3, .bot, .bot, .bot, .bot, .bot, .bot, .bot, .bot, .bot, .bot, .bot, .bot, .bot, .bot, .bot, .bot, .bot, .bot, .bot, .bot, .bot, .bot, .bot, .bot, .bot], [(24, .arr 3 1 (l4.map c3))]⟩ : St) ∧ r_spec_nuFactors_L5 n vn2 d3 l4 = some o6) FU ⟨_, _, _,  by rfl, hLo6⟩ ?_)
    clear hLo6
    rintro n s ⟨vn2, d3, l4, hs, h⟩
    refine V_keep _ _ hs ?_
    clear hs
    cases n with
    | zero => cases h
    | succ n =>
      rw [r_spec_nuFactors_L5] at h
      refine V_seq ?_
      refine V_sreg [true, false, false, true, true, false, false, false, false, true, false, false, false, false, false, false, false, false, false, false, false, false, false, false, false, false, false, false, false, false] [24] (s1 := ⟨[I vn2, .bot, .bot, .ow 24, I d3, .bot, .bot, .bot, .bot, Bo (leI (w64 (d3 * d3)) vn2), .bot, .bot, .bot, .bot, .bot, .bot, .bot, .bot, .bot, .bot, .bot, .bot, .bot, .bot, .bot, .bot, .bot, .bot, .bot, .bot], [(24, .arr 3 1 (l4.map c3))]⟩) ?_ ?_
      · refine XL_cons rfl (X_of_Y0 rfl (E_move (I d3) rfl (by kernel_rfl))) ?_
        refine XL_cons rfl (X_of_Y0 rfl (E_move (I d3) rfl (by kernel_rfl))) ?_
        refine XL_cons rfl (X_of_Y0 rfl (Y0_mul64 (a := d3) (b := d3) rfl (by kernel_rfl) (by kernel_rfl))) ?_
        refine XL_cons rfl (X_of_Y0 rfl (E_move (I vn2) rfl (by kernel_rfl))) ?_
        refine XL_cons rfl (X_of_Y0 rfl (Y0_lew (k := .i64) (a := w64 (d3 * d3)) (b := vn2) rfl (by kernel_rfl) (by kernel_rfl))) ?_
        refine XL_nil ?_
        kernel_rfl
      refine V_cond rfl (fun hc7 => ?_) (fun hc7 => ?_)
      · have h := of_true h hc7
        refine V_skip ?_
        show V _ _ _ _
        refine V_seq ?_
        refine V_block ?_
        obtain ⟨o11, hLo11, h⟩ := of_bind h
        refine V_toK [true, false, false, true, true, false, false, false, false, false, false, false, false, false, false, false, false, false, false, false, false, false, false, false, false, false, false, false, false, false] [24] (s1 := ⟨[I o11.1, .bot, .bot, .ow 24, I d3, .bot, .bot, .bot, .bot, .bot, .bot, .bot, .bot, .bot, .bot, .bot, .bot, .bot, .bot, .bot, .bot, .bot, .bot, .bot, .bot, .bot, .bot, .bot, .bot, .bot], [(24, .arr 3 1 (o11.2.map c3))]⟩) ?_ ?_
        · clear h
          refine V_block (V_loop (fun n s => ∃ (vn8 : Int) (l9 : List Int), s.keep [true, false, false, true, true, false, false, false, false, false, false, false, false, false, false, false, false, false, false, false, false, false, false, false, false, false, false, false, false, false] [24] = (⟨[I vn8, .bot, .bot, .ow 24, I d3, .bot, .bot, .bot, .bot, .bot, .bot, .bot, .bot, .bot, .bot, .bot, .bot, .bot, .bot, .bot, .bot, .bot, .bot, .bot, .bot, .bot, .bot, .bot, .bot, .bot], [(24, .arr 3 1 (l9.map c3))]⟩ : St) ∧ r_spec_nuFactors_L10 d3 n vn8 l9 = some o11) FU ⟨_, _,  by rfl, hLo11⟩ ?_)
          clear hLo11
          rintro n s ⟨vn8, l9, hs, h⟩
          refine V_keep _ _ hs ?_
          clear hs
          cases n with
          | zero => cases h
          | succ n =>
            rw [r_spec_nuFactors_L10] at h
            refine V_seq ?_
            obtain ⟨z12, hz12, h⟩ := of_bind h
            refine V_sreg [true, false, false, true, true, false, false, false, false, false, false, false, false, false, false, true, false, false, false, false, false, false, false, false, false, false, false, false, false, false] [24] (s1 := ⟨[I vn8, .bot, .bot, .ow 24, I d3, .bot, .bot, .bot, .bot, .bot, .bot, .bot, .bot, .bot, .bot, Bo (eqI (Int.tmod vn8 d3) 0), .bot, .bot, .bot, .bot, .bot, .bot, .bot, .bot, .bot, .bot, .bot, .bot, .bot, .bot], [(24, .arr 3 1 (l9.map c3))]⟩) ?_ ?_
            · refine XL_cons rfl (X_of_Y0 rfl (E_move (I vn8) rfl (by kernel_rfl))) ?_
              refine XL_cons rfl (X_of_Y0 rfl (E_move (I d3) rfl (by kernel_rfl))) ?_
              refine XL_cons rfl (X_of_Y0 rfl (Y0_rem (k := .i64) (a := vn8) (b := d3) rfl (by kernel_rfl) (by kernel_rfl) (nz_some hz12))) ?_
              refine XL_cons rfl (X_of_Y0 rfl (Y0_eqw (k := .i64) (a := Int.tmod vn8 d3) (b := 0) rfl (by kernel_rfl) (by kernel_rfl))) ?_
              refine XL_nil ?_
              kernel_rfl
            refine V_cond rfl (fun hc13 => ?_) (fun hc13 => ?_)
            · have h := of_true h hc13
              refine V_skip ?_
              show V _ _ _ _
              refine V_block ?_
              obtain ⟨u14, hu14, h⟩ := of_bind h
              refine V_sreg [true, false, false, true, true, false, false, false, false, false, false, false, false, false, false, false, false, false, false, false, false, false, false, false, false, false, false, false, false, false] [24] (s1 := ⟨[I vn8, .bot, .bot, .ow 24, I d3, .bot, .bot, .bot, .bot, .bot, .bot, .bot, .bot, .bot, .bot, .bot, .bot, .bot, .bot, .bot, .bot, .bot, .bot, .bot, .bot, .bot, .bot, .bot, .bot, .bot], [(24, .arr 3 1 ((l9 ++ ([d3])).map c3))]⟩) ?_ ?_
              · refine XL_cons rfl (X_of_Y0 rfl (E_move (.ow 24) rfl (by kernel_rfl))) ?_
                refine XL_cons rfl (X_of_Y0 rfl (E_move (I d3) rfl (by kernel_rfl))) ?_
                refine XL_cons rfl (X_of_Y1 rfl (Y1_bslice (z := zv3) (els := [d3].map c3) Try.underlying27 iz3 rfl (by decide) rfl (by kernel_rfl) rfl (by simp [c3]) (by decide) (by decide))) ?_
                refine XL_cons rfl (X_appendM (c := c3) (xs := l9) (ys := [d3]) (id := 24) (z := zv3) rfl rfl Try.underlying27 izb3 rfl (by kernel_rfl) (by kernel_rfl) (by kernel_rfl) (fun _ => rfl) (by simp) (room_some hu14) (by decide)) ?_
                refine XL_cons rfl (X_of_Y0 rfl (E_assign (.ow 24) rfl (by kernel_rfl))) ?_
                refine XL_nil ?_
                kernel_rfl
              obtain ⟨z15, hz15, h⟩ := of_bind h
              obtain ⟨vn16, hvn16, h⟩ := of_sI h
              refine V_reg [true, false, false, true, true, false, false, false, false, false, false, false, false, false, false, false, false, false, false, false, false, false, false, false, false, false, false, false, false, false] [24] (s1 := ⟨[I vn16, .bot, .bot, .ow 24, I d3, .bot, .bot, .bot, .bot, .bot, .bot, .bot, .bot, .bot, .bot, .bot, .bot, .bot, .bot, .bot, .bot, .bot, .bot, .bot, .bot, .bot, .bot, .bot, .bot, .bot], [(24, .arr 3 1 ((l9 ++ ([d3])).map c3))]⟩) ?_ ?_
              · refine XL_cons rfl (X_of_Y0 rfl (E_move (I vn8) rfl (by kernel_rfl))) ?_
                refine XL_cons rfl (X_of_Y0 rfl (E_move (I d3) rfl (by kernel_rfl))) ?_
                refine XL_cons rfl (X_of_Y0 rfl (Y0_quo64 (a := vn8) (b := d3) rfl (by kernel_rfl) (by kernel_rfl) (nz_some hz15))) ?_
                refine XL_cons rfl (X_of_Y0 rfl (E_assign (I (w64 (Int.tdiv vn8 d3))) rfl (by kernel_rfl))) ?_
                refine XL_nil ?_
                subst hvn16
                kernel_rfl
              exact ⟨n, Nat.lt_succ_self n, _, _,  by rfl, h⟩
            · have h := of_false h hc13
              refine V_exit ?_
              obtain rfl := some_inj h
              show St.keep _ _ _ = _
              rfl
        show V _ _ _ _
        obtain ⟨d17, hd17, h⟩ := of_sI h
        refine V_reg [true, false, false, true, true, false, false, false, false, false, false, false, false, false, false, false, false, false, false, false, false, false, false, false, false, false, false, false, false, false] [24] (s1 := ⟨[I o11.1, .bot, .bot, .ow 24, I d17, .bot, .bot, .bot, .bot, .bot, .bot, .bot, .bot, .bot, .bot, .bot, .bot, .bot, .bot, .bot, .bot, .bot, .bot, .bot, .bot, .bot, .bot, .bot, .bot, .bot], [(24, .arr 3 1 (o11.2.map c3))]⟩) ?_ ?_
        · refine XL_cons rfl (X_of_Y0 rfl (E_move (I d3) rfl (by kernel_rfl))) ?_
          refine XL_cons rfl (X_of_Y0 rfl (Y0_add64 (a := d3) (b := 1) rfl (by kernel_rfl) (by kernel_rfl))) ?_
          refine XL_cons rfl (X_of_Y0 rfl (E_assign (I (w64 (d3 + 1))) rfl (by kernel_rfl))) ?_
          refine XL_nil ?_
          subst hd17
          kernel_rfl
        exact ⟨n, Nat.lt_succ_self n, _, _, _,  by rfl, h⟩
      · have h := of_false h hc7
        refine V_exit ?_
        obtain rfl := some_inj h
        show St.keep _ _ _ = _
        rfl
  show V _ _ _ _
  refine V_seq ?_
  refine V_sreg [true, false, false, true, false, false, false, false, false, false, false, false, false, false, false, false, false, false, false, false, false, false, false, false, true, false, false, false, false, false] [24] (s1 := ⟨[I o6.1, .bot, .bot, .ow 24, .bot, .bot, .bot, .bot, .bot, .bot, .bot, .bot, .bot, .bot, .bot, .bot, .bot, .bot, .bot, .bot, .bot, .bot, .bot, .bot, Bo (ltI 1 o6.1), .bot, .bot, .bot, .bot, .bot], [(24, .arr 3 1 (o6.2.map c3))]⟩) ?_ ?_
  · refine XL_cons rfl (X_of_Y0 rfl (E_move (I o6.1) rfl (by kernel_rfl))) ?_
    refine XL_cons rfl (X_of_Y0 rfl (Y0_gtw (k := .i64) (a := o6.1) (b := 1) rfl (by kernel_rfl) (by kernel_rfl))) ?_
    refine XL_nil ?_
    kernel_rfl
  refine V_cond rfl (fun hc18 => ?_) (fun hc18 => ?_)
  · have h := of_true h hc18
    obtain ⟨u19, hu19, h⟩ := of_bind h
    refine V_reg [false, false, false, true, false, false, false, false, false, false, false, false, false, false, false, false, false, false, false, false, false, false, false, false, false, false, false, false, false, false] [24] (s1 := ⟨[.bot, .bot, .bot, .ow 24, .bot, .bot, .bot, .bot, .bot, .bot, .bot, .bot, .bot, .bot, .bot, .bot, .bot, .bot, .bot, .bot, .bot, .bot, .bot, .bot, .bot, .bot, .bot, .bot, .bot, .bot], [(24, .arr 3 1 ((o6.2 ++ ([o6.1])).map c3))]⟩) ?_ ?_
    · refine XL_cons rfl (X_of_Y0 rfl (E_move (.ow 24) rfl (by kernel_rfl))) ?_
      refine XL_cons rfl (X_of_Y0 rfl (E_move (I o6.1) rfl (by kernel_rfl))) ?_
      refine XL_cons rfl (X_of_Y1 rfl (Y1_bslice (z := zv3) (els := [o6.1].map c3) Try.underlying27 iz3 rfl (by decide) rfl (by kernel_rfl) rfl (by simp [c3]) (by decide) (by decide))) ?_
      refine XL_cons rfl (X_appendM (c := c3) (xs := o6.2) (ys := [o6.1]) (id := 24) (z := zv3) rfl rfl Try.underlying27 izb3 rfl (by kernel_rfl) (by kernel_rfl) (by kernel_rfl) (fun _ => rfl) (by simp) (room_some hu19) (by decide)) ?_
      refine XL_cons rfl (X_of_Y0 rfl (E_assign (.ow 24) rfl (by kernel_rfl))) ?_
      refine XL_nil ?_
      kernel_rfl
    show V _ _ _ _
    refine V_sreg [false, false, true, false, false, false, false, false, false, false, false, false, false, false, false, false, false, false, false, false, false, false, false, false, false, false, false, false, false, false] [24] (s1 := ⟨[.bot, .bot, .ow 24, .bot, .bot, .bot, .bot, .bot, .bot, .bot, .bot, .bot, .bot, .bot, .bot, .bot, .bot, .bot, .bot, .bot, .bot, .bot, .bot, .bot, .bot, .bot, .bot, .bot, .bot, .bot], [(24, .arr 3 1 ((o6.2 ++ ([o6.1])).map c3))]⟩) ?_ ?_
    · refine XL_cons rfl (X_of_Y0 rfl (E_move (.ow 24) rfl (by kernel_rfl))) ?_
      refine XL_cons rfl (X_of_Y0 rfl (E_assign (.ow 24) rfl (by kernel_rfl))) ?_
      refine XL_nil ?_
      kernel_rfl
    refine V_ret ?_
    obtain rfl := some_inj h
    show Post _ _ _ _ _
    exact ⟨.inr rfl, rfl, rfl, rfl⟩
  · have h := of_false h hc18
    refine V_skip ?_
    show V _ _ _ _
    refine V_sreg [false, false, true, false, false, false, false, false, false, false, false, false, false, false, false, false, false, false, false, false, false, false, false, false, false, false, false, false, false, false] [24] (s1 := ⟨[.bot, .bot, .ow 24, .bot, .bot, .bot, .bot, .bot, .bot, .bot, .bot, .bot, .bot, .bot, .bot, .bot, .bot, .bot, .bot, .bot, .bot, .bot, .bot, .bot, .bot, .bot, .bot, .bot, .bot, .bot], [(24, .arr 3 1 (o6.2.map c3))]⟩) ?_ ?_
    · refine XL_cons rfl (X_of_Y0 rfl (E_move (.ow 24) rfl (by kernel_rfl))) ?_
      refine XL_cons rfl (X_of_Y0 rfl (E_assign (.ow 24) rfl (by kernel_rfl))) ?_
      refine XL_nil ?_
      kernel_rfl
    refine V_ret ?_
    obtain rfl := some_inj h
    show Post _ _ _ _ _
    exact ⟨.inr rfl, rfl, rfl, rfl⟩
theorem cf_spec_l1Put : ∀ args w, (callFunc 160 args).run Try.prog w = .ok (.enter 160 args) w := run_callFunc Try.func160 (by kernel_rfl) (by kernel_rfl)
set_option maxRecDepth 100000 in
set_option maxHeartbeats 400000 in
theorem s_spec_l1Put {l1 : List Int} {vn2 : Int} {r : List Int} (h : r_spec_l1Put l1 vn2 = some r) : CallS Try.prog 160 [.c (.sl (l1.map c3)), I vn2] (.c (.sl (r.map c3))) [] := by
  refine CallS_of_text (rs := [.t 4]) (vs := [.tmp 4]) Try.func160 rfl rfl (.cons rfl FitsL.nil) (by decide) 48 rfl ?_
  unfold r_spec_l1Put at h
  show V _ _ ⟨[.c (.sl (l1.map c3)), I vn2, .bot, .bot, .bot, .bot, .bot, .bot, .bot, .bot, .bot, .bot, .bot, .bot, .bot, .bot, .bot, .bot, .bot, .bot, .bot, .bot, .bot, .bot, .bot, .bot, .bot, .bot, .bot, .bot, .bot, .bot, .bot, .bot, .bot, .bot, .bot, .bot, .bot, .bot, .bot, .bot, .bot, .bot, .bot, .bot, .bot, .bot], []⟩ _
  refine V_sreg [true, true, false, false, false, false, false, false, false, false, false, false, false, false, false, false, false, false, false, false, false, false, false, false, false, false, false, false, false, false, false, false, false, false, false, false, false, false, false, false, false, false, false, false, false, false, false, false] [] (s1 := ⟨[.c (.sl (l1.map c3)), I vn2, .bot, .bot, .bot, .bot, .bot, .bot, .bot, .bot, .bot, .bot, .bot, .bot, .bot, .bot, .bot, .bot, .bot, .bot, .bot, .bot, .bot, .bot, .bot, .bot, .bot, .bot, .bot, .bot, .bot, .bot, .bot, .bot, .bot, .bot, .bot, .bot, .bot, .bot, .bot, .bot, .bot, .bot, .bot, .bot, .bot, .bot], []⟩) ?_ ?_
  · refine XL_cons rfl (X_of_Y1 rfl (Y1_nil (e := 3) 1 (by decide) (.inl rfl))) ?_
    refine XL_nil ?_
    kernel_rfl
  refine V_sreg [true, true, false, false, false, true, false, false, false, false, false, false, false, false, false, false, false, false, false, false, false, false, false, false, false, false, false, false, false, false, false, false, false, false, false, false, false, false, false, false, false, false, false, false, false, false, false, false] [] (s1 := ⟨[.c (.sl (l1.map c3)), I vn2, .bot, .bot, .bot, I 0, .bot, .bot, .bot, .bot, .bot, .bot, .bot, .bot, .bot, .bot, .bot, .bot, .bot, .bot, .bot, .bot, .bot, .bot, .bot, .bot, .bot, .bot, .bot, .bot, .bot, .bot, .bot, .bot, .bot, .bot, .bot, .bot, .bot, .bot, .bot, .bot, .bot, .bot, .bot, .bot, .bot, .bot], []⟩) ?_ ?_
  · refine XL_cons rfl (X_of_Y0 rfl (E_assign (I 0) rfl (by kernel_rfl))) ?_
    refine XL_nil ?_
    kernel_rfl
  refine V_seq ?_
  obtain ⟨o5, hLo5, h⟩ := of_bind h
  refine V_toK [true, true, false, false, false, true, false, false, false, false, false, false, false, false, false, false, false, false, false, false, false, false, false, false, false, false, false, false, false, false, false, false, false, false, false, false, false, false, false, false, false, false, false, false, false, false, false, false] [] (s1 := ⟨[.c (.sl (l1.map c3)), I vn2, .bot, .bot, .bot, I o5, .bot, .bot, .bot, .bot, .bot, .bot, .bot, .bot, .bot, .bot, .bot, .bot, .bot, .bot, .bot, .bot, .bot, .bot, .bot, .bot, .bot, .bot, .bot, .bot, .bot, .bot, .bot, .bot, .bot, .bot, .bot, .bot, .bot, .bot, .bot, .bot, .bot, .bot, .bot, .bot, .bot, .bot], []⟩) ?_ ?_
  · clear h
    refine V_block (V_loop (fun n s => ∃ (k3 : Int), s.keep [true, true, false, false, false, true, false, false, false, false, false, false, false, false, false, false, false, false, false, false, false, false, false, false, false, false, false, false, false, false, false, false, false, false, false, false, false, false, false, false, false, false, false, false, false, false, false, false] [] = (⟨[.c (.sl (l1.map c3)), I vn2, .bot, .bot, .bot, I k3, .bot, .bot, .bot, .bot, .bot, .bot, .bot, .bot, .bot, .bot, .bot, .bot, .bot, .bot, .bot, .bot, .bot, .bot, .bot, .bot, .bot, .bot, .bot, .bot, .bot, .bot, .bot, .bot, .bot, .bot, .bot, .bot, .bot, .bot, .bot, .bot, .bot, .bot, .bot, .bot, .bot, .bot], []⟩ : St) ∧ r_spec_l1Put_L4 l1 vn2 n k3 = some o5) FU ⟨_,  by rfl, hLo5⟩ ?_)
    clear hLo5
    rintro n s ⟨k3, hs, h⟩
    refine V_keep _ _ hs ?_
    clear hs
    cases n with
    | zero => cases h
    | succ n =>
      rw [r_spec_l1Put_L4] at h
      refine V_seq ?_
      obtain ⟨b8, hb8, h⟩ := of_bind h
      refine V_sreg [true, true, false, false, false, true, false, false, false, false, false, false, false, false, false, false, false, false, true, false, false, false, false, false, false, false, false, false, false, false, false, false, false, false, false, false, false, false, false, false, false, false, false, false, false, false, false, false] [] (s1 := ⟨[.c (.sl (l1.map c3)), I vn2, .bot, .bot, .bot, I k3, .bot, .bot, .bot, .bot, .bot, .bot, .bot, .bot, .bot, .bot, .bot, .bot, Bo b8, .bot, .bot, .bot, .bot, .bot, .bot, .bot, .bot, .bot, .bot, .bot, .bot, .bot, .bot, .bot, .bot, .bot, .bot, .bot, .bot, .bot, .bot, .bot, .bot, .bot, .bot, .bot, .bot, .bot], []⟩) ?_ ?_
      · refine XL_cons rfl (X_of_Y0 rfl (E_move (I k3) rfl (by kernel_rfl))) ?_
        refine XL_cons rfl (X_of_Y0 rfl (E_move (.c (.sl (l1.map c3))) rfl (by kernel_rfl))) ?_
        refine XL_cons rfl (X_of_Y0 rfl (Y0_lenM (c := c3) (xs := l1) Try.underlying27 rfl (by kernel_rfl))) ?_
        refine XL_cons rfl (X_of_Y0 rfl (Y0_ltw (k := .i64) (a := k3) (b := (l1.length : Int)) rfl (by kernel_rfl) (by kernel_rfl))) ?_
        refine XL_cons rfl (X_of_Y0 rfl (E_move (Bo (ltI k3 ((l1.length : Int)))) rfl (by kernel_rfl))) ?_
        refine XL_split (ltI k3 ((l1.length : Int))) (fun hc6 => ?_) (fun hc6 => ?_)
        · have hb8 := of_true hb8 hc6
          obtain ⟨e7, he7, hb8⟩ := of_bind hb8
          have hb8 := some_inj hb8
          refine XL_takeC (ltI k3 ((l1.length : Int))) rfl rfl (by kernel_rfl) hc6 (X_of_Y0 rfl (E_move (.c (.sl (l1.map c3))) rfl (by kernel_rfl))) ?_
          refine XL_takeC (ltI k3 ((l1.length : Int))) rfl rfl (by kernel_rfl) hc6 (X_of_Y0 rfl (E_move (I k3) rfl (by kernel_rfl))) ?_
          refine XL_takeC (ltI k3 ((l1.length : Int))) rfl rfl (by kernel_rfl) hc6 (X_of_Y0 rfl (Y0_idxM (c := c3) (xs := l1) (v := e7) (n := k3) Try.underlying27 sz3 rfl (by kernel_rfl) (by kernel_rfl) he7)) ?_
          refine XL_takeC (ltI k3 ((l1.length : Int))) rfl rfl (by kernel_rfl) hc6 (X_of_Y0 rfl (Y0_load1 (c := Ti e7) (cs := []) sc3 rfl (by kernel_rfl))) ?_
          refine XL_takeC (ltI k3 ((l1.length : Int))) rfl rfl (by kernel_rfl) hc6 (X_of_Y0 rfl (E_move (I vn2) rfl (by kernel_rfl))) ?_
          refine XL_takeC (ltI k3 ((l1.length : Int))) rfl rfl (by kernel_rfl) hc6 (X_of_Y0 rfl (Y0_ltw (k := .i64) (a := e7) (b := vn2) rfl (by kernel_rfl) (by kernel_rfl))) ?_
          refine XL_cons rfl (X_of_Y0 rfl (Y0_pickTe (b := ltI k3 ((l1.length : Int))) (p := ltI e7 vn2) rfl (by kernel_rfl) hc6 (by kernel_rfl) hb8)) ?_
          refine XL_nil ?_
          kernel_rfl
        · have hb8 := some_inj (of_false hb8 hc6)
          refine XL_skipT (ltI k3 ((l1.length : Int))) rfl rfl (by kernel_rfl) hc6 rfl ?_
          refine XL_skipT (ltI k3 ((l1.length : Int))) rfl rfl (by kernel_rfl) hc6 rfl ?_
          refine XL_skipT (ltI k3 ((l1.length : Int))) rfl rfl (by kernel_rfl) hc6 rfl ?_
          refine XL_skipT (ltI k3 ((l1.length : Int))) rfl rfl (by kernel_rfl) hc6 rfl ?_
          refine XL_skipT (ltI k3 ((l1.length : Int))) rfl rfl (by kernel_rfl) hc6 rfl ?_
          refine XL_skipT (ltI k3 ((l1.length : Int))) rfl rfl (by kernel_rfl) hc6 rfl ?_
          refine XL_cons rfl (X_of_Y0 rfl (Y0_pickFe (b := ltI k3 ((l1.length : Int))) (p := false) rfl (by kernel_rfl) hc6 (by kernel_rfl) hb8)) ?_
          refine XL_nil ?_
          kernel_rfl
      refine V_cond rfl (fun hc9 => ?_) (fun hc9 => ?_)
      · have h := of_true h hc9
        refine V_skip ?_
        show V _ _ _ _
        refine V_block ?_
        obtain ⟨k10, hk10, h⟩ := of_sI h
        refine V_reg [true, true, false, false, false, true, false, false, false, false, false, false, false, false, false, false, false, false, false, false, false, false, false, false, false, false, false, false, false, false, false, false, false, false, false, false, false, false, false, false, false, false, false, false, false, false, false, false] [] (s1 := ⟨[.c (.sl (l1.map c3)), I vn2, .bot, .bot, .bot, I k10, .bot, .bot, .bot, .bot, .bot, .bot, .bot, .bot, .bot, .bot, .bot, .bot, .bot, .bot, .bot, .bot, .bot, .bot, .bot, .bot, .bot, .bot, .bot, .bot, .bot, .bot, .bot, .bot, .bot, .bot, .bot, .bot, .bot, .bot, .bot, .bot, .bot, .bot, .bot, .bot, .bot, .bot], []⟩) ?_ ?_
        · refine XL_cons rfl (X_of_Y0 rfl (E_move (I k3) rfl (by kernel_rfl))) ?_
          refine XL_cons rfl (X_of_Y0 rfl (Y0_add64 (a := k3) (b := 1) rfl (by kernel_rfl) (by kernel_rfl))) ?_
          refine XL_cons rfl (X_of_Y0 rfl (E_assign (I (w64 (k3 + 1))) rfl (by kernel_rfl))) ?_
          refine XL_nil ?_
          subst hk10
          kernel_rfl
        exact ⟨n, Nat.lt_succ_self n, _,  by rfl, h⟩
      · have h := of_false h hc9
        refine V_exit ?_
        obtain rfl := some_inj h
        show St.keep _ _ _ = _
        rfl
  show V _ _ _ _
  refine V_seq ?_
  obtain ⟨b13, hb13, h⟩ := of_bind h
  refine V_sreg [true, true, false, false, false, true, false, false, false, false, false, false, false, false, false, false, false, false, false, false, false, false, false, false, false, false, false, false, false, false, false, false, true, false, false, false, false, false, false, false, false, false, false, false, false, false, false, false] [] (s1 := ⟨[.c (.sl (l1.map c3)), I vn2, .bot, .bot, .bot, I o5, .bot, .bot, .bot, .bot, .bot, .bot, .bot, .bot, .bot, .bot, .bot, .bot, .bot, .bot, .bot, .bot, .bot, .bot, .bot, .bot, .bot, .bot, .bot, .bot, .bot, .bot, Bo b13, .bot, .bot, .bot, .bot, .bot, .bot, .bot, .bot, .bot, .bot, .bot, .bot, .bot, .bot, .bot], []⟩) ?_ ?_
  · refine XL_cons rfl (X_of_Y0 rfl (E_move (I o5) rfl (by kernel_rfl))) ?_
    refine XL_cons rfl (X_of_Y0 rfl (E_move (.c (.sl (l1.map c3))) rfl (by kernel_rfl))) ?_
    refine XL_cons rfl (X_of_Y0 rfl (Y0_lenM (c := c3) (xs := l1) Try.underlying27 rfl (by kernel_rfl))) ?_
    refine XL_cons rfl (X_of_Y0 rfl (Y0_ltw (k := .i64) (a := o5) (b := (l1.length : Int)) rfl (by kernel_rfl) (by kernel_rfl))) ?_
    refine XL_cons rfl (X_of_Y0 rfl (E_move (Bo (ltI o5 ((l1.length : Int)))) rfl (by kernel_rfl))) ?_
    refine XL_split (ltI o5 ((l1.length : Int))) (fun hc11 => ?_) (fun hc11 => ?_)
    · have hb13 := of_true hb13 hc11
      obtain ⟨e12, he12, hb13⟩ := of_bind hb13
      have hb13 := some_inj hb13
      refine XL_takeC (ltI o5 ((l1.length : Int))) rfl rfl (by kernel_rfl) hc11 (X_of_Y0 rfl (E_move (.c (.sl (l1.map c3))) rfl (by kernel_rfl))) ?_
      refine XL_takeC (ltI o5 ((l1.length : Int))) rfl rfl (by kernel_rfl) hc11 (X_of_Y0 rfl (E_move (I o5) rfl (by kernel_rfl))) ?_
      refine XL_takeC (ltI o5 ((l1.length : Int))) rfl rfl (by kernel_rfl) hc11 (X_of_Y0 rfl (Y0_idxM (c := c3) (xs := l1) (v := e12) (n := o5) Try.underlying27 sz3 rfl (by kernel_rfl) (by kernel_rfl) he12)) ?_
      refine XL_takeC (ltI o5 ((l1.length : Int))) rfl rfl (by kernel_rfl) hc11 (X_of_Y0 rfl (Y0_load1 (c := Ti e12) (cs := []) sc3 rfl (by kernel_rfl))) ?_
      refine XL_takeC (ltI o5 ((l1.length : Int))) rfl rfl (by kernel_rfl) hc11 (X_of_Y0 rfl (E_move (I vn2) rfl (by kernel_rfl))) ?_
      refine XL_takeC (ltI o5 ((l1.length : Int))) rfl rfl (by kernel_rfl) hc11 (X_of_Y0 rfl (Y0_eqw (k := .i64) (a := e12) (b := vn2) rfl (by kernel_rfl) (by kernel_rfl))) ?_
      refine XL_cons rfl (X_of_Y0 rfl (Y0_pickTe (b := ltI o5 ((l1.length : Int))) (p := eqI e12 vn2) rfl (by kernel_rfl) hc11 (by kernel_rfl) hb13)) ?_
      refine XL_nil ?_
      kernel_rfl
    · have hb13 := some_inj (of_false hb13 hc11)
      refine XL_skipT (ltI o5 ((l1.length : Int))) rfl rfl (by kernel_rfl) hc11 rfl ?_
      refine XL_skipT (ltI o5 ((l1.length : Int))) rfl rfl (by kernel_rfl) hc11 rfl ?_
      refine XL_skipT (ltI o5 ((l1.length : Int))) rfl rfl (by kernel_rfl) hc11 rfl ?_
      refine XL_skipT (ltI o5 ((l1.length : Int))) rfl rfl (by kernel_rfl) hc11 rfl ?_
      refine XL_skipT (ltI o5 ((l1.length : Int))) rfl rfl (by kernel_rfl) hc11 rfl ?_
      refine XL_skipT (ltI o5 ((l1.length : Int))) rfl rfl (by kernel_rfl) hc11 rfl ?_
      refine XL_cons rfl (X_of_Y0 rfl (Y0_pickFe (b := ltI o5 ((l1.length : Int))) (p := false) rfl (by kernel_rfl) hc11 (by kernel_rfl) hb13)) ?_
      refine XL_nil ?_
      kernel_rfl
  refine V_cond rfl (fun hc14 => ?_) (fun hc14 => ?_)
  · have h := of_true h hc14
    refine V_sreg [false, false, false, false, true, false, false, false, false, false, false, false, false, false, false, false, false, false, false, false, false, false, false, false, false, false, false, false, false, false, false, false, false, false, false, false, false, false, false, false, false, false, false, false, false, false, false, false] [] (s1 := ⟨[.bot, .bot, .bot, .bot, .c (.sl (l1.map c3)), .bot, .bot, .bot, .bot, .bot, .bot, .bot, .bot, .bot, .bot, .bot, .bot, .bot, .bot, .bot, .bot, .bot, .bot, .bot, .bot, .bot, .bot, .bot, .bot, .bot, .bot, .bot, .bot, .bot, .bot, .bot, .bot, .bot, .bot, .bot, .bot, .bot, .bot, .bot, .bot, .bot, .bot, .bot], []⟩) ?_ ?_
    · refine XL_cons rfl (X_of_Y0 rfl (E_move (.c (.sl (l1.map c3))) rfl (by kernel_rfl))) ?_
      refine XL_cons rfl (X_of_Y0 rfl (E_assign (.c (.sl (l1.map c3))) rfl (by kernel_rfl))) ?_
      refine XL_nil ?_
      kernel_rfl
    refine V_ret ?_
    obtain rfl := some_inj h
    show Post _ _ _ _ _
    exact ⟨.inr rfl, rfl, rfl, rfl⟩
  · have h := of_false h hc14
    refine V_skip ?_
    show V _ _ _ _
    obtain ⟨u15, hu15, h⟩ := of_bind h
    obtain ⟨u16, hu16, h⟩ := of_bind h
    refine V_sreg [true, true, false, false, false, true, true, false, false, false, false, false, false, false, false, false, false, false, false, false, false, false, false, false, false, false, false, false, false, false, false, false, false, false, false, false, false, false, false, false, false, false, false, false, false, false, false, false] [272] (s1 := ⟨[.c (.sl (l1.map c3)), I vn2, .bot, .bot, .bot, I o5, .ow 272, .bot, .bot, .bot, .bot, .bot, .bot, .bot, .bot, .bot, .bot, .bot, .bot, .bot, .bot, .bot, .bot, .bot, .bot, .bot, .bot, .bot, .bot, .bot, .bot, .bot, .bot, .bot, .bot, .bot, .bot, .bot, .bot, .bot, .bot, .bot, .bot, .bot, .bot, .bot, .bot, .bot], [(272, .arr 3 1 (((([] : List Int)) ++ (subl l1 0 o5)).map c3))]⟩) ?_ ?_
    · refine XL_cons rfl (X_of_Y1 rfl (Y1_bslice0 Try.underlying27 sz3 (by decide) rfl rfl)) ?_
      refine XL_cons rfl (X_of_Y0 rfl (E_move (.c (.sl (l1.map c3))) rfl (by kernel_rfl))) ?_
      refine XL_cons rfl (X_of_Y0 rfl (E_move (I o5) rfl (by kernel_rfl))) ?_
      refine XL_cons rfl (X_of_Y0 rfl (Y0_slice (c := c3) (xs := l1) (l := 0) (h := o5) Try.underlying27 sz3 (fun _ => rfl) rfl (by kernel_rfl) (fun y hy => by cases hy) (fun _ => rfl) (fun y hy => by cases hy; exact ⟨.i64, (by kernel_rfl)⟩) (fun hh => by cases hh) (slc_some hu15))) ?_
      refine XL_cons rfl (X_appendA (c := c3) (xs := ([] : List Int)) (ys := subl l1 0 o5) (id := 272) (z := zv3) rfl rfl Try.underlying27 izb3 rfl (by kernel_rfl) (by kernel_rfl) (by kernel_rfl) (fun _ => rfl) (room_some hu16) (by decide)) ?_
      refine XL_cons rfl (X_of_Y0 rfl (E_assign (.ow 272) rfl (by kernel_rfl))) ?_
      refine XL_nil ?_
      kernel_rfl
    obtain ⟨u17, hu17, h⟩ := of_bind h
    refine V_sreg [true, false, false, false, false, true, true, false, false, false, false, false, false, false, false, false, false, false, false, false, false, false, false, false, false, false, false, false, false, false, false, false, false, false, false, false, false, false, false, false, false, false, false, false, false, false, false, false] [272] (s1 := ⟨[.c (.sl (l1.map c3)), .bot, .bot, .bot, .bot, I o5, .ow 272, .bot, .bot, .bot, .bot, .bot, .bot, .bot, .bot, .bot, .bot, .bot, .bot, .bot, .bot, .bot, .bot, .bot, .bot, .bot, .bot, .bot, .bot, .bot, .bot, .bot, .bot, .bot, .bot, .bot, .bot, .bot, .bot, .bot, .bot, .bot, .bot, .bot, .bot, .bot, .bot, .bot], [(272, .arr 3 1 ((((([] : List Int)) ++ (subl l1 0 o5)) ++ ([vn2])).map c3))]⟩) ?_ ?_
    · refine XL_cons rfl (X_of_Y0 rfl (E_move (.ow 272) rfl (by kernel_rfl))) ?_
      refine XL_cons rfl (X_of_Y0 rfl (E_move (I vn2) rfl (by kernel_rfl))) ?_
      refine XL_cons rfl (X_of_Y1 rfl (Y1_bslice (z := zv3) (els := [vn2].map c3) Try.underlying27 iz3 rfl (by decide) rfl (by kernel_rfl) rfl (by simp [c3]) (by decide) (by decide))) ?_
      refine XL_cons rfl (X_appendM (c := c3) (xs := (([] : List Int)) ++ (subl l1 0 o5)) (ys := [vn2]) (id := 272) (z := zv3) rfl rfl Try.underlying27 izb3 rfl (by kernel_rfl) (by kernel_rfl) (by kernel_rfl) (fun _ => rfl) (by simp) (room_some hu17) (by decide)) ?_
      refine XL_cons rfl (X_of_Y0 rfl (E_assign (.ow 272) rfl (by kernel_rfl))) ?_
      refine XL_nil ?_
      kernel_rfl
    obtain ⟨u18, hu18, h⟩ := of_bind h
    obtain ⟨u19, hu19, h⟩ := of_bind h
    obtain ⟨l20, hl20, h⟩ := of_bind h
    have hl20 := some_inj hl20
    refine V_sreg [false, false, false, false, true, false, false, false, false, false, false, false, false, false, false, false, false, false, false, false, false, false, false, false, false, false, false, false, false, false, false, false, false, false, false, false, false, false, false, false, false, false, false, false, false, false, false, false] [272] (s1 := ⟨[.bot, .bot, .bot, .bot, .ow 272, .bot, .bot, .bot, .bot, .bot, .bot, .bot, .bot, .bot, .bot, .bot, .bot, .bot, .bot, .bot, .bot, .bot, .bot, .bot, .bot, .bot, .bot, .bot, .bot, .bot, .bot, .bot, .bot, .bot, .bot, .bot, .bot, .bot, .bot, .bot, .bot, .bot, .bot, .bot, .bot, .bot, .bot, .bot], [(272, .arr 3 1 (l20.map c3))]⟩) ?_ ?_
    · refine XL_cons rfl (X_of_Y0 rfl (E_move (.ow 272) rfl (by kernel_rfl))) ?_
      refine XL_cons rfl (X_of_Y0 rfl (E_move (.c (.sl (l1.map c3))) rfl (by kernel_rfl))) ?_
      refine XL_cons rfl (X_of_Y0 rfl (E_move (I o5) rfl (by kernel_rfl))) ?_
      refine XL_cons rfl (X_of_Y0 rfl (Y0_slice (c := c3) (xs := l1) (l := o5) (h := (l1.length : Int)) Try.underlying27 sz3 (fun _ => rfl) rfl (by kernel_rfl) (fun y hy => by cases hy; exact ⟨.i64, (by kernel_rfl)⟩) (fun hh => by cases hh) (fun y hy => by cases hy) (fun _ => rfl) (slc_some hu18))) ?_
      refine XL_cons rfl (X_appendA (c := c3) (xs := ((([] : List Int)) ++ (subl l1 0 o5)) ++ ([vn2])) (ys := subl l1 o5 ((l1.length : Int))) (id := 272) (z := zv3) rfl rfl Try.underlying27 izb3 rfl (by kernel_rfl) (by kernel_rfl) (by kernel_rfl) (fun _ => rfl) (room_some hu19) (by decide)) ?_
      refine XL_cons rfl (X_of_Y0 rfl (E_assign (.ow 272) rfl (by kernel_rfl))) ?_
      refine XL_nil ?_
      subst hl20
      kernel_rfl
    refine V_freeze 272 (T := 3) (sz := 1) (els := l20.map c3) (s1 := ⟨[.bot, .bot, .bot, .bot, .c (.sl (l20.map c3)), .bot, .bot, .bot, .bot, .bot, .bot, .bot, .bot, .bot, .bot, .bot, .bot, .bot, .bot, .bot, .bot, .bot, .bot, .bot, .bot, .bot, .bot, .bot, .bot, .bot, .bot, .bot, .bot, .bot, .bot, .bot, .bot, .bot, .bot, .bot, .bot, .bot, .bot, .bot, .bot, .bot, .bot, .bot], []⟩) (by kernel_rfl) (by kernel_rfl) ?_
    refine V_ret ?_
    obtain rfl := some_inj h
    show Post _ _ _ _ _
    exact ⟨.inr rfl, rfl, rfl, rfl⟩
theorem cf_spec_nuPrimes : ∀ args w, (callFunc 129 args).run Try.prog w = .ok (.enter 129 args) w := run_callFunc Try.func129 (by kernel_rfl) (by kernel_rfl)
set_option maxRecDepth 100000 in
set_option maxHeartbeats 400000 in
theorem s_spec_nuPrimes {vn1 : Int} {r : List Int} (h : r_spec_nuPrimes vn1 = some r) : CallS Try.prog 129 [I vn1] (.c (.sl (r.map c3))) [] := by
  refine CallS_of_text (rs := [.t 2]) (vs := [.tmp 2]) Try.func129 rfl rfl (.cons rfl FitsL.nil) (by decide) 18 rfl ?_
  unfold r_spec_nuPrimes at h
  show V _ _ ⟨[I vn1, .bot, .bot, .bot, .bot, .bot, .bot, .bot, .bot, .bot, .bot, .bot, .bot, .bot, .bot, .bot, .bot, .bot], []⟩ _
  refine V_sreg [true, false, false, false, false, false, false, false, false, false, false, false, false, false, false, false, false, false] [] (s1 := ⟨[I vn1, .bot, .bot, .bot, .bot, .bot, .bot, .bot, .bot, .bot, .bot, .bot, .bot, .bot, .bot, .bot, .bot, .bot], []⟩) ?_ ?_
  · refine XL_cons rfl (X_of_Y1 rfl (Y1_nil (e := 3) 1 (by decide) (.inl rfl))) ?_
    refine XL_nil ?_
    kernel_rfl
  refine V_sreg [true, false, false, true, false, false, false, false, false, false, false, false, false, false, false, false, false, false] [24] (s1 := ⟨[I vn1, .bot, .bot, .ow 24, .bot, .bot, .bot, .bot, .bot, .bot, .bot, .bot, .bot, .bot, .bot, .bot, .bot, .bot], [(24, .arr 3 1 ((([] : List Int)).map c3))]⟩) ?_ ?_
  · refine XL_cons rfl (X_of_Y1 rfl (Y1_nil (e := 3) 1 (by decide) (.inl rfl))) ?_
    refine XL_nil ?_
    kernel_rfl
  refine V_seq ?_
  obtain ⟨y2, hy2, h⟩ := of_bind h
  refine V_sreg [false, false, false, true, false, false, false, true, true, true, false, false, false, false, false, false, false, false] [56, 24] (s1 := ⟨[.bot, .bot, .bot, .ow 24, .bot, .bot, .bot, .ow 56, I ((y2.length : Int)), I 0, .bot, .bot, .bot, .bot, .bot, .bot, .bot, .bot], [(56, .arr 3 1 (y2.map c3)), (24, .arr 3 1 ((([] : List Int)).map c3))]⟩) ?_ ?_
  · refine XL_cons rfl (X_of_Y0 rfl (E_move (I vn1) rfl (by kernel_rfl))) ?_
    refine XL_cons rfl (X_of_Y1 rfl (Y1_call (s_spec_nuFactors hy2) cf_spec_nuFactors rfl (by kernel_rfl))) ?_
    refine XL_cons rfl (X_of_Y0 rfl (Y0_lenM (c := c3) (xs := y2) Try.underlying27 rfl (by kernel_rfl))) ?_
    refine XL_cons rfl (X_of_Y0 rfl (E_move (I 0) rfl (by kernel_rfl))) ?_
    refine XL_nil ?_
    kernel_rfl
  refine V_freeze 24 (T := 3) (sz := 1) (els := (([] : List Int)).map c3) (s1 := ⟨[.bot, .bot, .bot, .c (.sl ((([] : List Int)).map c3)), .bot, .bot, .bot, .ow 56, I ((y2.length : Int)), I 0, .bot, .bot, .bot, .bot, .bot, .bot, .bot, .bot], [(56, .arr 3 1 (y2.map c3))]⟩) (by kernel_rfl) (by kernel_rfl) ?_
  obtain ⟨o6, hLo6, h⟩ := of_bind h
  refine V_toK [false, false, false, true, false, false, false, false, false, false, false, false, false, false, false, false, false, false] [] (s1 := ⟨[.bot, .bot, .bot, .c (.sl (o6.map c3)), .bot, .bot, .bot, .bot, .bot, .bot, .bot, .bot, .bot, .bot, .bot, .bot, .bot, .bot], []⟩) ?_ ?_
  · clear h
    refine V_block (V_loop (fun n s => ∃ (out3 : List Int) (t4 : Int), s.keep [false, false, false, true, false, false, false, true, true, true, false, false, false, false, false, false, false, false] [56] = (⟨[.bot, .bot, .bot, .c (.sl (out3.map c3)), .bot, .bot, .bot, .ow 56, I ((y2.length : Int)), I t4, .bot, .bot, .bot, .bot, .bot, .bot, .bot, .bot], [(56, .arr 3 1 (y2.map c3))]⟩ : St) ∧ r_spec_nuPrimes_L5 y2 n out3 t4 = some o6) FU ⟨_, _,  by rfl, hLo6⟩ ?_)
    clear hLo6
    rintro n s ⟨out3, t4, hs, h⟩
    refine V_keep _ _ hs ?_
    clear hs
    cases n with
    | zero => cases h
    | succ n =>
      rw [r_spec_nuPrimes_L5] at h
      refine V_sreg [false, false, false, true, false, false, false, true, true, true, true, false, false, false, false, false, false, false] [56] (s1 := ⟨[.bot, .bot, .bot, .c (.sl (out3.map c3)), .bot, .bot, .bot, .ow 56, I ((y2.length : Int)), I t4, Bo (ltI t4 ((y2.length : Int))), .bot, .bot, .bot, .bot, .bot, .bot, .bot], [(56, .arr 3 1 (y2.map c3))]⟩) ?_ ?_
      · refine XL_cons rfl (X_of_Y0 rfl (Y0_ltw (k := .i64) (a := t4) (b := (y2.length : Int)) rfl (by kernel_rfl) (by kernel_rfl))) ?_
        refine XL_nil ?_
        kernel_rfl
      refine V_seq ?_
      refine V_cond rfl (fun hc7 => ?_) (fun hc7 => ?_)
      · have h := of_true h hc7
        refine V_skip ?_
        show V _ _ _ _
        refine V_seq ?_
        refine V_block ?_
        obtain ⟨e8, he8, h⟩ := of_bind h
        obtain ⟨e9, he9, h⟩ := of_bind h
        refine V_sreg [false, false, false, true, false, true, false, true, true, true, false, false, false, false, false, false, false, false] [56] (s1 := ⟨[.bot, .bot, .bot, .c (.sl (out3.map c3)), .bot, I e9, .bot, .ow 56, I ((y2.length : Int)), I t4, .bot, .bot, .bot, .bot, .bot, .bot, .bot, .bot], [(56, .arr 3 1 (y2.map c3))]⟩) ?_ ?_
        · refine XL_cons rfl (X_of_Y0 rfl (Y0_idxoM (c := c3) (xs := y2) (v := e8) (id := 56) (T := 3) (sz := 1) (n := t4) Try.underlying27 sz3 rfl (by kernel_rfl) (by kernel_rfl) (by kernel_rfl) he8)) ?_
          refine XL_cons rfl (X_of_Y0 rfl (Y0_loado1 (c := c3) (xs := y2) (v := e9) (id := 56) (sz := 1) (T := 3) (off := 0) (n := t4) (d := Ti e9) (ds := []) sc3 rfl (by kernel_rfl) (by kernel_rfl) he9 (by kernel_rfl))) ?_
          refine XL_cons rfl (X_of_Y0 rfl (E_assign (I e9) rfl (by kernel_rfl))) ?_
          refine XL_nil ?_
          kernel_rfl
        obtain ⟨y10, hy10, h⟩ := of_bind h
        refine V_reg [false, false, false, true, false, false, false, true, true, true, false, false, false, false, false, false, false, false] [56] (s1 := ⟨[.bot, .bot, .bot, .c (.sl (y10.map c3)), .bot, .bot, .bot, .ow 56, I ((y2.length : Int)), I t4, .bot, .bot, .bot, .bot, .bot, .bot, .bot, .bot], [(56, .arr 3 1 (y2.map c3))]⟩) ?_ ?_
        · refine XL_cons rfl (X_of_Y0 rfl (E_move (.c (.sl (out3.map c3))) rfl (by kernel_rfl))) ?_
          refine XL_cons rfl (X_of_Y0 rfl (E_move (I e9) rfl (by kernel_rfl))) ?_
          refine XL_cons rfl (X_of_Y1 rfl (Y1_call (s_spec_l1Put hy10) cf_spec_l1Put rfl (by kernel_rfl))) ?_
          refine XL_cons rfl (X_of_Y0 rfl (E_assign (.c (.sl (y10.map c3))) rfl (by kernel_rfl))) ?_
          refine XL_nil ?_
          kernel_rfl
        show V _ _ _ _
        obtain ⟨t11, ht11, h⟩ := of_sI h
        refine V_reg [false, false, false, true, false, false, false, true, true, true, false, false, false, false, false, false, false, false] [56] (s1 := ⟨[.bot, .bot, .bot, .c (.sl (y10.map c3)), .bot, .bot, .bot, .ow 56, I ((y2.length : Int)), I t11, .bot, .bot, .bot, .bot, .bot, .bot, .bot, .bot], [(56, .arr 3 1 (y2.map c3))]⟩) ?_ ?_
        · refine XL_cons rfl (X_of_Y0 rfl (Y0_add64 (a := t4) (b := 1) rfl (by kernel_rfl) (by kernel_rfl))) ?_
          refine XL_cons rfl (X_of_Y0 rfl (E_move (I (w64 (t4 + 1))) rfl (by kernel_rfl))) ?_
          refine XL_nil ?_
          subst ht11
          kernel_rfl
        exact ⟨n, Nat.lt_succ_self n, _, _,  by rfl, h⟩
      · have h := of_false h hc7
        refine V_exit ?_
        obtain rfl := some_inj h
        show St.keep _ _ _ = _
        rfl
  show V _ _ _ _
  refine V_sreg [false, false, true, false, false, false, false, false, false, false, false, false, false, false, false, false, false, false] [] (s1 := ⟨[.bot, .bot, .c (.sl (o6.map c3)), .bot, .bot, .bot, .bot, .bot, .bot, .bot, .bot, .bot, .bot, .bot, .bot, .bot, .bot, .bot], []⟩) ?_ ?_
  · refine XL_cons rfl (X_of_Y0 rfl (E_move (.c (.sl (o6.map c3))) rfl (by kernel_rfl))) ?_
    refine XL_cons rfl (X_of_Y0 rfl (E_assign (.c (.sl (o6.map c3))) rfl (by kernel_rfl))) ?_
    refine XL_nil ?_
    kernel_rfl
  refine V_ret ?_
  obtain rfl := some_inj h
  show Post _ _ _ _ _
  exact ⟨.inr rfl, rfl, rfl, rfl⟩
theorem cf_spec_diFactor : ∀ args w, (callFunc 75 args).run Try.prog w = .ok (.enter 75 args) w := run_callFunc Try.func75 (by kernel_rfl) (by kernel_rfl)
set_option maxRecDepth 100000 in
set_option maxHeartbeats 400000 in
theorem s_spec_diFactor {d1 : Int} {r : Int} (h : r_spec_diFactor d1 = some r) : CallS Try.prog 75 [I d1] (I r) [] := by
  refine CallS_of_text (rs := [.t 2]) (vs := [.tmp 2]) Try.func75 rfl rfl (.cons rfl FitsL.nil) (by decide) 32 rfl ?_
  unfold r_spec_diFactor at h
  show V _ _ ⟨[I d1, .bot, .bot, .bot, .bot, .bot, .bot, .bot, .bot, .bot, .bot, .bot, .bot, .bot, .bot, .bot, .bot, .bot, .bot, .bot, .bot, .bot, .bot, .bot, .bot, .bot, .bot, .bot, .bot, .bot, .bot, .bot], []⟩ _
  refine V_sreg [true, false, false, false, false, false, false, false, false, false, false, false, false, false, false, false, false, false, false, false, false, false, false, false, false, false, false, false, false, false, false, false] [] (s1 := ⟨[I d1, .bot, .bot, .bot, .bot, .bot, .bot, .bot, .bot, .bot, .bot, .bot, .bot, .bot, .bot, .bot, .bot, .bot, .bot, .bot, .bot, .bot, .bot, .bot, .bot, .bot, .bot, .bot, .bot, .bot, .bot, .bot], []⟩) ?_ ?_
  · refine XL_cons rfl (X_of_Y0 rfl (E_assign (I 0) rfl (by kernel_rfl))) ?_
    refine XL_nil ?_
    kernel_rfl
  obtain ⟨y2, hy2, h⟩ := of_bind h
  refine V_sreg [false, false, false, true, true, false, false, false, false, false, false, false, false, false, false, false, false, false, false, false, false, false, false, false, false, false, false, false, false, false, false, false] [] (s1 := ⟨[.bot, .bot, .bot, I y2.1, I y2.2, .bot, .bot, .bot, .bot, .bot, .bot, .bot, .bot, .bot, .bot, .bot, .bot, .bot, .bot, .bot, .bot, .bot, .bot, .bot, .bot, .bot, .bot, .bot, .bot, .bot, .bot, .bot], []⟩) ?_ ?_
  · refine XL_cons rfl (X_of_Y0 rfl (E_move (I d1) rfl (by kernel_rfl))) ?_
    refine XL_cons rfl (X_of_Y1 rfl (Y1_call (s_spec_diSplit hy2) cf_spec_diSplit rfl (by kernel_rfl))) ?_
    refine XL_cons rfl (X_of_Y0 rfl (E_move (.tc (I y2.1) (.tc (I y2.2) .tn)) rfl (by kernel_rfl))) ?_
    refine XL_cons rfl (X_of_Y0 rfl (E_ext (n := 0) (I y2.1) (.tc (I y2.2) .tn) (I y2.1) rfl (by kernel_rfl) (by kernel_rfl) (by intro hh; cases hh))) ?_
    refine XL_cons rfl (X_of_Y0 rfl (E_ext (n := 1) (I y2.1) (.tc (I y2.2) .tn) (I y2.2) rfl (by kernel_rfl) (by kernel_rfl) (by intro hh; cases hh))) ?_
    refine XL_cons rfl (X_of_Y0 rfl (E_assign (I y2.1) rfl (by kernel_rfl))) ?_
    refine XL_cons rfl (X_of_Y0 rfl (E_assign (I y2.2) rfl (by kernel_rfl))) ?_
    refine XL_nil ?_
    kernel_rfl
  refine V_sreg [false, false, false, true, true, true, false, false, false, false, false, false, false, false, false, false, false, false, false, false, false, false, false, false, false, false, false, false, false, false, false, false] [] (s1 := ⟨[.bot, .bot, .bot, I y2.1, I y2.2, I y2.2, .bot, .bot, .bot, .bot, .bot, .bot, .bot, .bot, .bot, .bot, .bot, .bot, .bot, .bot, .bot, .bot, .bot, .bot, .bot, .bot, .bot, .bot, .bot, .bot, .bot, .bot], []⟩) ?_ ?_
  · refine XL_cons rfl (X_of_Y0 rfl (E_move (I y2.2) rfl (by kernel_rfl))) ?_
    refine XL_cons rfl (X_of_Y0 rfl (E_assign (I y2.2) rfl (by kernel_rfl))) ?_
    refine XL_nil ?_
    kernel_rfl
  refine V_seq ?_
  obtain ⟨y3, hy3, h⟩ := of_bind h
  refine V_sreg [false, false, false, true, false, true, false, false, false, false, false, false, false, false, false, true, true, true, false, false, false, false, false, false, false, false, false, false, false, false, false, false] [] (s1 := ⟨[.bot, .bot, .bot, I y2.1, .bot, I y2.2, .bot, .bot, .bot, .bot, .bot, .bot, .bot, .bot, .bot, .c (.sl (y3.map c3)), I ((y3.length : Int)), I 0, .bot, .bot, .bot, .bot, .bot, .bot, .bot, .bot, .bot, .bot, .bot, .bot, .bot, .bot], []⟩) ?_ ?_
  · refine XL_cons rfl (X_of_Y0 rfl (E_move (I y2.2) rfl (by kernel_rfl))) ?_
    refine XL_cons rfl (X_of_Y1 rfl (Y1_call (s_spec_nuPrimes hy3) cf_spec_nuPrimes rfl (by kernel_rfl))) ?_
    refine XL_cons rfl (X_of_Y0 rfl (Y0_lenM (c := c3) (xs := y3) Try.underlying27 rfl (by kernel_rfl))) ?_
    refine XL_cons rfl (X_of_Y0 rfl (E_move (I 0) rfl (by kernel_rfl))) ?_
    refine XL_nil ?_
    kernel_rfl
  obtain ⟨o7, hLo7, h⟩ := of_bind h
  refine V_toK [false, false, false, false, false, true, false, false, false, false, false, false, false, false, false, false, false, false, false, false, false, false, false, false, false, false, false, false, false, false, false, false] [] (s1 := ⟨[.bot, .bot, .bot, .bot, .bot, I o7, .bot, .bot, .bot, .bot, .bot, .bot, .bot, .bot, .bot, .bot, .bot, .bot, .bot, .bot, .bot, .bot, .bot, .bot, .bot, .bot, .bot, .bot, .bot, .bot, .bot, .bot], []⟩) ?_ ?_
  · clear h
    refine V_block (V_loop (fun n s => ∃ (out4 : Int) (t5 : Int), s.keep [false, false, false, true, false, true, false, false, false, false, false, false, false, false, false, true, true, true, false, false, false, false, false, false, false, false, false, false, false, false, false, false] [] = (⟨[.bot, .bot, .bot, I y2.1, .bot, I out4, .bot, .bot, .bot, .bot, .bot, .bot, .bot, .bot, .bot, .c (.sl (y3.map c3)), I ((y3.length : Int)), I t5, .bot, .bot, .bot, .bot, .bot, .bot, .bot, .bot, .bot, .bot, .bot, .bot, .bot, .bot], []⟩ : St) ∧ r_spec_diFactor_L6 y2 y3 n out4 t5 = some o7) FU ⟨_, _,  by rfl, hLo7⟩ ?_)
    clear hLo7
    rintro n s ⟨out4, t5, hs, h⟩
    refine V_keep _ _ hs ?_
    clear hs
    cases n with
    | zero => cases h
    | succ n =>
      rw [r_spec_diFactor_L6] at h
      refine V_sreg [false, false, false, true, false, true, false, false, false, false, false, false, false, false, false, true, true, true, true, false, false, false, false, false, false, false, false, false, false, false, false, false] [] (s1 := ⟨[.bot, .bot, .bot, I y2.1, .bot, I out4, .bot, .bot, .bot, .bot, .bot, .bot, .bot, .bot, .bot, .c (.sl (y3.map c3)), I ((y3.length : Int)), I t5, Bo (ltI t5 ((y3.length : Int))), .bot, .bot, .bot, .bot, .bot, .bot, .bot, .bot, .bot, .bot, .bot, .bot, .bot], []⟩) ?_ ?_
      · refine XL_cons rfl (X_of_Y0 rfl (Y0_ltw (k := .i64) (a := t5) (b := (y3.length : Int)) rfl (by kernel_rfl) (by kernel_rfl))) ?_
        refine XL_nil ?_
        kernel_rfl
      refine V_seq ?_
      refine V_cond rfl (fun hc8 => ?_) (fun hc8 => ?_)
      · have h := of_true h hc8
        refine V_skip ?_
        show V _ _ _ _
        refine V_seq ?_
        refine V_block ?_
        obtain ⟨e9, he9, h⟩ := of_bind h
        refine V_sreg [false, false, false, true, false, true, false, true, false, false, false, false, false, false, false, true, true, true, false, false, false, false, false, false, false, false, false, false, false, false, false, false] [] (s1 := ⟨[.bot, .bot, .bot, I y2.1, .bot, I out4, .bot, I e9, .bot, .bot, .bot, .bot, .bot, .bot, .bot, .c (.sl (y3.map c3)), I ((y3.length : Int)), I t5, .bot, .bot, .bot, .bot, .bot, .bot, .bot, .bot, .bot, .bot, .bot, .bot, .bot, .bot], []⟩) ?_ ?_
        · refine XL_cons rfl (X_of_Y0 rfl (Y0_idxM (c := c3) (xs := y3) (v := e9) (n := t5) Try.underlying27 sz3 rfl (by kernel_rfl) (by kernel_rfl) he9)) ?_
          refine XL_cons rfl (X_of_Y0 rfl (Y0_load1 (c := Ti e9) (cs := []) sc3 rfl (by kernel_rfl))) ?_
          refine XL_cons rfl (X_of_Y0 rfl (E_assign (I e9) rfl (by kernel_rfl))) ?_
          refine XL_nil ?_
          kernel_rfl
        obtain ⟨z10, hz10, h⟩ := of_bind h
        obtain ⟨y11, hy11, h⟩ := of_bind h
        obtain ⟨out12, hout12, h⟩ := of_sI h
        refine V_dreg [0, 0, 3, 0, 0, 0, 48, 120, 255, 511] 10 [[.z, .b, .z, .b, .b, .b, .b, .b, .z, .z], [.b, .z, .z, .b, .b, .b, .b, .b, .z, .z], [.a, .a, .z, .b, .b, .b, .b, .b, .z, .z], [.b, .b, .b, .z, .b, .b, .b, .z, .z, .z], [.b, .b, .b, .b, .z, .b, .z, .z, .z, .z], [.b, .b, .b, .b, .b, .z, .z, .z, .z, .z], [.b, .b, .b, .b, .a, .a, .z, .z, .z, .z], [.b, .b, .b, .a, .a, .a, .a, .z, .z, .z], [.a, .a, .a, .a, .a, .a, .a, .a, .z, .z], [.a, .a, .a, .a, .a, .a, .a, .a, .a, .z]] [false, false, false, true, false, true, false, false, false, false, false, false, false, false, false, true, true, true, false, false, false, false, false, false, false, false, false, false, false, false, false, false] [] (s1 := ⟨[.bot, .bot, .bot, I y2.1, .bot, I out12, .bot, .bot, .bot, .bot, .bot, .bot, .bot, .bot, .bot, .c (.sl (y3.map c3)), I ((y3.length : Int)), I t5, .bot, .bot, .bot, .bot, .bot, .bot, .bot, .bot, .bot, .bot, .bot, .bot, .bot, .bot], []⟩) (by kernel_rfl) (by kernel_rfl) ?_ ?_
        · refine DE_0 0 (I out4) (by kernel_rfl) rfl rfl rfl (gsat_none rfl) (by kernel_rfl) (E_move (I out4) rfl (by kernel_rfl)) 21 rfl ?_
          refine DE_0 1 (I e9) (by kernel_rfl) rfl rfl rfl (gsat_none rfl) (by kernel_rfl) (E_move (I e9) rfl (by kernel_rfl)) 22 rfl ?_
          refine DE_0 2 (I (w64 (Int.tdiv out4 e9))) (by kernel_rfl) rfl rfl rfl (gsat_none rfl) (by kernel_rfl) (Y0_quo64 (a := out4) (b := e9) rfl (by kernel_rfl) (by kernel_rfl) (nz_some hz10)) 23 rfl ?_
          refine DE_0 3 (I e9) (by kernel_rfl) rfl rfl rfl (gsat_none rfl) (by kernel_rfl) (E_move (I e9) rfl (by kernel_rfl)) 24 rfl ?_
          refine DE_0 4 (I y2.1) (by kernel_rfl) rfl rfl rfl (gsat_none rfl) (by kernel_rfl) (E_move (I y2.1) rfl (by kernel_rfl)) 25 rfl ?_
          refine DE_0 5 (I e9) (by kernel_rfl) rfl rfl rfl (gsat_none rfl) (by kernel_rfl) (E_move (I e9) rfl (by kernel_rfl)) 26 rfl ?_
          refine DE_1 6 (by kernel_rfl) rfl rfl rfl (gsat_none rfl) (Y1_call (s_spec_syKronecker hy11) cf_spec_syKronecker rfl (by kernel_rfl)) rfl rfl rfl 27 rfl ?_
          refine DE_0 7 (I (w64 (e9 - y11))) (by kernel_rfl) rfl rfl rfl (gsat_none rfl) (by kernel_rfl) (Y0_sub64 (a := e9) (b := y11) rfl (by kernel_rfl) (by kernel_rfl)) 28 rfl ?_
          refine DE_0 8 (I (w64 ((w64 (Int.tdiv out4 e9)) * (w64 (e9 - y11))))) (by kernel_rfl) rfl rfl rfl (gsat_none rfl) (by kernel_rfl) (Y0_mul64 (a := w64 (Int.tdiv out4 e9)) (b := w64 (e9 - y11)) rfl (by kernel_rfl) (by kernel_rfl)) 29 rfl ?_
          refine DE_0 9 (I (w64 ((w64 (Int.tdiv out4 e9)) * (w64 (e9 - y11))))) (by kernel_rfl) rfl rfl rfl (gsat_none rfl) (by kernel_rfl) (E_assign (I (w64 ((w64 (Int.tdiv out4 e9)) * (w64 (e9 - y11))))) rfl (by kernel_rfl)) 5 rfl ?_
          refine DL_nil (by kernel_rfl) ?_
          refine XL_nil ?_
          subst hout12
          kernel_rfl
        show V _ _ _ _
        obtain ⟨t13, ht13, h⟩ := of_sI h
        refine V_reg [false, false, false, true, false, true, false, false, false, false, false, false, false, false, false, true, true, true, false, false, false, false, false, false, false, false, false, false, false, false, false, false] [] (s1 := ⟨[.bot, .bot, .bot, I y2.1, .bot, I out12, .bot, .bot, .bot, .bot, .bot, .bot, .bot, .bot, .bot, .c (.sl (y3.map c3)), I ((y3.length : Int)), I t13, .bot, .bot, .bot, .bot, .bot, .bot, .bot, .bot, .bot, .bot, .bot, .bot, .bot, .bot], []⟩) ?_ ?_
        · refine XL_cons rfl (X_of_Y0 rfl (Y0_add64 (a := t5) (b := 1) rfl (by kernel_rfl) (by kernel_rfl))) ?_
          refine XL_cons rfl (X_of_Y0 rfl (E_move (I (w64 (t5 + 1))) rfl (by kernel_rfl))) ?_
          refine XL_nil ?_
          subst ht13
          kernel_rfl
        exact ⟨n, Nat.lt_succ_self n, _, _,  by rfl, h⟩
      · have h := of_false h hc8
        refine V_exit ?_
        obtain rfl := some_inj h
        show St.keep _ _ _ = _
        rfl
  show V _ _ _ _
  refine V_sreg [false, false, true, false, false, false, false, false, false, false, false, false, false, false, false, false, false, false, false, false, false, false, false, false, false, false, false, false, false, false, false, false] [] (s1 := ⟨[.bot, .bot, I o7, .bot, .bot, .bot, .bot, .bot, .bot, .bot, .bot, .bot, .bot, .bot, .bot, .bot, .bot, .bot, .bot, .bot, .bot, .bot, .bot, .bot, .bot, .bot, .bot, .bot, .bot, .bot, .bot, .bot], []⟩) ?_ ?_
  · refine XL_cons rfl (X_of_Y0 rfl (E_move (I o7) rfl (by kernel_rfl))) ?_
    refine XL_cons rfl (X_of_Y0 rfl (E_assign (I o7) rfl (by kernel_rfl))) ?_
    refine XL_nil ?_
    kernel_rfl
  refine V_ret ?_
  obtain rfl := some_inj h
  show Post _ _ _ _ _
  exact ⟨.inr rfl, rfl, rfl, rfl⟩
end Go.Proofs.Ytaegamgeljpboaa
