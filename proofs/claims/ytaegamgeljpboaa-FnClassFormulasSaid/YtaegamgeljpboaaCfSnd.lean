/-
  The functions of the program compute what the plain functions say: more of them.
  Conditions: none.
-/
import Derived.Test.YtaegamgeljpboaaCfSnd2
namespace Go.Proofs.Ytaegamgeljpboaa
open Go.RowKit
set_option linter.unusedVariables false
set_option linter.unusedSimpArgs false
theorem cf_spec_ClassNumberByConductor : ∀ args w, (callFunc 16 args).run Try.prog w = .ok (.enter 16 args) w := run_callFunc Try.func16 (by kernel_rfl) (by kernel_rfl)
set_option maxRecDepth 100000 in
set_option maxHeartbeats 400000 in
theorem s_spec_ClassNumberByConductor {d1 : Int} {r : (Int × Bool)} (h : r_spec_ClassNumberByConductor d1 = some r) : CallS Try.prog 16 [I d1] (.tc (I r.1) (.tc (Bo r.2) .tn)) [] := by
  refine CallS_of_text (rs := [.t 2, .t 3]) (vs := [.tmp 2, .tmp 3]) Try.func16 rfl rfl (.cons rfl (.cons rfl FitsL.nil)) (by decide) 26 rfl ?_
  unfold r_spec_ClassNumberByConductor at h
  show V _ _ ⟨[I d1, .bot, .bot, .bot, .bot, .bot, .bot, .bot, .bot, .bot, .bot, .bot, .bot, .bot, .bot, .bot, .bot, .bot, .bot, .bot, .bot, .bot, .bot, .bot, .bot, .bot], []⟩ _
  refine V_sreg [true, false, false, false, false, false, false, false, false, false, false, false, false, false, false, false, false, false, false, false, false, false, false, false, false, false] [] (s1 := ⟨[I d1, .bot, .bot, .bot, .bot, .bot, .bot, .bot, .bot, .bot, .bot, .bot, .bot, .bot, .bot, .bot, .bot, .bot, .bot, .bot, .bot, .bot, .bot, .bot, .bot, .bot], []⟩) ?_ ?_
  · refine XL_cons rfl (X_of_Y0 rfl (E_assign (I 0) rfl (by kernel_rfl))) ?_
    refine XL_cons rfl (X_of_Y0 rfl (E_assign (Bo false) rfl (by kernel_rfl))) ?_
    refine XL_nil ?_
    kernel_rfl
  refine V_seq ?_
  obtain ⟨y2, hy2, h⟩ := of_bind h
  refine V_sreg [true, false, false, false, false, false, false, false, true, false, false, false, false, false, false, false, false, false, false, false, false, false, false, false, false, false] [] (s1 := ⟨[I d1, .bot, .bot, .bot, .bot, .bot, .bot, .bot, Bo (!y2), .bot, .bot, .bot, .bot, .bot, .bot, .bot, .bot, .bot, .bot, .bot, .bot, .bot, .bot, .bot, .bot, .bot], []⟩) ?_ ?_
  · refine XL_cons rfl (X_of_Y0 rfl (E_move (I d1) rfl (by kernel_rfl))) ?_
    refine XL_cons rfl (X_of_Y1 rfl (Y1_call (s_spec_reDisc hy2) cf_spec_reDisc rfl (by kernel_rfl))) ?_
    refine XL_cons rfl (X_of_Y0 rfl (Y0_not (b := y2) rfl (by kernel_rfl))) ?_
    refine XL_nil ?_
    kernel_rfl
  refine V_cond rfl (fun hc3 => ?_) (fun hc3 => ?_)
  · have h := of_true h hc3
    refine V_sreg [false, false, true, true, false, false, false, false, false, false, false, false, false, false, false, false, false, false, false, false, false, false, false, false, false, false] [] (s1 := ⟨[.bot, .bot, I 0, Bo false, .bot, .bot, .bot, .bot, .bot, .bot, .bot, .bot, .bot, .bot, .bot, .bot, .bot, .bot, .bot, .bot, .bot, .bot, .bot, .bot, .bot, .bot], []⟩) ?_ ?_
    · refine XL_cons rfl (X_of_Y0 rfl (E_assign (I 0) rfl (by kernel_rfl))) ?_
      refine XL_cons rfl (X_of_Y0 rfl (E_assign (Bo false) rfl (by kernel_rfl))) ?_
      refine XL_nil ?_
      kernel_rfl
    refine V_ret ?_
    obtain rfl := some_inj h
    show Post _ _ _ _ _
    exact ⟨.inr rfl, rfl, rfl, rfl⟩
  · have h := of_false h hc3
    refine V_skip ?_
    show V _ _ _ _
    obtain ⟨y4, hy4, h⟩ := of_bind h
    refine V_sreg [true, false, false, false, true, false, false, false, false, false, false, false, false, false, false, false, false, false, false, false, false, false, false, false, false, false] [] (s1 := ⟨[I d1, .bot, .bot, .bot, I y4.1, .bot, .bot, .bot, .bot, .bot, .bot, .bot, .bot, .bot, .bot, .bot, .bot, .bot, .bot, .bot, .bot, .bot, .bot, .bot, .bot, .bot], []⟩) ?_ ?_
    · refine XL_cons rfl (X_of_Y0 rfl (E_move (I d1) rfl (by kernel_rfl))) ?_
      refine XL_cons rfl (X_of_Y1 rfl (Y1_call (s_spec_diSplit hy4) cf_spec_diSplit rfl (by kernel_rfl))) ?_
      refine XL_cons rfl (X_of_Y0 rfl (E_move (.tc (I y4.1) (.tc (I y4.2) .tn)) rfl (by kernel_rfl))) ?_
      refine XL_cons rfl (X_of_Y0 rfl (E_ext (n := 0) (I y4.1) (.tc (I y4.2) .tn) (I y4.1) rfl (by kernel_rfl) (by kernel_rfl) (by intro hh; cases hh))) ?_
      refine XL_cons rfl (X_of_Y0 rfl (E_ext (n := 1) (I y4.1) (.tc (I y4.2) .tn) (I y4.2) rfl (by kernel_rfl) (by kernel_rfl) (by intro hh; cases hh))) ?_
      refine XL_cons rfl (X_of_Y0 rfl (E_assign (I y4.1) rfl (by kernel_rfl))) ?_
      refine XL_cons rfl (X_of_Y0 rfl (E_assign (I y4.2) rfl (by kernel_rfl))) ?_
      refine XL_nil ?_
      kernel_rfl
    obtain ⟨y5, hy5, h⟩ := of_bind h
    obtain ⟨y6, hy6, h⟩ := of_bind h
    obtain ⟨y7, hy7, h⟩ := of_bind h
    obtain ⟨y8, hy8, h⟩ := of_bind h
    obtain ⟨z9, hz9, h⟩ := of_bind h
    obtain ⟨z10, hz10, h⟩ := of_bind h
    obtain ⟨t11, ht11, h⟩ := of_sI h
    refine V_sreg [false, false, true, true, false, false, false, false, false, false, false, false, false, false, false, false, false, false, false, false, false, false, false, false, false, false] [] (s1 := ⟨[.bot, .bot, I t11, Bo true, .bot, .bot, .bot, .bot, .bot, .bot, .bot, .bot, .bot, .bot, .bot, .bot, .bot, .bot, .bot, .bot, .bot, .bot, .bot, .bot, .bot, .bot], []⟩) ?_ ?_
    · refine XL_cons rfl (X_of_Y0 rfl (E_move (I y4.1) rfl (by kernel_rfl))) ?_
      refine XL_cons rfl (X_of_Y1 rfl (Y1_call (s_spec_reList hy5) cf_spec_reList rfl (by kernel_rfl))) ?_
      refine XL_cons rfl (X_of_Y0 rfl (Y0_lenM (c := c37) (xs := y5) Try.underlying31 rfl (by kernel_rfl))) ?_
      refine XL_cons rfl (X_of_Y0 rfl (E_move (I d1) rfl (by kernel_rfl))) ?_
      refine XL_cons rfl (X_of_Y1 rfl (Y1_call (s_spec_diFactor hy6) cf_spec_diFactor rfl (by kernel_rfl))) ?_
      refine XL_cons rfl (X_of_Y0 rfl (Y0_mul64 (a := (y5.length : Int)) (b := y6) rfl (by kernel_rfl) (by kernel_rfl))) ?_
      refine XL_cons rfl (X_of_Y0 rfl (E_move (I y4.1) rfl (by kernel_rfl))) ?_
      refine XL_cons rfl (X_of_Y1 rfl (Y1_call (s_spec_reUnits hy7) cf_spec_reUnits rfl (by kernel_rfl))) ?_
      refine XL_cons rfl (X_of_Y0 rfl (E_move (I d1) rfl (by kernel_rfl))) ?_
      refine XL_cons rfl (X_of_Y1 rfl (Y1_call (s_spec_reUnits hy8) cf_spec_reUnits rfl (by kernel_rfl))) ?_
      refine XL_cons rfl (X_of_Y0 rfl (Y0_quo64 (a := y7) (b := y8) rfl (by kernel_rfl) (by kernel_rfl) (nz_some hz9))) ?_
      refine XL_cons rfl (X_of_Y0 rfl (Y0_quo64 (a := w64 (((y5.length : Int)) * y6)) (b := w64 (Int.tdiv y7 y8)) rfl (by kernel_rfl) (by kernel_rfl) (nz_some hz10))) ?_
      refine XL_cons rfl (X_of_Y0 rfl (E_assign (I (w64 (Int.tdiv (w64 (((y5.length : Int)) * y6)) (w64 (Int.tdiv y7 y8))))) rfl (by kernel_rfl))) ?_
      refine XL_cons rfl (X_of_Y0 rfl (E_assign (Bo true) rfl (by kernel_rfl))) ?_
      refine XL_nil ?_
      subst ht11
      kernel_rfl
    refine V_ret ?_
    obtain rfl := some_inj h
    show Post _ _ _ _ _
    exact ⟨.inr rfl, rfl, rfl, rfl⟩
theorem cf_impl_divisors : ∀ args w, (callFunc 76 args).run Try.prog w = .ok (.enter 76 args) w := run_callFunc Try.func76 (by kernel_rfl) (by kernel_rfl)
set_option maxRecDepth 100000 in
set_option maxHeartbeats 400000 in
theorem s_impl_divisors {vn1 : Int} {r : List Int} (h : r_impl_divisors vn1 = some r) : CallS Try.prog 76 [I vn1] (.ow 0) [(0, .arr 3 1 (r.map c3))] := by
  refine CallS_of_text (rs := [.t 2]) (vs := [.tmp 2]) Try.func76 rfl rfl (.cons rfl FitsL.nil) (by decide) 50 rfl ?_
  unfold r_impl_divisors at h
  show V _ _ ⟨[I vn1, .bot, .bot, .bot, .bot, .bot, .bot, .bot, .bot, .bot, .bot, .bot, .bot, .bot, .bot, .bot, .bot, .bot, .bot, .bot, .bot, .bot, .bot, .bot, .bot, .bot, .bot, .bot, .bot, .bot, .bot, .bot, .bot, .bot, .bot, .bot, .bot, .bot, .bot, .bot, .bot, .bot, .bot, .bot, .bot, .bot, .bot, .bot, .bot, .bot], []⟩ _
  refine V_sreg [true, false, false, false, false, false, false, false, false, false, false, false, false, false, false, false, false, false, false, false, false, false, false, false, false, false, false, false, false, false, false, false, false, false, false, false, false, false, false, false, false, false, false, false, false, false, false, false, false, false] [] (s1 := ⟨[I vn1, .bot, .bot, .bot, .bot, .bot, .bot, .bot, .bot, .bot, .bot, .bot, .bot, .bot, .bot, .bot, .bot, .bot, .bot, .bot, .bot, .bot, .bot, .bot, .bot, .bot, .bot, .bot, .bot, .bot, .bot, .bot, .bot, .bot, .bot, .bot, .bot, .bot, .bot, .bot, .bot, .bot, .bot, .bot, .bot, .bot, .bot, .bot, .bot, .bot], []⟩) ?_ ?_
  · refine XL_cons rfl (X_of_Y1 rfl (Y1_nil (e := 3) 1 (by decide) (.inl rfl))) ?_
    refine XL_nil ?_
    kernel_rfl
  refine V_sreg [true, false, false, true, true, false, false, false, false, false, false, false, false, false, false, false, false, false, false, false, false, false, false, false, false, false, false, false, false, false, false, false, false, false, false, false, false, false, false, false, false, false, false, false, false, false, false, false, false, false] [64, 56] (s1 := ⟨[I vn1, .bot, .bot, .ow 56, .ow 64, .bot, .bot, .bot, .bot, .bot, .bot, .bot, .bot, .bot, .bot, .bot, .bot, .bot, .bot, .bot, .bot, .bot, .bot, .bot, .bot, .bot, .bot, .bot, .bot, .bot, .bot, .bot, .bot, .bot, .bot, .bot, .bot, .bot, .bot, .bot, .bot, .bot, .bot, .bot, .bot, .bot, .bot, .bot, .bot, .bot], [(64, .arr 3 1 ((([] : List Int)).map c3)), (56, .arr 3 1 ((([] : List Int)).map c3))]⟩) ?_ ?_
  · refine XL_cons rfl (X_of_Y1 rfl (Y1_bslice0 Try.underlying27 sz3 (by decide) rfl rfl)) ?_
    refine XL_cons rfl (X_of_Y1 rfl (Y1_bslice0 Try.underlying27 sz3 (by decide) rfl rfl)) ?_
    refine XL_cons rfl (X_of_Y0 rfl (E_assign (.ow 56) rfl (by kernel_rfl))) ?_
    refine XL_cons rfl (X_of_Y0 rfl (E_assign (.ow 64) rfl (by kernel_rfl))) ?_
    refine XL_nil ?_
    kernel_rfl
  refine V_seq ?_
  refine V_sreg [true, false, false, true, true, true, false, false, false, false, false, false, false, false, false, false, false, false, false, false, false, false, false, false, false, false, false, false, false, false, false, false, false, false, false, false, false, false, false, false, false, false, false, false, false, false, false, false, false, false] [64, 56] (s1 := ⟨[I vn1, .bot, .bot, .ow 56, .ow 64, I 1, .bot, .bot, .bot, .bot, .bot, .bot, .bot, .bot, .bot, .bot, .bot, .bot, .bot, .bot, .bot, .bot, .bot, .bot, .bot, .bot, .bot, .bot, .bot, .bot, .bot, .bot, .bot, .bot, .bot, .bot, .bot, .bot, .bot, .bot, .bot, .bot, .bot, .bot, .bot, .bot, .bot, .bot, .bot, .bot], [(64, .arr 3 1 ((([] : List Int)).map c3)), (56, .arr 3 1 ((([] : List Int)).map c3))]⟩) ?_ ?_
  · refine XL_cons rfl (X_of_Y0 rfl (E_assign (I 1) rfl (by kernel_rfl))) ?_
    refine XL_nil ?_
    kernel_rfl
  obtain ⟨o6, hLo6, h⟩ := of_bind h
  refine V_toK [false, false, false, true, true, false, false, false, false, false, false, false, false, false, false, false, false, false, false, false, false, false, false, false, false, false, false, false, false, false, false, false, false, false, false, false, false, false, false, false, false, false, false, false, false, false, false, false, false, false] [64, 56] (s1 := ⟨[.bot, .bot, .bot, .ow 56, .ow 64, .bot, .bot, .bot, .bot, .bot, .bot, .bot, .bot, .bot, .bot, .bot, .bot, .bot, .bot, .bot, .bot, .bot, .bot, .bot, .bot, .bot, .bot, .bot, .bot, .bot, .bot, .bot, .bot, .bot, .bot, .bot, .bot, .bot, .bot, .bot, .bot, .bot, .bot, .bot, .bot, .bot, .bot, .bot, .bot, .bot], [(64, .arr 3 1 (o6.1.map c3)), (56, .arr 3 1 (o6.2.map c3))]⟩) ?_ ?_
  · clear h
    refine V_block (V_loop (fun n s => ∃ (k2 : Int) (l3 : List Int) (l4 : List Int), s.keep [true, false, false, true, true, true, false, false, false, false, false, false, false, false, false, false, false, false, false, false, false, false, false, false, false, false, false, false, false, false, false, false, false, false, false, false, false, false, false, false, false, false, false, false, false, false, false, false, false, false] [64, 56] = (⟨[I vn1, .bot, .bot, .ow 56, .ow 64, I k2, .bot, .bot, .bot, .bot, .bot, .bot, .bot, .bot, .bot, .bot, .bot, .bot, .bot, .bot, .bot, .bot, .bot, .bot, .bot, .bot, .bot, .bot, .bot, .bot, .bot, .bot, .bot, .bot, .bot, .bot, .bot, .bot, .bot, .bot, .bot, .bot, .bot, .bot, .bot, .bot, .bot, .bot, .bot, .bot], [(64, .arr 3 1 (l3.map c3)), (56, .arr 3 1 (l4.map c3))]⟩ : St) ∧ r_impl_divisors_L5 vn1 n k2 l3 l4 = some o6) FU ⟨_, _, _,  by rfl, hLo6⟩ ?_)
    clear hLo6
    rintro n s ⟨k2, l3, l4, hs, h⟩
    refine V_keep _ _ hs ?_
    clear hs
    cases n with
    | zero => cases h
    | succ n =>
      rw [r_impl_divisors_L5] at h
      refine V_seq ?_
      refine V_sreg [true, false, false, true, true, true, false, false, false, false, false, false, false, true, false, false, false, false, false, false, false, false, false, false, false, false, false, false, false, false, false, false, false, false, false, false, false, false, false, false, false, false, false, false, false, false, false, false, false, false] [64, 56] (s1 := ⟨[I vn1, .bot, .bot, .ow 56, .ow 64, I k2, .bot, .bot, .bot, .bot, .bot, .bot, .bot, Bo (leI (w64 (k2 * k2)) vn1), .bot, .bot, .bot, .bot, .bot, .bot, .bot, .bot, .bot, .bot, .bot, .bot, .bot, .bot, .bot, .bot, .bot, .bot, .bot, .bot, .bot, .bot, .bot, .bot, .bot, .bot, .bot, .bot, .bot, .bot, .bot, .bot, .bot, .bot, .bot, .bot], [(64, .arr 3 1 (l3.map c3)), (56, .arr 3 1 (l4.map c3))]⟩) ?_ ?_
      · refine XL_cons rfl (X_of_Y0 rfl (E_move (I k2) rfl (by kernel_rfl))) ?_
        refine XL_cons rfl (X_of_Y0 rfl (E_move (I k2) rfl (by kernel_rfl))) ?_
        refine XL_cons rfl (X_of_Y0 rfl (Y0_mul64 (a := k2) (b := k2) rfl (by kernel_rfl) (by kernel_rfl))) ?_
        refine XL_cons rfl (X_of_Y0 rfl (E_move (I vn1) rfl (by kernel_rfl))) ?_
        refine XL_cons rfl (X_of_Y0 rfl (Y0_lew (k := .i64) (a := w64 (k2 * k2)) (b := vn1) rfl (by kernel_rfl) (by kernel_rfl))) ?_
        refine XL_nil ?_
        kernel_rfl
      refine V_cond rfl (fun hc7 => ?_) (fun hc7 => ?_)
      · have h := of_true h hc7
        refine V_skip ?_
        show V _ _ _ _
        refine V_seq ?_
        refine V_block ?_
        refine V_seq ?_
        obtain ⟨z8, hz8, h⟩ := of_bind h
        refine V_sreg [true, false, false, true, true, true, false, false, false, false, false, false, false, false, false, false, false, false, false, true, false, false, false, false, false, false, false, false, false, false, false, false, false, false, false, false, false, false, false, false, false, false, false, false, false, false, false, false, false, false] [64, 56] (s1 := ⟨[I vn1, .bot, .bot, .ow 56, .ow 64, I k2, .bot, .bot, .bot, .bot, .bot, .bot, .bot, .bot, .bot, .bot, .bot, .bot, .bot, Bo (!eqI (Int.tmod vn1 k2) 0), .bot, .bot, .bot, .bot, .bot, .bot, .bot, .bot, .bot, .bot, .bot, .bot, .bot, .bot, .bot, .bot, .bot, .bot, .bot, .bot, .bot, .bot, .bot, .bot, .bot, .bot, .bot, .bot, .bot, .bot], [(64, .arr 3 1 (l3.map c3)), (56, .arr 3 1 (l4.map c3))]⟩) ?_ ?_
        · refine XL_cons rfl (X_of_Y0 rfl (E_move (I vn1) rfl (by kernel_rfl))) ?_
          refine XL_cons rfl (X_of_Y0 rfl (E_move (I k2) rfl (by kernel_rfl))) ?_
          refine XL_cons rfl (X_of_Y0 rfl (Y0_rem (k := .i64) (a := vn1) (b := k2) rfl (by kernel_rfl) (by kernel_rfl) (nz_some hz8))) ?_
          refine XL_cons rfl (X_of_Y0 rfl (Y0_new (k := .i64) (a := Int.tmod vn1 k2) (b := 0) rfl (by kernel_rfl) (by kernel_rfl))) ?_
          refine XL_nil ?_
          kernel_rfl
        refine V_cond rfl (fun hc9 => ?_) (fun hc9 => ?_)
        · have h := of_true h hc9
          refine V_exit ?_
          show V _ _ _ _
          obtain ⟨k10, hk10, h⟩ := of_sI h
          refine V_reg [true, false, false, true, true, true, false, false, false, false, false, false, false, false, false, false, false, false, false, false, false, false, false, false, false, false, false, false, false, false, false, false, false, false, false, false, false, false, false, false, false, false, false, false, false, false, false, false, false, false] [64, 56] (s1 := ⟨[I vn1, .bot, .bot, .ow 56, .ow 64, I k10, .bot, .bot, .bot, .bot, .bot, .bot, .bot, .bot, .bot, .bot, .bot, .bot, .bot, .bot, .bot, .bot, .bot, .bot, .bot, .bot, .bot, .bot, .bot, .bot, .bot, .bot, .bot, .bot, .bot, .bot, .bot, .bot, .bot, .bot, .bot, .bot, .bot, .bot, .bot, .bot, .bot, .bot, .bot, .bot], [(64, .arr 3 1 (l3.map c3)), (56, .arr 3 1 (l4.map c3))]⟩) ?_ ?_
          · refine XL_cons rfl (X_of_Y0 rfl (E_move (I k2) rfl (by kernel_rfl))) ?_
            refine XL_cons rfl (X_of_Y0 rfl (Y0_add64 (a := k2) (b := 1) rfl (by kernel_rfl) (by kernel_rfl))) ?_
            refine XL_cons rfl (X_of_Y0 rfl (E_assign (I (w64 (k2 + 1))) rfl (by kernel_rfl))) ?_
            refine XL_nil ?_
            subst hk10
            kernel_rfl
          exact ⟨n, Nat.lt_succ_self n, _, _, _,  by rfl, h⟩
        · have h := of_false h hc9
          refine V_skip ?_
          show V _ _ _ _
          obtain ⟨u11, hu11, h⟩ := of_bind h
          refine V_sreg [true, false, false, true, true, true, false, false, false, false, false, false, false, false, false, false, false, false, false, false, false, false, false, false, false, false, false, false, false, false, false, false, false, false, false, false, false, false, false, false, false, false, false, false, false, false, false, false, false, false] [64, 56] (s1 := ⟨[I vn1, .bot, .bot, .ow 56, .ow 64, I k2, .bot, .bot, .bot, .bot, .bot, .bot, .bot, .bot, .bot, .bot, .bot, .bot, .bot, .bot, .bot, .bot, .bot, .bot, .bot, .bot, .bot, .bot, .bot, .bot, .bot, .bot, .bot, .bot, .bot, .bot, .bot, .bot, .bot, .bot, .bot, .bot, .bot, .bot, .bot, .bot, .bot, .bot, .bot, .bot], [(64, .arr 3 1 (l3.map c3)), (56, .arr 3 1 ((l4 ++ ([k2])).map c3))]⟩) ?_ ?_
          · refine XL_cons rfl (X_of_Y0 rfl (E_move (.ow 56) rfl (by kernel_rfl))) ?_
            refine XL_cons rfl (X_of_Y0 rfl (E_move (I k2) rfl (by kernel_rfl))) ?_
            refine XL_cons rfl (X_of_Y1 rfl (Y1_bslice (z := zv3) (els := [k2].map c3) Try.underlying27 iz3 rfl (by decide) rfl (by kernel_rfl) rfl (by simp [c3]) (by decide) (by decide))) ?_
            refine XL_cons rfl (X_appendM (c := c3) (xs := l4) (ys := [k2]) (id := 56) (z := zv3) rfl rfl Try.underlying27 izb3 rfl (by kernel_rfl) (by kernel_rfl) (by kernel_rfl) (fun _ => rfl) (by simp) (room_some hu11) (by decide)) ?_
            refine XL_cons rfl (X_of_Y0 rfl (E_assign (.ow 56) rfl (by kernel_rfl))) ?_
            refine XL_nil ?_
            kernel_rfl
          refine V_sreg [true, false, false, true, true, true, false, false, false, false, false, false, false, false, false, false, false, false, false, false, false, false, false, false, false, false, false, false, true, false, false, false, false, false, false, false, false, false, false, false, false, false, false, false, false, false, false, false, false, false] [64, 56] (s1 := ⟨[I vn1, .bot, .bot, .ow 56, .ow 64, I k2, .bot, .bot, .bot, .bot, .bot, .bot, .bot, .bot, .bot, .bot, .bot, .bot, .bot, .bot, .bot, .bot, .bot, .bot, .bot, .bot, .bot, .bot, Bo (!eqI (w64 (k2 * k2)) vn1), .bot, .bot, .bot, .bot, .bot, .bot, .bot, .bot, .bot, .bot, .bot, .bot, .bot, .bot, .bot, .bot, .bot, .bot, .bot, .bot, .bot], [(64, .arr 3 1 (l3.map c3)), (56, .arr 3 1 ((l4 ++ ([k2])).map c3))]⟩) ?_ ?_
          · refine XL_cons rfl (X_of_Y0 rfl (E_move (I k2) rfl (by kernel_rfl))) ?_
            refine XL_cons rfl (X_of_Y0 rfl (E_move (I k2) rfl (by kernel_rfl))) ?_
            refine XL_cons rfl (X_of_Y0 rfl (Y0_mul64 (a := k2) (b := k2) rfl (by kernel_rfl) (by kernel_rfl))) ?_
            refine XL_cons rfl (X_of_Y0 rfl (E_move (I vn1) rfl (by kernel_rfl))) ?_
            refine XL_cons rfl (X_of_Y0 rfl (Y0_new (k := .i64) (a := w64 (k2 * k2)) (b := vn1) rfl (by kernel_rfl) (by kernel_rfl))) ?_
            refine XL_nil ?_
            kernel_rfl
          refine V_cond rfl (fun hc12 => ?_) (fun hc12 => ?_)
          · have h := of_true h hc12
            obtain ⟨z13, hz13, h⟩ := of_bind h
            obtain ⟨u14, hu14, h⟩ := of_bind h
            refine V_reg [true, false, false, true, true, true, false, false, false, false, false, false, false, false, false, false, false, false, false, false, false, false, false, false, false, false, false, false, false, false, false, false, false, false, false, false, false, false, false, false, false, false, false, false, false, false, false, false, false, false] [64, 56] (s1 := ⟨[I vn1, .bot, .bot, .ow 56, .ow 64, I k2, .bot, .bot, .bot, .bot, .bot, .bot, .bot, .bot, .bot, .bot, .bot, .bot, .bot, .bot, .bot, .bot, .bot, .bot, .bot, .bot, .bot, .bot, .bot, .bot, .bot, .bot, .bot, .bot, .bot, .bot, .bot, .bot, .bot, .bot, .bot, .bot, .bot, .bot, .bot, .bot, .bot, .bot, .bot, .bot], [(64, .arr 3 1 ((l3 ++ ([w64 (Int.tdiv vn1 k2)])).map c3)), (56, .arr 3 1 ((l4 ++ ([k2])).map c3))]⟩) ?_ ?_
            · refine XL_cons rfl (X_of_Y0 rfl (E_move (.ow 64) rfl (by kernel_rfl))) ?_
              refine XL_cons rfl (X_of_Y0 rfl (E_move (I vn1) rfl (by kernel_rfl))) ?_
              refine XL_cons rfl (X_of_Y0 rfl (E_move (I k2) rfl (by kernel_rfl))) ?_
              refine XL_cons rfl (X_of_Y0 rfl (Y0_quo64 (a := vn1) (b := k2) rfl (by kernel_rfl) (by kernel_rfl) (nz_some hz13))) ?_
              refine XL_cons rfl (X_of_Y1 rfl (Y1_bslice (z := zv3) (els := [w64 (Int.tdiv vn1 k2)].map c3) Try.underlying27 iz3 rfl (by decide) rfl (by kernel_rfl) rfl (by simp [c3]) (by decide) (by decide))) ?_
              refine XL_cons rfl (X_appendM (c := c3) (xs := l3) (ys := [w64 (Int.tdiv vn1 k2)]) (id := 64) (z := zv3) rfl rfl Try.underlying27 izb3 rfl (by kernel_rfl) (by kernel_rfl) (by kernel_rfl) (fun _ => rfl) (by simp) (room_some hu14) (by decide)) ?_
              refine XL_cons rfl (X_of_Y0 rfl (E_assign (.ow 64) rfl (by kernel_rfl))) ?_
              refine XL_nil ?_
              kernel_rfl
            show V _ _ _ _
            obtain ⟨k15, hk15, h⟩ := of_sI h
            refine V_reg [true, false, false, true, true, true, false, false, false, false, false, false, false, false, false, false, false, false, false, false, false, false, false, false, false, false, false, false, false, false, false, false, false, false, false, false, false, false, false, false, false, false, false, false, false, false, false, false, false, false] [64, 56] (s1 := ⟨[I vn1, .bot, .bot, .ow 56, .ow 64, I k15, .bot, .bot, .bot, .bot, .bot, .bot, .bot, .bot, .bot, .bot, .bot, .bot, .bot, .bot, .bot, .bot, .bot, .bot, .bot, .bot, .bot, .bot, .bot, .bot, .bot, .bot, .bot, .bot, .bot, .bot, .bot, .bot, .bot, .bot, .bot, .bot, .bot, .bot, .bot, .bot, .bot, .bot, .bot, .bot], [(64, .arr 3 1 ((l3 ++ ([w64 (Int.tdiv vn1 k2)])).map c3)), (56, .arr 3 1 ((l4 ++ ([k2])).map c3))]⟩) ?_ ?_
            · refine XL_cons rfl (X_of_Y0 rfl (E_move (I k2) rfl (by kernel_rfl))) ?_
              refine XL_cons rfl (X_of_Y0 rfl (Y0_add64 (a := k2) (b := 1) rfl (by kernel_rfl) (by kernel_rfl))) ?_
              refine XL_cons rfl (X_of_Y0 rfl (E_assign (I (w64 (k2 + 1))) rfl (by kernel_rfl))) ?_
              refine XL_nil ?_
              subst hk15
              kernel_rfl
            exact ⟨n, Nat.lt_succ_self n, _, _, _,  by rfl, h⟩
          · have h := of_false h hc12
            refine V_skip ?_
            show V _ _ _ _
            obtain ⟨k16, hk16, h⟩ := of_sI h
            refine V_reg [true, false, false, true, true, true, false, false, false, false, false, false, false, false, false, false, false, false, false, false, false, false, false, false, false, false, false, false, false, false, false, false, false, false, false, false, false, false, false, false, false, false, false, false, false, false, false, false, false, false] [64, 56] (s1 := ⟨[I vn1, .bot, .bot, .ow 56, .ow 64, I k16, .bot, .bot, .bot, .bot, .bot, .bot, .bot, .bot, .bot, .bot, .bot, .bot, .bot, .bot, .bot, .bot, .bot, .bot, .bot, .bot, .bot, .bot, .bot, .bot, .bot, .bot, .bot, .bot, .bot, .bot, .bot, .bot, .bot, .bot, .bot, .bot, .bot, .bot, .bot, .bot, .bot, .bot, .bot, .bot], [(64, .arr 3 1 (l3.map c3)), (56, .arr 3 1 ((l4 ++ ([k2])).map c3))]⟩) ?_ ?_
            · refine XL_cons rfl (X_of_Y0 rfl (E_move (I k2) rfl (by kernel_rfl))) ?_
              refine XL_cons rfl (X_of_Y0 rfl (Y0_add64 (a := k2) (b := 1) rfl (by kernel_rfl) (by kernel_rfl))) ?_
              refine XL_cons rfl (X_of_Y0 rfl (E_assign (I (w64 (k2 + 1))) rfl (by kernel_rfl))) ?_
              refine XL_nil ?_
              subst hk16
              kernel_rfl
            exact ⟨n, Nat.lt_succ_self n, _, _, _,  by rfl, h⟩
      · have h := of_false h hc7
        refine V_exit ?_
        obtain rfl := some_inj h
        show St.keep _ _ _ = _
        rfl
  show V _ _ _ _
  refine V_seq ?_
  obtain ⟨i17, hi17, h⟩ := of_sI h
  refine V_sreg [false, false, false, true, true, false, true, false, false, false, false, false, false, false, false, false, false, false, false, false, false, false, false, false, false, false, false, false, false, false, false, false, false, false, false, false, false, false, false, false, false, false, false, false, false, false, false, false, false, false] [64, 56] (s1 := ⟨[.bot, .bot, .bot, .ow 56, .ow 64, .bot, I i17, .bot, .bot, .bot, .bot, .bot, .bot, .bot, .bot, .bot, .bot, .bot, .bot, .bot, .bot, .bot, .bot, .bot, .bot, .bot, .bot, .bot, .bot, .bot, .bot, .bot, .bot, .bot, .bot, .bot, .bot, .bot, .bot, .bot, .bot, .bot, .bot, .bot, .bot, .bot, .bot, .bot, .bot, .bot], [(64, .arr 3 1 (o6.1.map c3)), (56, .arr 3 1 (o6.2.map c3))]⟩) ?_ ?_
  · refine XL_cons rfl (X_of_Y0 rfl (E_move (.ow 64) rfl (by kernel_rfl))) ?_
    refine XL_cons rfl (X_of_Y0 rfl (Y0_lenM (c := c3) (xs := o6.1) Try.underlying27 rfl (by kernel_rfl))) ?_
    refine XL_cons rfl (X_of_Y0 rfl (Y0_sub64 (a := (o6.1.length : Int)) (b := 1) rfl (by kernel_rfl) (by kernel_rfl))) ?_
    refine XL_cons rfl (X_of_Y0 rfl (E_assign (I (w64 (((o6.1.length : Int)) - 1))) rfl (by kernel_rfl))) ?_
    refine XL_nil ?_
    subst hi17
    kernel_rfl
  obtain ⟨o21, hLo21, h⟩ := of_bind h
  refine V_toK [false, false, false, true, false, false, false, false, false, false, false, false, false, false, false, false, false, false, false, false, false, false, false, false, false, false, false, false, false, false, false, false, false, false, false, false, false, false, false, false, false, false, false, false, false, false, false, false, false, false] [56] (s1 := ⟨[.bot, .bot, .bot, .ow 56, .bot, .bot, .bot, .bot, .bot, .bot, .bot, .bot, .bot, .bot, .bot, .bot, .bot, .bot, .bot, .bot, .bot, .bot, .bot, .bot, .bot, .bot, .bot, .bot, .bot, .bot, .bot, .bot, .bot, .bot, .bot, .bot, .bot, .bot, .bot, .bot, .bot, .bot, .bot, .bot, .bot, .bot, .bot, .bot, .bot, .bot], [(56, .arr 3 1 (o21.map c3))]⟩) ?_ ?_
  · clear h
    refine V_block (V_loop (fun n s => ∃ (i18 : Int) (l19 : List Int), s.keep [false, false, false, true, true, false, true, false, false, false, false, false, false, false, false, false, false, false, false, false, false, false, false, false, false, false, false, false, false, false, false, false, false, false, false, false, false, false, false, false, false, false, false, false, false, false, false, false, false, false] [64, 56] = (⟨[.bot, .bot, .bot, .ow 56, .ow 64, .bot, I i18, .bot, .bot, .bot, .bot, .bot, .bot, .bot, .bot, .bot, .bot, .bot, .bot, .bot, .bot, .bot, .bot, .bot, .bot, .bot, .bot, .bot, .bot, .bot, .bot, .bot, .bot, .bot, .bot, .bot, .bot, .bot, .bot, .bot, .bot, .bot, .bot, .bot, .bot, .bot, .bot, .bot, .bot, .bot], [(64, .arr 3 1 (o6.1.map c3)), (56, .arr 3 1 (l19.map c3))]⟩ : St) ∧ r_impl_divisors_L20 o6 n i18 l19 = some o21) FU ⟨_, _,  by rfl, hLo21⟩ ?_)
    clear hLo21
    rintro n s ⟨i18, l19, hs, h⟩
    refine V_keep _ _ hs ?_
    clear hs
    cases n with
    | zero => cases h
    | succ n =>
      rw [r_impl_divisors_L20] at h
      refine V_seq ?_
      refine V_sreg [false, false, false, true, true, false, true, false, false, false, false, false, false, false, false, false, false, false, false, false, false, false, false, false, false, false, false, false, false, false, false, false, false, false, false, false, false, false, false, true, false, false, false, false, false, false, false, false, false, false] [64, 56] (s1 := ⟨[.bot, .bot, .bot, .ow 56, .ow 64, .bot, I i18, .bot, .bot, .bot, .bot, .bot, .bot, .bot, .bot, .bot, .bot, .bot, .bot, .bot, .bot, .bot, .bot, .bot, .bot, .bot, .bot, .bot, .bot, .bot, .bot, .bot, .bot, .bot, .bot, .bot, .bot, .bot, .bot, Bo (leI 0 i18), .bot, .bot, .bot, .bot, .bot, .bot, .bot, .bot, .bot, .bot], [(64, .arr 3 1 (o6.1.map c3)), (56, .arr 3 1 (l19.map c3))]⟩) ?_ ?_
      · refine XL_cons rfl (X_of_Y0 rfl (E_move (I i18) rfl (by kernel_rfl))) ?_
        refine XL_cons rfl (X_of_Y0 rfl (Y0_gew (k := .i64) (a := i18) (b := 0) rfl (by kernel_rfl) (by kernel_rfl))) ?_
        refine XL_nil ?_
        kernel_rfl
      refine V_cond rfl (fun hc22 => ?_) (fun hc22 => ?_)
      · have h := of_true h hc22
        refine V_skip ?_
        show V _ _ _ _
        refine V_seq ?_
        refine V_block ?_
        obtain ⟨e23, he23, h⟩ := of_bind h
        obtain ⟨e24, he24, h⟩ := of_bind h
        obtain ⟨u25, hu25, h⟩ := of_bind h
        refine V_reg [false, false, false, true, true, false, true, false, false, false, false, false, false, false, false, false, false, false, false, false, false, false, false, false, false, false, false, false, false, false, false, false, false, false, false, false, false, false, false, false, false, false, false, false, false, false, false, false, false, false] [64, 56] (s1 := ⟨[.bot, .bot, .bot, .ow 56, .ow 64, .bot, I i18, .bot, .bot, .bot, .bot, .bot, .bot, .bot, .bot, .bot, .bot, .bot, .bot, .bot, .bot, .bot, .bot, .bot, .bot, .bot, .bot, .bot, .bot, .bot, .bot, .bot, .bot, .bot, .bot, .bot, .bot, .bot, .bot, .bot, .bot, .bot, .bot, .bot, .bot, .bot, .bot, .bot, .bot, .bot], [(64, .arr 3 1 (o6.1.map c3)), (56, .arr 3 1 ((l19 ++ ([e24])).map c3))]⟩) ?_ ?_
        · refine XL_cons rfl (X_of_Y0 rfl (E_move (.ow 56) rfl (by kernel_rfl))) ?_
          refine XL_cons rfl (X_of_Y0 rfl (E_move (.ow 64) rfl (by kernel_rfl))) ?_
          refine XL_cons rfl (X_of_Y0 rfl (E_move (I i18) rfl (by kernel_rfl))) ?_
          refine XL_cons rfl (X_of_Y0 rfl (Y0_idxoM (c := c3) (xs := o6.1) (v := e23) (id := 64) (T := 3) (sz := 1) (n := i18) Try.underlying27 sz3 rfl (by kernel_rfl) (by kernel_rfl) (by kernel_rfl) he23)) ?_
          refine XL_cons rfl (X_of_Y0 rfl (Y0_loado1 (c := c3) (xs := o6.1) (v := e24) (id := 64) (sz := 1) (T := 3) (off := 0) (n := i18) (d := Ti e24) (ds := []) sc3 rfl (by kernel_rfl) (by kernel_rfl) he24 (by kernel_rfl))) ?_
          refine XL_cons rfl (X_of_Y1 rfl (Y1_bslice (z := zv3) (els := [e24].map c3) Try.underlying27 iz3 rfl (by decide) rfl (by kernel_rfl) rfl (by simp [c3]) (by decide) (by decide))) ?_
          refine XL_cons rfl (X_appendM (c := c3) (xs := l19) (ys := [e24]) (id := 56) (z := zv3) rfl rfl Try.underlying27 izb3 rfl (by kernel_rfl) (by kernel_rfl) (by kernel_rfl) (fun _ => rfl) (by simp) (room_some hu25) (by decide)) ?_
          refine XL_cons rfl (X_of_Y0 rfl (E_assign (.ow 56) rfl (by kernel_rfl))) ?_
          refine XL_nil ?_
          kernel_rfl
        show V _ _ _ _
        obtain ⟨i26, hi26, h⟩ := of_sI h
        refine V_reg [false, false, false, true, true, false, true, false, false, false, false, false, false, false, false, false, false, false, false, false, false, false, false, false, false, false, false, false, false, false, false, false, false, false, false, false, false, false, false, false, false, false, false, false, false, false, false, false, false, false] [64, 56] (s1 := ⟨[.bot, .bot, .bot, .ow 56, .ow 64, .bot, I i26, .bot, .bot, .bot, .bot, .bot, .bot, .bot, .bot, .bot, .bot, .bot, .bot, .bot, .bot, .bot, .bot, .bot, .bot, .bot, .bot, .bot, .bot, .bot, .bot, .bot, .bot, .bot, .bot, .bot, .bot, .bot, .bot, .bot, .bot, .bot, .bot, .bot, .bot, .bot, .bot, .bot, .bot, .bot], [(64, .arr 3 1 (o6.1.map c3)), (56, .arr 3 1 ((l19 ++ ([e24])).map c3))]⟩) ?_ ?_
        · refine XL_cons rfl (X_of_Y0 rfl (E_move (I i18) rfl (by kernel_rfl))) ?_
          refine XL_cons rfl (X_of_Y0 rfl (Y0_sub64 (a := i18) (b := 1) rfl (by kernel_rfl) (by kernel_rfl))) ?_
          refine XL_cons rfl (X_of_Y0 rfl (E_assign (I (w64 (i18 - 1))) rfl (by kernel_rfl))) ?_
          refine XL_nil ?_
          subst hi26
          kernel_rfl
        exact ⟨n, Nat.lt_succ_self n, _, _,  by rfl, h⟩
      · have h := of_false h hc22
        refine V_exit ?_
        obtain rfl := some_inj h
        show St.keep _ _ _ = _
        rfl
  show V _ _ _ _
  refine V_sreg [false, false, true, false, false, false, false, false, false, false, false, false, false, false, false, false, false, false, false, false, false, false, false, false, false, false, false, false, false, false, false, false, false, false, false, false, false, false, false, false, false, false, false, false, false, false, false, false, false, false] [56] (s1 := ⟨[.bot, .bot, .ow 56, .bot, .bot, .bot, .bot, .bot, .bot, .bot, .bot, .bot, .bot, .bot, .bot, .bot, .bot, .bot, .bot, .bot, .bot, .bot, .bot, .bot, .bot, .bot, .bot, .bot, .bot, .bot, .bot, .bot, .bot, .bot, .bot, .bot, .bot, .bot, .bot, .bot, .bot, .bot, .bot, .bot, .bot, .bot, .bot, .bot, .bot, .bot], [(56, .arr 3 1 (o21.map c3))]⟩) ?_ ?_
  · refine XL_cons rfl (X_of_Y0 rfl (E_move (.ow 56) rfl (by kernel_rfl))) ?_
    refine XL_cons rfl (X_of_Y0 rfl (E_assign (.ow 56) rfl (by kernel_rfl))) ?_
    refine XL_nil ?_
    kernel_rfl
  refine V_ret ?_
  obtain rfl := some_inj h
  show Post _ _ _ _ _
  exact ⟨.inr rfl, rfl, rfl, rfl⟩
theorem cf_impl_OrdersAbove : ∀ args w, (callFunc 17 args).run Try.prog w = .ok (.enter 17 args) w := run_callFunc Try.func17 (by kernel_rfl) (by kernel_rfl)
set_option maxRecDepth 100000 in
set_option maxHeartbeats 400000 in
theorem s_impl_OrdersAbove {d1 : Int} {r : ((List Int) × Bool)} (h : r_impl_OrdersAbove d1 = some r) : CallS Try.prog 17 [I d1] (.tc (.ow 0) (.tc (Bo r.2) .tn)) [(0, .arr 3 1 (r.1.map c3))] := by
  refine CallS_of_text (rs := [.t 2, .t 3]) (vs := [.tmp 2, .tmp 3]) Try.func17 rfl rfl (.cons rfl (.cons rfl FitsL.nil)) (by decide) 36 rfl ?_
  unfold r_impl_OrdersAbove at h
  show V _ _ ⟨[I d1, .bot, .bot, .bot, .bot, .bot, .bot, .bot, .bot, .bot, .bot, .bot, .bot, .bot, .bot, .bot, .bot, .bot, .bot, .bot, .bot, .bot, .bot, .bot, .bot, .bot, .bot, .bot, .bot, .bot, .bot, .bot, .bot, .bot, .bot, .bot], []⟩ _
  refine V_sreg [true, false, false, false, false, false, false, false, false, false, false, false, false, false, false, false, false, false, false, false, false, false, false, false, false, false, false, false, false, false, false, false, false, false, false, false] [] (s1 := ⟨[I d1, .bot, .bot, .bot, .bot, .bot, .bot, .bot, .bot, .bot, .bot, .bot, .bot, .bot, .bot, .bot, .bot, .bot, .bot, .bot, .bot, .bot, .bot, .bot, .bot, .bot, .bot, .bot, .bot, .bot, .bot, .bot, .bot, .bot, .bot, .bot], []⟩) ?_ ?_
  · refine XL_cons rfl (X_of_Y1 rfl (Y1_nil (e := 3) 1 (by decide) (.inl rfl))) ?_
    refine XL_cons rfl (X_of_Y0 rfl (E_assign (Bo false) rfl (by kernel_rfl))) ?_
    refine XL_nil ?_
    kernel_rfl
  refine V_seq ?_
  obtain ⟨y2, hy2, h⟩ := of_bind h
  refine V_sreg [true, false, false, false, false, false, false, false, false, false, false, true, false, false, false, false, false, false, false, false, false, false, false, false, false, false, false, false, false, false, false, false, false, false, false, false] [] (s1 := ⟨[I d1, .bot, .bot, .bot, .bot, .bot, .bot, .bot, .bot, .bot, .bot, Bo (!y2), .bot, .bot, .bot, .bot, .bot, .bot, .bot, .bot, .bot, .bot, .bot, .bot, .bot, .bot, .bot, .bot, .bot, .bot, .bot, .bot, .bot, .bot, .bot, .bot], []⟩) ?_ ?_
  · refine XL_cons rfl (X_of_Y0 rfl (E_move (I d1) rfl (by kernel_rfl))) ?_
    refine XL_cons rfl (X_of_Y1 rfl (Y1_call (s_impl_isNegativeDisc hy2) cf_impl_isNegativeDisc rfl (by kernel_rfl))) ?_
    refine XL_cons rfl (X_of_Y0 rfl (Y0_not (b := y2) rfl (by kernel_rfl))) ?_
    refine XL_nil ?_
    kernel_rfl
  refine V_cond rfl (fun hc3 => ?_) (fun hc3 => ?_)
  · have h := of_true h hc3
    refine V_sreg [false, false, true, true, false, false, false, false, false, false, false, false, false, false, false, false, false, false, false, false, false, false, false, false, false, false, false, false, false, false, false, false, false, false, false, false] [96] (s1 := ⟨[.bot, .bot, .ow 96, Bo false, .bot, .bot, .bot, .bot, .bot, .bot, .bot, .bot, .bot, .bot, .bot, .bot, .bot, .bot, .bot, .bot, .bot, .bot, .bot, .bot, .bot, .bot, .bot, .bot, .bot, .bot, .bot, .bot, .bot, .bot, .bot, .bot], [(96, .arr 3 1 ((([] : List Int)).map c3))]⟩) ?_ ?_
    · refine XL_cons rfl (X_of_Y1 rfl (Y1_bslice0 Try.underlying27 sz3 (by decide) rfl rfl)) ?_
      refine XL_cons rfl (X_of_Y0 rfl (E_assign (.ow 96) rfl (by kernel_rfl))) ?_
      refine XL_cons rfl (X_of_Y0 rfl (E_assign (Bo false) rfl (by kernel_rfl))) ?_
      refine XL_nil ?_
      kernel_rfl
    refine V_ret ?_
    obtain rfl := some_inj h
    show Post _ _ _ _ _
    exact ⟨.inr rfl, rfl, rfl, rfl⟩
  · have h := of_false h hc3
    refine V_skip ?_
    show V _ _ _ _
    obtain ⟨y4, hy4, h⟩ := of_bind h
    refine V_sreg [true, false, false, false, false, true, false, false, false, false, false, false, false, false, false, false, false, false, false, false, false, false, false, false, false, false, false, false, false, false, false, false, false, false, false, false] [] (s1 := ⟨[I d1, .bot, .bot, .bot, .bot, I y4.2, .bot, .bot, .bot, .bot, .bot, .bot, .bot, .bot, .bot, .bot, .bot, .bot, .bot, .bot, .bot, .bot, .bot, .bot, .bot, .bot, .bot, .bot, .bot, .bot, .bot, .bot, .bot, .bot, .bot, .bot], []⟩) ?_ ?_
    · refine XL_cons rfl (X_of_Y0 rfl (E_move (I d1) rfl (by kernel_rfl))) ?_
      refine XL_cons rfl (X_of_Y1 rfl (Y1_call (s_impl_fundamental hy4) cf_impl_fundamental rfl (by kernel_rfl))) ?_
      refine XL_cons rfl (X_of_Y0 rfl (E_move (.tc (I y4.1) (.tc (I y4.2) .tn)) rfl (by kernel_rfl))) ?_
      refine XL_cons rfl (X_of_Y0 rfl (E_ext (n := 0) (I y4.1) (.tc (I y4.2) .tn) (I y4.1) rfl (by kernel_rfl) (by kernel_rfl) (by intro hh; cases hh))) ?_
      refine XL_cons rfl (X_of_Y0 rfl (E_ext (n := 1) (I y4.1) (.tc (I y4.2) .tn) (I y4.2) rfl (by kernel_rfl) (by kernel_rfl) (by intro hh; cases hh))) ?_
      refine XL_cons rfl (X_of_Y0 rfl (E_assign (I y4.1) rfl (by kernel_rfl))) ?_
      refine XL_cons rfl (X_of_Y0 rfl (E_assign (I y4.2) rfl (by kernel_rfl))) ?_
      refine XL_nil ?_
      kernel_rfl
    refine V_sreg [true, false, false, false, false, true, true, false, false, false, false, false, false, false, false, false, false, false, false, false, false, false, false, false, false, false, false, false, false, false, false, false, false, false, false, false] [144] (s1 := ⟨[I d1, .bot, .bot, .bot, .bot, I y4.2, .ow 144, .bot, .bot, .bot, .bot, .bot, .bot, .bot, .bot, .bot, .bot, .bot, .bot, .bot, .bot, .bot, .bot, .bot, .bot, .bot, .bot, .bot, .bot, .bot, .bot, .bot, .bot, .bot, .bot, .bot], [(144, .arr 3 1 ((([] : List Int)).map c3))]⟩) ?_ ?_
    · refine XL_cons rfl (X_of_Y1 rfl (Y1_bslice0 Try.underlying27 sz3 (by decide) rfl rfl)) ?_
      refine XL_cons rfl (X_of_Y0 rfl (E_assign (.ow 144) rfl (by kernel_rfl))) ?_
      refine XL_nil ?_
      kernel_rfl
    refine V_seq ?_
    obtain ⟨y5, hy5, h⟩ := of_bind h
    refine V_sreg [true, false, false, false, false, false, true, false, false, false, false, false, false, false, false, false, false, false, false, false, true, true, true, false, false, false, false, false, false, false, false, false, false, false, false, false] [160, 144] (s1 := ⟨[I d1, .bot, .bot, .bot, .bot, .bot, .ow 144, .bot, .bot, .bot, .bot, .bot, .bot, .bot, .bot, .bot, .bot, .bot, .bot, .bot, .ow 160, I ((y5.length : Int)), I 0, .bot, .bot, .bot, .bot, .bot, .bot, .bot, .bot, .bot, .bot, .bot, .bot, .bot], [(160, .arr 3 1 (y5.map c3)), (144, .arr 3 1 ((([] : List Int)).map c3))]⟩) ?_ ?_
    · refine XL_cons rfl (X_of_Y0 rfl (E_move (I y4.2) rfl (by kernel_rfl))) ?_
      refine XL_cons rfl (X_of_Y1 rfl (Y1_call (s_impl_divisors hy5) cf_impl_divisors rfl (by kernel_rfl))) ?_
      refine XL_cons rfl (X_of_Y0 rfl (Y0_lenM (c := c3) (xs := y5) Try.underlying27 rfl (by kernel_rfl))) ?_
      refine XL_cons rfl (X_of_Y0 rfl (E_move (I 0) rfl (by kernel_rfl))) ?_
      refine XL_nil ?_
      kernel_rfl
    obtain ⟨o9, hLo9, h⟩ := of_bind h
    refine V_toK [false, false, false, false, false, false, true, false, false, false, false, false, false, false, false, false, false, false, false, false, false, false, false, false, false, false, false, false, false, false, false, false, false, false, false, false] [144] (s1 := ⟨[.bot, .bot, .bot, .bot, .bot, .bot, .ow 144, .bot, .bot, .bot, .bot, .bot, .bot, .bot, .bot, .bot, .bot, .bot, .bot, .bot, .bot, .bot, .bot, .bot, .bot, .bot, .bot, .bot, .bot, .bot, .bot, .bot, .bot, .bot, .bot, .bot], [(144, .arr 3 1 (o9.map c3))]⟩) ?_ ?_
    · clear h
      refine V_block (V_loop (fun n s => ∃ (t6 : Int) (l7 : List Int), s.keep [true, false, false, false, false, false, true, false, false, false, false, false, false, false, false, false, false, false, false, false, true, true, true, false, false, false, false, false, false, false, false, false, false, false, false, false] [160, 144] = (⟨[I d1, .bot, .bot, .bot, .bot, .bot, .ow 144, .bot, .bot, .bot, .bot, .bot, .bot, .bot, .bot, .bot, .bot, .bot, .bot, .bot, .ow 160, I ((y5.length : Int)), I t6, .bot, .bot, .bot, .bot, .bot, .bot, .bot, .bot, .bot, .bot, .bot, .bot, .bot], [(160, .arr 3 1 (y5.map c3)), (144, .arr 3 1 (l7.map c3))]⟩ : St) ∧ r_impl_OrdersAbove_L8 d1 y5 n t6 l7 = some o9) FU ⟨_, _,  by rfl, hLo9⟩ ?_)
      clear hLo9
      rintro n s ⟨t6, l7, hs, h⟩
      refine V_keep _ _ hs ?_
      clear hs
      cases n with
      | zero => cases h
      | succ n =>
        rw [r_impl_OrdersAbove_L8] at h
        refine V_sreg [true, false, false, false, false, false, true, false, false, false, false, false, false, false, false, false, false, false, false, false, true, true, true, true, false, false, false, false, false, false, false, false, false, false, false, false] [160, 144] (s1 := ⟨[I d1, .bot, .bot, .bot, .bot, .bot, .ow 144, .bot, .bot, .bot, .bot, .bot, .bot, .bot, .bot, .bot, .bot, .bot, .bot, .bot, .ow 160, I ((y5.length : Int)), I t6, Bo (ltI t6 ((y5.length : Int))), .bot, .bot, .bot, .bot, .bot, .bot, .bot, .bot, .bot, .bot, .bot, .bot], [(160, .arr 3 1 (y5.map c3)), (144, .arr 3 1 (l7.map c3))]⟩) ?_ ?_
        · refine XL_cons rfl (X_of_Y0 rfl (Y0_ltw (k := .i64) (a := t6) (b := (y5.length : Int)) rfl (by kernel_rfl) (by kernel_rfl))) ?_
          refine XL_nil ?_
          kernel_rfl
        refine V_seq ?_
        refine V_cond rfl (fun hc10 => ?_) (fun hc10 => ?_)
        · have h := of_true h hc10
          refine V_skip ?_
          show V _ _ _ _
          refine V_seq ?_
          refine V_block ?_
          obtain ⟨e11, he11, h⟩ := of_bind h
          obtain ⟨e12, he12, h⟩ := of_bind h
          refine V_sreg [true, false, false, false, false, false, true, false, true, false, false, false, false, false, false, false, false, false, false, false, true, true, true, false, false, false, false, false, false, false, false, false, false, false, false, false] [160, 144] (s1 := ⟨[I d1, .bot, .bot, .bot, .bot, .bot, .ow 144, .bot, I e12, .bot, .bot, .bot, .bot, .bot, .bot, .bot, .bot, .bot, .bot, .bot, .ow 160, I ((y5.length : Int)), I t6, .bot, .bot, .bot, .bot, .bot, .bot, .bot, .bot, .bot, .bot, .bot, .bot, .bot], [(160, .arr 3 1 (y5.map c3)), (144, .arr 3 1 (l7.map c3))]⟩) ?_ ?_
          · refine XL_cons rfl (X_of_Y0 rfl (Y0_idxoM (c := c3) (xs := y5) (v := e11) (id := 160) (T := 3) (sz := 1) (n := t6) Try.underlying27 sz3 rfl (by kernel_rfl) (by kernel_rfl) (by kernel_rfl) he11)) ?_
            refine XL_cons rfl (X_of_Y0 rfl (Y0_loado1 (c := c3) (xs := y5) (v := e12) (id := 160) (sz := 1) (T := 3) (off := 0) (n := t6) (d := Ti e12) (ds := []) sc3 rfl (by kernel_rfl) (by kernel_rfl) he12 (by kernel_rfl))) ?_
            refine XL_cons rfl (X_of_Y0 rfl (E_assign (I e12) rfl (by kernel_rfl))) ?_
            refine XL_nil ?_
            kernel_rfl
          obtain ⟨z13, hz13, h⟩ := of_bind h
          obtain ⟨u14, hu14, h⟩ := of_bind h
          refine V_reg [true, false, false, false, false, false, true, false, false, false, false, false, false, false, false, false, false, false, false, false, true, true, true, false, false, false, false, false, false, false, false, false, false, false, false, false] [160, 144] (s1 := ⟨[I d1, .bot, .bot, .bot, .bot, .bot, .ow 144, .bot, .bot, .bot, .bot, .bot, .bot, .bot, .bot, .bot, .bot, .bot, .bot, .bot, .ow 160, I ((y5.length : Int)), I t6, .bot, .bot, .bot, .bot, .bot, .bot, .bot, .bot, .bot, .bot, .bot, .bot, .bot], [(160, .arr 3 1 (y5.map c3)), (144, .arr 3 1 ((l7 ++ ([w64 (Int.tdiv d1 (w64 (e12 * e12)))])).map c3))]⟩) ?_ ?_
          · refine XL_cons rfl (X_of_Y0 rfl (E_move (.ow 144) rfl (by kernel_rfl))) ?_
            refine XL_cons rfl (X_of_Y0 rfl (E_move (I d1) rfl (by kernel_rfl))) ?_
            refine XL_cons rfl (X_of_Y0 rfl (E_move (I e12) rfl (by kernel_rfl))) ?_
            refine XL_cons rfl (X_of_Y0 rfl (E_move (I e12) rfl (by kernel_rfl))) ?_
            refine XL_cons rfl (X_of_Y0 rfl (Y0_mul64 (a := e12) (b := e12) rfl (by kernel_rfl) (by kernel_rfl))) ?_
            refine XL_cons rfl (X_of_Y0 rfl (Y0_quo64 (a := d1) (b := w64 (e12 * e12)) rfl (by kernel_rfl) (by kernel_rfl) (nz_some hz13))) ?_
            refine XL_cons rfl (X_of_Y1 rfl (Y1_bslice (z := zv3) (els := [w64 (Int.tdiv d1 (w64 (e12 * e12)))].map c3) Try.underlying27 iz3 rfl (by decide) rfl (by kernel_rfl) rfl (by simp [c3]) (by decide) (by decide))) ?_
            refine XL_cons rfl (X_appendM (c := c3) (xs := l7) (ys := [w64 (Int.tdiv d1 (w64 (e12 * e12)))]) (id := 144) (z := zv3) rfl rfl Try.underlying27 izb3 rfl (by kernel_rfl) (by kernel_rfl) (by kernel_rfl) (fun _ => rfl) (by simp) (room_some hu14) (by decide)) ?_
            refine XL_cons rfl (X_of_Y0 rfl (E_assign (.ow 144) rfl (by kernel_rfl))) ?_
            refine XL_nil ?_
            kernel_rfl
          show V _ _ _ _
          obtain ⟨t15, ht15, h⟩ := of_sI h
          refine V_reg [true, false, false, false, false, false, true, false, false, false, false, false, false, false, false, false, false, false, false, false, true, true, true, false, false, false, false, false, false, false, false, false, false, false, false, false] [160, 144] (s1 := ⟨[I d1, .bot, .bot, .bot, .bot, .bot, .ow 144, .bot, .bot, .bot, .bot, .bot, .bot, .bot, .bot, .bot, .bot, .bot, .bot, .bot, .ow 160, I ((y5.length : Int)), I t15, .bot, .bot, .bot, .bot, .bot, .bot, .bot, .bot, .bot, .bot, .bot, .bot, .bot], [(160, .arr 3 1 (y5.map c3)), (144, .arr 3 1 ((l7 ++ ([w64 (Int.tdiv d1 (w64 (e12 * e12)))])).map c3))]⟩) ?_ ?_
          · refine XL_cons rfl (X_of_Y0 rfl (Y0_add64 (a := t6) (b := 1) rfl (by kernel_rfl) (by kernel_rfl))) ?_
            refine XL_cons rfl (X_of_Y0 rfl (E_move (I (w64 (t6 + 1))) rfl (by kernel_rfl))) ?_
            refine XL_nil ?_
            subst ht15
            kernel_rfl
          exact ⟨n, Nat.lt_succ_self n, _, _,  by rfl, h⟩
        · have h := of_false h hc10
          refine V_exit ?_
          obtain rfl := some_inj h
          show St.keep _ _ _ = _
          rfl
    show V _ _ _ _
    refine V_sreg [false, false, true, true, false, false, false, false, false, false, false, false, false, false, false, false, false, false, false, false, false, false, false, false, false, false, false, false, false, false, false, false, false, false, false, false] [144] (s1 := ⟨[.bot, .bot, .ow 144, Bo true, .bot, .bot, .bot, .bot, .bot, .bot, .bot, .bot, .bot, .bot, .bot, .bot, .bot, .bot, .bot, .bot, .bot, .bot, .bot, .bot, .bot, .bot, .bot, .bot, .bot, .bot, .bot, .bot, .bot, .bot, .bot, .bot], [(144, .arr 3 1 (o9.map c3))]⟩) ?_ ?_
    · refine XL_cons rfl (X_of_Y0 rfl (E_move (.ow 144) rfl (by kernel_rfl))) ?_
      refine XL_cons rfl (X_of_Y0 rfl (E_assign (.ow 144) rfl (by kernel_rfl))) ?_
      refine XL_cons rfl (X_of_Y0 rfl (E_assign (Bo true) rfl (by kernel_rfl))) ?_
      refine XL_nil ?_
      kernel_rfl
    refine V_ret ?_
    obtain rfl := some_inj h
    show Post _ _ _ _ _
    exact ⟨.inr rfl, rfl, rfl, rfl⟩
theorem cf_impl_OverDiscriminants : ∀ args w, (callFunc 18 args).run Try.prog w = .ok (.enter 18 args) w := run_callFunc Try.func18 (by kernel_rfl) (by kernel_rfl)
set_option maxRecDepth 100000 in
set_option maxHeartbeats 400000 in
theorem s_impl_OverDiscriminants {d1 : Int} {r : ((List Int) × Bool)} (h : r_impl_OverDiscriminants d1 = some r) : CallS Try.prog 18 [I d1] (.tc (.ow 0) (.tc (Bo r.2) .tn)) [(0, .arr 3 1 (r.1.map c3))] := by
  refine CallS_of_text (rs := [.t 2, .t 3]) (vs := [.tmp 2, .tmp 3]) Try.func18 rfl rfl (.cons rfl (.cons rfl FitsL.nil)) (by decide) 8 rfl ?_
  unfold r_impl_OverDiscriminants at h
  show V _ _ ⟨[I d1, .bot, .bot, .bot, .bot, .bot, .bot, .bot], []⟩ _
  refine V_sreg [true, false, false, false, false, false, false, false] [] (s1 := ⟨[I d1, .bot, .bot, .bot, .bot, .bot, .bot, .bot], []⟩) ?_ ?_
  · refine XL_cons rfl (X_of_Y1 rfl (Y1_nil (e := 3) 1 (by decide) (.inl rfl))) ?_
    refine XL_cons rfl (X_of_Y0 rfl (E_assign (Bo false) rfl (by kernel_rfl))) ?_
    refine XL_nil ?_
    kernel_rfl
  obtain ⟨y2, hy2, h⟩ := of_bind h
  refine V_sreg [false, false, true, true, false, false, false, false] [40] (s1 := ⟨[.bot, .bot, .ow 40, Bo y2.2, .bot, .bot, .bot, .bot], [(40, .arr 3 1 (y2.1.map c3))]⟩) ?_ ?_
  · refine XL_cons rfl (X_of_Y0 rfl (E_move (I d1) rfl (by kernel_rfl))) ?_
    refine XL_cons rfl (X_of_Y1 rfl (Y1_call (s_impl_OrdersAbove hy2) cf_impl_OrdersAbove rfl (by kernel_rfl))) ?_
    refine XL_cons rfl (X_of_Y0 rfl (E_ext (n := 0) (.ow 40) (.tc (Bo y2.2) .tn) (.ow 40) rfl (by kernel_rfl) (by kernel_rfl) (by intro hh; cases hh))) ?_
    refine XL_cons rfl (X_of_Y0 rfl (E_ext (n := 1) (.ow 40) (.tc (Bo y2.2) .tn) (Bo y2.2) rfl (by kernel_rfl) (by kernel_rfl) (by intro hh; cases hh))) ?_
    refine XL_cons rfl (X_of_Y0 rfl (E_assign (.ow 40) rfl (by kernel_rfl))) ?_
    refine XL_cons rfl (X_of_Y0 rfl (E_assign (Bo y2.2) rfl (by kernel_rfl))) ?_
    refine XL_nil ?_
    kernel_rfl
  refine V_ret ?_
  obtain rfl := some_inj h
  show Post _ _ _ _ _
  exact ⟨.inr rfl, rfl, rfl, rfl⟩
theorem cf_laws_sameInts : ∀ args w, (callFunc 19 args).run Try.prog w = .ok (.enter 19 args) w := run_callFunc Try.func19 (by kernel_rfl) (by kernel_rfl)
set_option maxRecDepth 100000 in
set_option maxHeartbeats 400000 in
theorem s_laws_sameInts {a1 : List Int} {b2 : List Int} {r : Bool} (h : r_laws_sameInts a1 b2 = some r) : CallS Try.prog 19 [.c (.sl (a1.map c3)), .c (.sl (b2.map c3))] (Bo r) [] := by
  refine CallS_of_text (rs := [.t 4]) (vs := [.tmp 4]) Try.func19 rfl rfl (.cons rfl FitsL.nil) (by decide) 26 rfl ?_
  unfold r_laws_sameInts at h
  show V _ _ ⟨[.c (.sl (a1.map c3)), .c (.sl (b2.map c3)), .bot, .bot, .bot, .bot, .bot, .bot, .bot, .bot, .bot, .bot, .bot, .bot, .bot, .bot, .bot, .bot, .bot, .bot, .bot, .bot, .bot, .bot, .bot, .bot], []⟩ _
  refine V_sreg [true, true, false, false, false, false, false, false, false, false, false, false, false, false, false, false, false, false, false, false, false, false, false, false, false, false] [] (s1 := ⟨[.c (.sl (a1.map c3)), .c (.sl (b2.map c3)), .bot, .bot, .bot, .bot, .bot, .bot, .bot, .bot, .bot, .bot, .bot, .bot, .bot, .bot, .bot, .bot, .bot, .bot, .bot, .bot, .bot, .bot, .bot, .bot], []⟩) ?_ ?_
  · refine XL_cons rfl (X_of_Y0 rfl (E_assign (Bo false) rfl (by kernel_rfl))) ?_
    refine XL_nil ?_
    kernel_rfl
  refine V_seq ?_
  refine V_sreg [true, true, false, false, false, false, false, false, false, false, true, false, false, false, false, false, false, false, false, false, false, false, false, false, false, false] [] (s1 := ⟨[.c (.sl (a1.map c3)), .c (.sl (b2.map c3)), .bot, .bot, .bot, .bot, .bot, .bot, .bot, .bot, Bo (!eqI ((a1.length : Int)) ((b2.length : Int))), .bot, .bot, .bot, .bot, .bot, .bot, .bot, .bot, .bot, .bot, .bot, .bot, .bot, .bot, .bot], []⟩) ?_ ?_
  · refine XL_cons rfl (X_of_Y0 rfl (E_move (.c (.sl (a1.map c3))) rfl (by kernel_rfl))) ?_
    refine XL_cons rfl (X_of_Y0 rfl (Y0_lenM (c := c3) (xs := a1) Try.underlying27 rfl (by kernel_rfl))) ?_
    refine XL_cons rfl (X_of_Y0 rfl (E_move (.c (.sl (b2.map c3))) rfl (by kernel_rfl))) ?_
    refine XL_cons rfl (X_of_Y0 rfl (Y0_lenM (c := c3) (xs := b2) Try.underlying27 rfl (by kernel_rfl))) ?_
    refine XL_cons rfl (X_of_Y0 rfl (Y0_new (k := .i64) (a := (a1.length : Int)) (b := (b2.length : Int)) rfl (by kernel_rfl) (by kernel_rfl))) ?_
    refine XL_nil ?_
    kernel_rfl
  refine V_cond rfl (fun hc3 => ?_) (fun hc3 => ?_)
  · have h := of_true h hc3
    refine V_sreg [false, false, false, false, true, false, false, false, false, false, false, false, false, false, false, false, false, false, false, false, false, false, false, false, false, false] [] (s1 := ⟨[.bot, .bot, .bot, .bot, Bo false, .bot, .bot, .bot, .bot, .bot, .bot, .bot, .bot, .bot, .bot, .bot, .bot, .bot, .bot, .bot, .bot, .bot, .bot, .bot, .bot, .bot], []⟩) ?_ ?_
    · refine XL_cons rfl (X_of_Y0 rfl (E_assign (Bo false) rfl (by kernel_rfl))) ?_
      refine XL_nil ?_
      kernel_rfl
    refine V_ret ?_
    obtain rfl := some_inj h
    show Post _ _ _ _ _
    exact ⟨.inr rfl, rfl, rfl, rfl⟩
  · have h := of_false h hc3
    refine V_skip ?_
    show V _ _ _ _
    refine V_seq ?_
    refine V_sreg [true, true, false, false, false, false, false, false, false, false, false, false, true, true, false, false, false, false, false, false, false, false, false, false, false, false] [] (s1 := ⟨[.c (.sl (a1.map c3)), .c (.sl (b2.map c3)), .bot, .bot, .bot, .bot, .bot, .bot, .bot, .bot, .bot, .bot, I ((a1.length : Int)), I 0, .bot, .bot, .bot, .bot, .bot, .bot, .bot, .bot, .bot, .bot, .bot, .bot], []⟩) ?_ ?_
    · refine XL_cons rfl (X_of_Y0 rfl (E_move (.c (.sl (a1.map c3))) rfl (by kernel_rfl))) ?_
      refine XL_cons rfl (X_of_Y0 rfl (Y0_lenM (c := c3) (xs := a1) Try.underlying27 rfl (by kernel_rfl))) ?_
      refine XL_cons rfl (X_of_Y0 rfl (E_move (I 0) rfl (by kernel_rfl))) ?_
      refine XL_nil ?_
      kernel_rfl
    obtain ⟨qo6, hLo6, hko6⟩ := of_bind h
    refine V_toS (q := qo6) (S := fun o6 => ⟨[.bot, .bot, .bot, .bot, .bot, .bot, .bot, .bot, .bot, .bot, .bot, .bot, .bot, .bot, .bot, .bot, .bot, .bot, .bot, .bot, .bot, .bot, .bot, .bot, .bot, .bot], []⟩) [false, false, false, false, false, false, false, false, false, false, false, false, false, false, false, false, false, false, false, false, false, false, false, false, false, false] [] ?_ ?_
    · refine V_block (V_loop (fun n s => ∃ (t4 : Int), s.keep [true, true, false, false, false, false, false, false, false, false, false, false, true, true, false, false, false, false, false, false, false, false, false, false, false, false] [] = (⟨[.c (.sl (a1.map c3)), .c (.sl (b2.map c3)), .bot, .bot, .bot, .bot, .bot, .bot, .bot, .bot, .bot, .bot, I ((a1.length : Int)), I t4, .bot, .bot, .bot, .bot, .bot, .bot, .bot, .bot, .bot, .bot, .bot, .bot], []⟩ : St) ∧ r_laws_sameInts_L5 a1 b2 n t4 = some qo6) FU ⟨_,  by rfl, hLo6⟩ ?_)
      clear hLo6
      rintro n s ⟨t4, hs, h⟩
      refine V_keep _ _ hs ?_
      clear hs
      cases n with
      | zero => cases h
      | succ n =>
        rw [r_laws_sameInts_L5] at h
        refine V_sreg [true, true, false, false, false, false, false, false, false, false, false, false, true, true, true, false, false, false, false, false, false, false, false, false, false, false] [] (s1 := ⟨[.c (.sl (a1.map c3)), .c (.sl (b2.map c3)), .bot, .bot, .bot, .bot, .bot, .bot, .bot, .bot, .bot, .bot, I ((a1.length : Int)), I t4, Bo (ltI t4 ((a1.length : Int))), .bot, .bot, .bot, .bot, .bot, .bot, .bot, .bot, .bot, .bot, .bot], []⟩) ?_ ?_
        · refine XL_cons rfl (X_of_Y0 rfl (Y0_ltw (k := .i64) (a := t4) (b := (a1.length : Int)) rfl (by kernel_rfl) (by kernel_rfl))) ?_
          refine XL_nil ?_
          kernel_rfl
        refine V_seq ?_
        refine V_cond rfl (fun hc7 => ?_) (fun hc7 => ?_)
        · have h := of_true h hc7
          refine V_skip ?_
          show V _ _ _ _
          refine V_seq ?_
          refine V_block ?_
          refine V_sreg [true, true, false, false, false, true, false, false, false, false, false, false, true, true, false, false, false, false, false, false, false, false, false, false, false, false] [] (s1 := ⟨[.c (.sl (a1.map c3)), .c (.sl (b2.map c3)), .bot, .bot, .bot, I t4, .bot, .bot, .bot, .bot, .bot, .bot, I ((a1.length : Int)), I t4, .bot, .bot, .bot, .bot, .bot, .bot, .bot, .bot, .bot, .bot, .bot, .bot], []⟩) ?_ ?_
          · refine XL_cons rfl (X_of_Y0 rfl (E_move (I t4) rfl (by kernel_rfl))) ?_
            refine XL_cons rfl (X_of_Y0 rfl (E_assign (I t4) rfl (by kernel_rfl))) ?_
            refine XL_nil ?_
            kernel_rfl
          obtain ⟨e8, he8, h⟩ := of_bind h
          obtain ⟨e9, he9, h⟩ := of_bind h
          refine V_sdreg [0, 0, 3, 7, 0, 0, 48, 112, 255] 9 [[.z, .b, .z, .z, .b, .b, .b, .b, .z], [.b, .z, .z, .z, .b, .b, .b, .b, .z], [.a, .a, .z, .z, .b, .b, .b, .b, .z], [.a, .a, .a, .z, .b, .b, .b, .b, .z], [.b, .b, .b, .b, .z, .b, .z, .z, .z], [.b, .b, .b, .b, .b, .z, .z, .z, .z], [.b, .b, .b, .b, .a, .a, .z, .z, .z], [.b, .b, .b, .b, .a, .a, .a, .z, .z], [.a, .a, .a, .a, .a, .a, .a, .a, .z]] [true, true, false, false, false, false, false, false, false, false, false, false, true, true, false, false, false, false, false, false, false, false, false, false, true, false] [] (s1 := ⟨[.c (.sl (a1.map c3)), .c (.sl (b2.map c3)), .bot, .bot, .bot, .bot, .bot, .bot, .bot, .bot, .bot, .bot, I ((a1.length : Int)), I t4, .bot, .bot, .bot, .bot, .bot, .bot, .bot, .bot, .bot, .bot, Bo (!eqI e8 e9), .bot], []⟩) (by kernel_rfl) (by kernel_rfl) ?_ ?_
          · refine DE_0 0 (.c (.sl (a1.map c3))) (by kernel_rfl) rfl rfl rfl (gsat_none rfl) (by kernel_rfl) (E_move (.c (.sl (a1.map c3))) rfl (by kernel_rfl)) 16 rfl ?_
            refine DE_0 1 (I t4) (by kernel_rfl) rfl rfl rfl (gsat_none rfl) (by kernel_rfl) (E_move (I t4) rfl (by kernel_rfl)) 17 rfl ?_
            refine DE_0 2 (.pe [Ti e8]) (by kernel_rfl) rfl rfl rfl (gsat_none rfl) (by kernel_rfl) (Y0_idxM (c := c3) (xs := a1) (v := e8) (n := t4) Try.underlying27 sz3 rfl (by kernel_rfl) (by kernel_rfl) he8) 18 rfl ?_
            refine DE_0 3 (I e8) (by kernel_rfl) rfl rfl rfl (gsat_none rfl) (by kernel_rfl) (Y0_load1 (c := Ti e8) (cs := []) sc3 rfl (by kernel_rfl)) 19 rfl ?_
            refine DE_0 4 (.c (.sl (b2.map c3))) (by kernel_rfl) rfl rfl rfl (gsat_none rfl) (by kernel_rfl) (E_move (.c (.sl (b2.map c3))) rfl (by kernel_rfl)) 20 rfl ?_
            refine DE_0 5 (I t4) (by kernel_rfl) rfl rfl rfl (gsat_none rfl) (by kernel_rfl) (E_move (I t4) rfl (by kernel_rfl)) 21 rfl ?_
            refine DE_0 6 (.pe [Ti e9]) (by kernel_rfl) rfl rfl rfl (gsat_none rfl) (by kernel_rfl) (Y0_idxM (c := c3) (xs := b2) (v := e9) (n := t4) Try.underlying27 sz3 rfl (by kernel_rfl) (by kernel_rfl) he9) 22 rfl ?_
            refine DE_0 7 (I e9) (by kernel_rfl) rfl rfl rfl (gsat_none rfl) (by kernel_rfl) (Y0_load1 (c := Ti e9) (cs := []) sc3 rfl (by kernel_rfl)) 23 rfl ?_
            refine DE_0 8 (Bo (!eqI e8 e9)) (by kernel_rfl) rfl rfl rfl (gsat_none rfl) (by kernel_rfl) (Y0_new (k := .i64) (a := e8) (b := e9) rfl (by kernel_rfl) (by kernel_rfl)) 24 rfl ?_
            refine DL_nil (by kernel_rfl) ?_
            refine XL_nil ?_
            kernel_rfl
          refine V_cond rfl (fun hc10 => ?_) (fun hc10 => ?_)
          · have h := of_true h hc10
            refine V_sreg [false, false, false, false, true, false, false, false, false, false, false, false, false, false, false, false, false, false, false, false, false, false, false, false, false, false] [] (s1 := ⟨[.bot, .bot, .bot, .bot, Bo false, .bot, .bot, .bot, .bot, .bot, .bot, .bot, .bot, .bot, .bot, .bot, .bot, .bot, .bot, .bot, .bot, .bot, .bot, .bot, .bot, .bot], []⟩) ?_ ?_
            · refine XL_cons rfl (X_of_Y0 rfl (E_assign (Bo false) rfl (by kernel_rfl))) ?_
              refine XL_nil ?_
              kernel_rfl
            refine V_ret ?_
            obtain rfl := some_inj h
            have h := hko6
            obtain rfl := some_inj h
            show Post _ _ _ _ _
            exact ⟨.inr rfl, rfl, rfl, rfl⟩
          · have h := of_false h hc10
            refine V_skip ?_
            show V _ _ _ _
            obtain ⟨t11, ht11, h⟩ := of_sI h
            refine V_reg [true, true, false, false, false, false, false, false, false, false, false, false, true, true, false, false, false, false, false, false, false, false, false, false, false, false] [] (s1 := ⟨[.c (.sl (a1.map c3)), .c (.sl (b2.map c3)), .bot, .bot, .bot, .bot, .bot, .bot, .bot, .bot, .bot, .bot, I ((a1.length : Int)), I t11, .bot, .bot, .bot, .bot, .bot, .bot, .bot, .bot, .bot, .bot, .bot, .bot], []⟩) ?_ ?_
            · refine XL_cons rfl (X_of_Y0 rfl (Y0_add64 (a := t4) (b := 1) rfl (by kernel_rfl) (by kernel_rfl))) ?_
              refine XL_cons rfl (X_of_Y0 rfl (E_move (I (w64 (t4 + 1))) rfl (by kernel_rfl))) ?_
              refine XL_nil ?_
              subst ht11
              kernel_rfl
            exact ⟨n, Nat.lt_succ_self n, _,  by rfl, h⟩
        · have h := of_false h hc7
          refine V_exit ?_
          obtain rfl := some_inj h
          exact ⟨_, rfl, by rfl⟩
    rintro o6 rfl
    have h := hko6
    clear hko6
    show V _ _ _ _
    refine V_sreg [false, false, false, false, true, false, false, false, false, false, false, false, false, false, false, false, false, false, false, false, false, false, false, false, false, false] [] (s1 := ⟨[.bot, .bot, .bot, .bot, Bo true, .bot, .bot, .bot, .bot, .bot, .bot, .bot, .bot, .bot, .bot, .bot, .bot, .bot, .bot, .bot, .bot, .bot, .bot, .bot, .bot, .bot], []⟩) ?_ ?_
    · refine XL_cons rfl (X_of_Y0 rfl (E_assign (Bo true) rfl (by kernel_rfl))) ?_
      refine XL_nil ?_
      kernel_rfl
    refine V_ret ?_
    obtain rfl := some_inj h
    show Post _ _ _ _ _
    exact ⟨.inr rfl, rfl, rfl, rfl⟩
theorem cf_laws_FnClassFormulas : ∀ args w, (callFunc 3 args).run Try.prog w = .ok (.enter 3 args) w := run_callFunc Try.func3 (by kernel_rfl) (by kernel_rfl)
set_option maxRecDepth 100000 in
set_option maxHeartbeats 400000 in
theorem s_laws_FnClassFormulas {code1 : List Int} {more2 : List Int} {r : Bool} (h : r_laws_FnClassFormulas code1 more2 = some r) : CallS Try.prog 3 [.c (.sl (code1.map c5)), .c (.sl (more2.map c5))] (Bo r) [] := by
  refine CallS_of_text (rs := [.t 4]) (vs := [.tmp 4]) Try.func3 rfl rfl (.cons rfl FitsL.nil) (by decide) 133 rfl ?_
  unfold r_laws_FnClassFormulas at h
  show V _ _ ⟨[.c (.sl (code1.map c5)), .c (.sl (more2.map c5)), .bot, .bot, .bot, .bot, .bot, .bot, .bot, .bot, .bot, .bot, .bot, .bot, .bot, .bot, .bot, .bot, .bot, .bot, .bot, .bot, .bot, .bot, .bot, .bot, .bot, .bot, .bot, .bot, .bot, .bot, .bot, .bot, .bot, .bot, .bot, .bot, .bot, .bot, .bot, .bot, .bot, .bot, .bot, .bot, .bot, .bot, .bot, .bot, .bot, .bot, .bot, .bot, .bot, .bot, .bot, .bot, .bot, .bot, .bot, .bot, .bot, .bot, .bot, .bot, .bot, .bot, .bot, .bot, .bot, .bot, .bot, .bot, .bot, .bot, .bot, .bot, .bot, .bot, .bot, .bot, .bot, .bot, .bot, .bot, .bot, .bot, .bot, .bot, .bot, .bot, .bot, .bot, .bot, .bot, .bot, .bot, .bot, .bot, .bot, .bot, .bot, .bot, .bot, .bot, .bot, .bot, .bot, .bot, .bot, .bot, .bot, .bot, .bot, .bot, .bot, .bot, .bot, .bot, .bot, .bot, .bot, .bot, .bot, .bot, .bot, .bot, .bot, .bot, .bot, .bot, .bot], []⟩ _
  refine V_sreg [true, true, false, false, false, false, false, false, false, false, false, false, false, false, false, false, false, false, false, false, false, false, false, false, false, false, false, false, false, false, false, false, false, false, false, false, false, false, false, false, false, false, false, false, false, false, false, false, false, false, false, false, false, false, false, false, false, false, false, false, false, false, false, false, false, false, false, false, false, false, false, false, false, false, false, false, false, false, false, false, false, false, false, false, false, false, false, false, false, false, false, false, false, false, false, false, false, false, false, false, false, false, false, false, false, false, false, false, false, false, false, false, false, false, false, false, false, false, false, false, false, false, false, false, false, false, false, false, false, false, false, false, false] [] (s1 := ⟨[.c (.sl (code1.map c5)), .c (.sl (more2.map c5)), .bot, .bot, .bot, .bot, .bot, .bot, .bot, .bot, .bot, .bot, .bot, .bot, .bot, .bot, .bot, .bot, .bot, .bot, .bot, .bot, .bot, .bot, .bot, .bot, .bot, .bot, .bot, .bot, .bot, .bot, .bot, .bot, .bot, .bot, .bot, .bot, .bot, .bot, .bot, .bot, .bot, .bot, .bot, .bot, .bot, .bot, .bot, .bot, .bot, .bot, .bot, .bot, .bot, .bot, .bot, .bot, .bot, .bot, .bot, .bot, .bot, .bot, .bot, .bot, .bot, .bot, .bot, .bot, .bot, .bot, .bot, .bot, .bot, .bot, .bot, .bot, .bot, .bot, .bot, .bot, .bot, .bot, .bot, .bot, .bot, .bot, .bot, .bot, .bot, .bot, .bot, .bot, .bot, .bot, .bot, .bot, .bot, .bot, .bot, .bot, .bot, .bot, .bot, .bot, .bot, .bot, .bot, .bot, .bot, .bot, .bot, .bot, .bot, .bot, .bot, .bot, .bot, .bot, .bot, .bot, .bot, .bot, .bot, .bot, .bot, .bot, .bot, .bot, .bot, .bot, .bot], []⟩) ?_ ?_
  · refine XL_cons rfl (X_of_Y0 rfl (E_assign (Bo false) rfl (by kernel_rfl))) ?_
    refine XL_nil ?_
    kernel_rfl
  refine V_seq ?_
  obtain ⟨y3, hy3, h⟩ := of_bind h
  refine V_sreg [true, true, false, false, false, false, false, false, false, false, false, false, false, false, false, false, false, false, false, false, false, false, false, false, false, false, false, true, false, false, false, false, false, false, false, false, false, false, false, false, false, false, false, false, false, false, false, false, false, false, false, false, false, false, false, false, false, false, false, false, false, false, false, false, false, false, false, false, false, false, false, false, false, false, false, false, false, false, false, false, false, false, false, false, false, false, false, false, false, false, false, false, false, false, false, false, false, false, false, false, false, false, false, false, false, false, false, false, false, false, false, false, false, false, false, false, false, false, false, false, false, false, false, false, false, false, false, false, false, false, false, false, false] [] (s1 := ⟨[.c (.sl (code1.map c5)), .c (.sl (more2.map c5)), .bot, .bot, .bot, .bot, .bot, .bot, .bot, .bot, .bot, .bot, .bot, .bot, .bot, .bot, .bot, .bot, .bot, .bot, .bot, .bot, .bot, .bot, .bot, .bot, .bot, Bo y3, .bot, .bot, .bot, .bot, .bot, .bot, .bot, .bot, .bot, .bot, .bot, .bot, .bot, .bot, .bot, .bot, .bot, .bot, .bot, .bot, .bot, .bot, .bot, .bot, .bot, .bot, .bot, .bot, .bot, .bot, .bot, .bot, .bot, .bot, .bot, .bot, .bot, .bot, .bot, .bot, .bot, .bot, .bot, .bot, .bot, .bot, .bot, .bot, .bot, .bot, .bot, .bot, .bot, .bot, .bot, .bot, .bot, .bot, .bot, .bot, .bot, .bot, .bot, .bot, .bot, .bot, .bot, .bot, .bot, .bot, .bot, .bot, .bot, .bot, .bot, .bot, .bot, .bot, .bot, .bot, .bot, .bot, .bot, .bot, .bot, .bot, .bot, .bot, .bot, .bot, .bot, .bot, .bot, .bot, .bot, .bot, .bot, .bot, .bot, .bot, .bot, .bot, .bot, .bot, .bot], []⟩) ?_ ?_
  · refine XL_cons rfl (X_of_Y0 rfl (E_move (.c (.sl (code1.map c5))) rfl (by kernel_rfl))) ?_
    refine XL_cons rfl (X_of_Y0 rfl (E_move (.c (.sl (more2.map c5))) rfl (by kernel_rfl))) ?_
    refine XL_cons rfl (X_of_Y1 rfl (Y1_call (s_laws_big hy3) cf_laws_big rfl (by kernel_rfl))) ?_
    refine XL_nil ?_
    kernel_rfl
  refine V_cond rfl (fun hc4 => ?_) (fun hc4 => ?_)
  · have h := of_true h hc4
    refine V_sreg [false, false, false, false, true, false, false, false, false, false, false, false, false, false, false, false, false, false, false, false, false, false, false, false, false, false, false, false, false, false, false, false, false, false, false, false, false, false, false, false, false, false, false, false, false, false, false, false, false, false, false, false, false, false, false, false, false, false, false, false, false, false, false, false, false, false, false, false, false, false, false, false, false, false, false, false, false, false, false, false, false, false, false, false, false, false, false, false, false, false, false, false, false, false, false, false, false, false, false, false, false, false, false, false, false, false, false, false, false, false, false, false, false, false, false, false, false, false, false, false, false, false, false, false, false, false, false, false, false, false, false, false, false] [] (s1 := ⟨[.bot, .bot, .bot, .bot, Bo true, .bot, .bot, .bot, .bot, .bot, .bot, .bot, .bot, .bot, .bot, .bot, .bot, .bot, .bot, .bot, .bot, .bot, .bot, .bot, .bot, .bot, .bot, .bot, .bot, .bot, .bot, .bot, .bot, .bot, .bot, .bot, .bot, .bot, .bot, .bot, .bot, .bot, .bot, .bot, .bot, .bot, .bot, .bot, .bot, .bot, .bot, .bot, .bot, .bot, .bot, .bot, .bot, .bot, .bot, .bot, .bot, .bot, .bot, .bot, .bot, .bot, .bot, .bot, .bot, .bot, .bot, .bot, .bot, .bot, .bot, .bot, .bot, .bot, .bot, .bot, .bot, .bot, .bot, .bot, .bot, .bot, .bot, .bot, .bot, .bot, .bot, .bot, .bot, .bot, .bot, .bot, .bot, .bot, .bot, .bot, .bot, .bot, .bot, .bot, .bot, .bot, .bot, .bot, .bot, .bot, .bot, .bot, .bot, .bot, .bot, .bot, .bot, .bot, .bot, .bot, .bot, .bot, .bot, .bot, .bot, .bot, .bot, .bot, .bot, .bot, .bot, .bot, .bot], []⟩) ?_ ?_
    · refine XL_cons rfl (X_of_Y0 rfl (E_assign (Bo true) rfl (by kernel_rfl))) ?_
      refine XL_nil ?_
      kernel_rfl
    refine V_ret ?_
    obtain rfl := some_inj h
    show Post _ _ _ _ _
    exact ⟨.inr rfl, rfl, rfl, rfl⟩
  · have h := of_false h hc4
    refine V_skip ?_
    show V _ _ _ _
    obtain ⟨y5, hy5, h⟩ := of_bind h
    refine V_sreg [false, true, false, false, false, true, false, false, false, false, false, false, false, false, false, false, false, false, false, false, false, false, false, false, false, false, false, false, false, false, false, false, false, false, false, false, false, false, false, false, false, false, false, false, false, false, false, false, false, false, false, false, false, false, false, false, false, false, false, false, false, false, false, false, false, false, false, false, false, false, false, false, false, false, false, false, false, false, false, false, false, false, false, false, false, false, false, false, false, false, false, false, false, false, false, false, false, false, false, false, false, false, false, false, false, false, false, false, false, false, false, false, false, false, false, false, false, false, false, false, false, false, false, false, false, false, false, false, false, false, false, false, false] [] (s1 := ⟨[.bot, .c (.sl (more2.map c5)), .bot, .bot, .bot, I y5, .bot, .bot, .bot, .bot, .bot, .bot, .bot, .bot, .bot, .bot, .bot, .bot, .bot, .bot, .bot, .bot, .bot, .bot, .bot, .bot, .bot, .bot, .bot, .bot, .bot, .bot, .bot, .bot, .bot, .bot, .bot, .bot, .bot, .bot, .bot, .bot, .bot, .bot, .bot, .bot, .bot, .bot, .bot, .bot, .bot, .bot, .bot, .bot, .bot, .bot, .bot, .bot, .bot, .bot, .bot, .bot, .bot, .bot, .bot, .bot, .bot, .bot, .bot, .bot, .bot, .bot, .bot, .bot, .bot, .bot, .bot, .bot, .bot, .bot, .bot, .bot, .bot, .bot, .bot, .bot, .bot, .bot, .bot, .bot, .bot, .bot, .bot, .bot, .bot, .bot, .bot, .bot, .bot, .bot, .bot, .bot, .bot, .bot, .bot, .bot, .bot, .bot, .bot, .bot, .bot, .bot, .bot, .bot, .bot, .bot, .bot, .bot, .bot, .bot, .bot, .bot, .bot, .bot, .bot, .bot, .bot, .bot, .bot, .bot, .bot, .bot, .bot], []⟩) ?_ ?_
    · refine XL_cons rfl (X_of_Y0 rfl (E_move (.c (.sl (code1.map c5))) rfl (by kernel_rfl))) ?_
      refine XL_cons rfl (X_of_Y1 rfl (Y1_call (s_spec_DrawClassNumberBySum hy5) cf_spec_DrawClassNumberBySum rfl (by kernel_rfl))) ?_
      refine XL_cons rfl (X_of_Y0 rfl (E_assign (I y5) rfl (by kernel_rfl))) ?_
      refine XL_nil ?_
      kernel_rfl
    obtain ⟨y6, hy6, h⟩ := of_bind h
    refine V_sreg [false, true, false, false, false, true, true, true, false, false, false, false, false, false, false, false, false, false, false, false, false, false, false, false, false, false, false, false, false, false, false, false, false, false, false, false, false, false, false, false, false, false, false, false, false, false, false, false, false, false, false, false, false, false, false, false, false, false, false, false, false, false, false, false, false, false, false, false, false, false, false, false, false, false, false, false, false, false, false, false, false, false, false, false, false, false, false, false, false, false, false, false, false, false, false, false, false, false, false, false, false, false, false, false, false, false, false, false, false, false, false, false, false, false, false, false, false, false, false, false, false, false, false, false, false, false, false, false, false, false, false, false, false] [] (s1 := ⟨[.bot, .c (.sl (more2.map c5)), .bot, .bot, .bot, I y5, I y6.1, Bo y6.2, .bot, .bot, .bot, .bot, .bot, .bot, .bot, .bot, .bot, .bot, .bot, .bot, .bot, .bot, .bot, .bot, .bot, .bot, .bot, .bot, .bot, .bot, .bot, .bot, .bot, .bot, .bot, .bot, .bot, .bot, .bot, .bot, .bot, .bot, .bot, .bot, .bot, .bot, .bot, .bot, .bot, .bot, .bot, .bot, .bot, .bot, .bot, .bot, .bot, .bot, .bot, .bot, .bot, .bot, .bot, .bot, .bot, .bot, .bot, .bot, .bot, .bot, .bot, .bot, .bot, .bot, .bot, .bot, .bot, .bot, .bot, .bot, .bot, .bot, .bot, .bot, .bot, .bot, .bot, .bot, .bot, .bot, .bot, .bot, .bot, .bot, .bot, .bot, .bot, .bot, .bot, .bot, .bot, .bot, .bot, .bot, .bot, .bot, .bot, .bot, .bot, .bot, .bot, .bot, .bot, .bot, .bot, .bot, .bot, .bot, .bot, .bot, .bot, .bot, .bot, .bot, .bot, .bot, .bot, .bot, .bot, .bot, .bot, .bot, .bot], []⟩) ?_ ?_
    · refine XL_cons rfl (X_of_Y0 rfl (E_move (I y5) rfl (by kernel_rfl))) ?_
      refine XL_cons rfl (X_of_Y1 rfl (Y1_call (s_impl_ClassNumberBySum hy6) cf_impl_ClassNumberBySum rfl (by kernel_rfl))) ?_
      refine XL_cons rfl (X_of_Y0 rfl (E_move (.tc (I y6.1) (.tc (Bo y6.2) .tn)) rfl (by kernel_rfl))) ?_
      refine XL_cons rfl (X_of_Y0 rfl (E_ext (n := 0) (I y6.1) (.tc (Bo y6.2) .tn) (I y6.1) rfl (by kernel_rfl) (by kernel_rfl) (by intro hh; cases hh))) ?_
      refine XL_cons rfl (X_of_Y0 rfl (E_ext (n := 1) (I y6.1) (.tc (Bo y6.2) .tn) (Bo y6.2) rfl (by kernel_rfl) (by kernel_rfl) (by intro hh; cases hh))) ?_
      refine XL_cons rfl (X_of_Y0 rfl (E_assign (I y6.1) rfl (by kernel_rfl))) ?_
      refine XL_cons rfl (X_of_Y0 rfl (E_assign (Bo y6.2) rfl (by kernel_rfl))) ?_
      refine XL_nil ?_
      kernel_rfl
    obtain ⟨y7, hy7, h⟩ := of_bind h
    refine V_sreg [false, true, false, false, false, true, true, true, true, true, false, false, false, false, false, false, false, false, false, false, false, false, false, false, false, false, false, false, false, false, false, false, false, false, false, false, false, false, false, false, false, false, false, false, false, false, false, false, false, false, false, false, false, false, false, false, false, false, false, false, false, false, false, false, false, false, false, false, false, false, false, false, false, false, false, false, false, false, false, false, false, false, false, false, false, false, false, false, false, false, false, false, false, false, false, false, false, false, false, false, false, false, false, false, false, false, false, false, false, false, false, false, false, false, false, false, false, false, false, false, false, false, false, false, false, false, false, false, false, false, false, false, false] [] (s1 := ⟨[.bot, .c (.sl (more2.map c5)), .bot, .bot, .bot, I y5, I y6.1, Bo y6.2, I y7.1, Bo y7.2, .bot, .bot, .bot, .bot, .bot, .bot, .bot, .bot, .bot, .bot, .bot, .bot, .bot, .bot, .bot, .bot, .bot, .bot, .bot, .bot, .bot, .bot, .bot, .bot, .bot, .bot, .bot, .bot, .bot, .bot, .bot, .bot, .bot, .bot, .bot, .bot, .bot, .bot, .bot, .bot, .bot, .bot, .bot, .bot, .bot, .bot, .bot, .bot, .bot, .bot, .bot, .bot, .bot, .bot, .bot, .bot, .bot, .bot, .bot, .bot, .bot, .bot, .bot, .bot, .bot, .bot, .bot, .bot, .bot, .bot, .bot, .bot, .bot, .bot, .bot, .bot, .bot, .bot, .bot, .bot, .bot, .bot, .bot, .bot, .bot, .bot, .bot, .bot, .bot, .bot, .bot, .bot, .bot, .bot, .bot, .bot, .bot, .bot, .bot, .bot, .bot, .bot, .bot, .bot, .bot, .bot, .bot, .bot, .bot, .bot, .bot, .bot, .bot, .bot, .bot, .bot, .bot, .bot, .bot, .bot, .bot, .bot, .bot], []⟩) ?_ ?_
    · refine XL_cons rfl (X_of_Y0 rfl (E_move (I y5) rfl (by kernel_rfl))) ?_
      refine XL_cons rfl (X_of_Y1 rfl (Y1_call (s_spec_ClassNumberBySum hy7) cf_spec_ClassNumberBySum rfl (by kernel_rfl))) ?_
      refine XL_cons rfl (X_of_Y0 rfl (E_move (.tc (I y7.1) (.tc (Bo y7.2) .tn)) rfl (by kernel_rfl))) ?_
      refine XL_cons rfl (X_of_Y0 rfl (E_ext (n := 0) (I y7.1) (.tc (Bo y7.2) .tn) (I y7.1) rfl (by kernel_rfl) (by kernel_rfl) (by intro hh; cases hh))) ?_
      refine XL_cons rfl (X_of_Y0 rfl (E_ext (n := 1) (I y7.1) (.tc (Bo y7.2) .tn) (Bo y7.2) rfl (by kernel_rfl) (by kernel_rfl) (by intro hh; cases hh))) ?_
      refine XL_cons rfl (X_of_Y0 rfl (E_assign (I y7.1) rfl (by kernel_rfl))) ?_
      refine XL_cons rfl (X_of_Y0 rfl (E_assign (Bo y7.2) rfl (by kernel_rfl))) ?_
      refine XL_nil ?_
      kernel_rfl
    refine V_seq ?_
    refine V_sreg [false, true, false, false, false, true, true, true, false, false, false, false, false, false, false, false, false, false, false, false, false, false, false, false, false, false, false, false, false, false, false, false, false, false, false, false, false, false, false, false, false, false, false, false, false, false, false, true, false, false, false, false, false, false, false, false, false, false, false, false, false, false, false, false, false, false, false, false, false, false, false, false, false, false, false, false, false, false, false, false, false, false, false, false, false, false, false, false, false, false, false, false, false, false, false, false, false, false, false, false, false, false, false, false, false, false, false, false, false, false, false, false, false, false, false, false, false, false, false, false, false, false, false, false, false, false, false, false, false, false, false, false, false] [] (s1 := ⟨[.bot, .c (.sl (more2.map c5)), .bot, .bot, .bot, I y5, I y6.1, Bo y6.2, .bot, .bot, .bot, .bot, .bot, .bot, .bot, .bot, .bot, .bot, .bot, .bot, .bot, .bot, .bot, .bot, .bot, .bot, .bot, .bot, .bot, .bot, .bot, .bot, .bot, .bot, .bot, .bot, .bot, .bot, .bot, .bot, .bot, .bot, .bot, .bot, .bot, .bot, .bot, Bo (bif (y6.2 != y7.2) then true else (!eqI y6.1 y7.1)), .bot, .bot, .bot, .bot, .bot, .bot, .bot, .bot, .bot, .bot, .bot, .bot, .bot, .bot, .bot, .bot, .bot, .bot, .bot, .bot, .bot, .bot, .bot, .bot, .bot, .bot, .bot, .bot, .bot, .bot, .bot, .bot, .bot, .bot, .bot, .bot, .bot, .bot, .bot, .bot, .bot, .bot, .bot, .bot, .bot, .bot, .bot, .bot, .bot, .bot, .bot, .bot, .bot, .bot, .bot, .bot, .bot, .bot, .bot, .bot, .bot, .bot, .bot, .bot, .bot, .bot, .bot, .bot, .bot, .bot, .bot, .bot, .bot, .bot, .bot, .bot, .bot, .bot, .bot, .bot, .bot, .bot, .bot, .bot, .bot], []⟩) ?_ ?_
    · refine XL_cons rfl (X_of_Y0 rfl (E_move (Bo y6.2) rfl (by kernel_rfl))) ?_
      refine XL_cons rfl (X_of_Y0 rfl (E_move (Bo y7.2) rfl (by kernel_rfl))) ?_
      refine XL_cons rfl (X_of_Y0 rfl (Y0_neb (a := y6.2) (b := y7.2) Try.underlying4 rfl (by kernel_rfl) (by kernel_rfl))) ?_
      refine XL_cons rfl (X_of_Y0 rfl (E_move (Bo (y6.2 != y7.2)) rfl (by kernel_rfl))) ?_
      refine XL_split (y6.2 != y7.2) (fun hc8 => ?_) (fun hc8 => ?_)
      · refine XL_skipF (y6.2 != y7.2) rfl rfl (by kernel_rfl) hc8 rfl ?_
        refine XL_skipF (y6.2 != y7.2) rfl rfl (by kernel_rfl) hc8 rfl ?_
        refine XL_skipF (y6.2 != y7.2) rfl rfl (by kernel_rfl) hc8 rfl ?_
        refine XL_cons rfl (X_of_Y0 rfl (Y0_pick1 (b := y6.2 != y7.2) (p := true) (q := !eqI y6.1 y7.1) rfl (by kernel_rfl) hc8 (by kernel_rfl))) ?_
        refine XL_nil ?_
        kernel_rfl
      · refine XL_takeC (y6.2 != y7.2) rfl rfl (by kernel_rfl) hc8 (X_of_Y0 rfl (E_move (I y6.1) rfl (by kernel_rfl))) ?_
        refine XL_takeC (y6.2 != y7.2) rfl rfl (by kernel_rfl) hc8 (X_of_Y0 rfl (E_move (I y7.1) rfl (by kernel_rfl))) ?_
        refine XL_takeC (y6.2 != y7.2) rfl rfl (by kernel_rfl) hc8 (X_of_Y0 rfl (Y0_new (k := .i64) (a := y6.1) (b := y7.1) rfl (by kernel_rfl) (by kernel_rfl))) ?_
        refine XL_cons rfl (X_of_Y0 rfl (Y0_pick0 (b := y6.2 != y7.2) (p := true) (q := !eqI y6.1 y7.1) rfl (by kernel_rfl) hc8 (by kernel_rfl))) ?_
        refine XL_nil ?_
        kernel_rfl
    refine V_cond rfl (fun hc9 => ?_) (fun hc9 => ?_)
    · have h := of_true h hc9
      refine V_sreg [false, false, false, false, true, false, false, false, false, false, false, false, false, false, false, false, false, false, false, false, false, false, false, false, false, false, false, false, false, false, false, false, false, false, false, false, false, false, false, false, false, false, false, false, false, false, false, false, false, false, false, false, false, false, false, false, false, false, false, false, false, false, false, false, false, false, false, false, false, false, false, false, false, false, false, false, false, false, false, false, false, false, false, false, false, false, false, false, false, false, false, false, false, false, false, false, false, false, false, false, false, false, false, false, false, false, false, false, false, false, false, false, false, false, false, false, false, false, false, false, false, false, false, false, false, false, false, false, false, false, false, false, false] [] (s1 := ⟨[.bot, .bot, .bot, .bot, Bo false, .bot, .bot, .bot, .bot, .bot, .bot, .bot, .bot, .bot, .bot, .bot, .bot, .bot, .bot, .bot, .bot, .bot, .bot, .bot, .bot, .bot, .bot, .bot, .bot, .bot, .bot, .bot, .bot, .bot, .bot, .bot, .bot, .bot, .bot, .bot, .bot, .bot, .bot, .bot, .bot, .bot, .bot, .bot, .bot, .bot, .bot, .bot, .bot, .bot, .bot, .bot, .bot, .bot, .bot, .bot, .bot, .bot, .bot, .bot, .bot, .bot, .bot, .bot, .bot, .bot, .bot, .bot, .bot, .bot, .bot, .bot, .bot, .bot, .bot, .bot, .bot, .bot, .bot, .bot, .bot, .bot, .bot, .bot, .bot, .bot, .bot, .bot, .bot, .bot, .bot, .bot, .bot, .bot, .bot, .bot, .bot, .bot, .bot, .bot, .bot, .bot, .bot, .bot, .bot, .bot, .bot, .bot, .bot, .bot, .bot, .bot, .bot, .bot, .bot, .bot, .bot, .bot, .bot, .bot, .bot, .bot, .bot, .bot, .bot, .bot, .bot, .bot, .bot], []⟩) ?_ ?_
      · refine XL_cons rfl (X_of_Y0 rfl (E_assign (Bo false) rfl (by kernel_rfl))) ?_
        refine XL_nil ?_
        kernel_rfl
      refine V_ret ?_
      obtain rfl := some_inj h
      show Post _ _ _ _ _
      exact ⟨.inr rfl, rfl, rfl, rfl⟩
    · have h := of_false h hc9
      refine V_skip ?_
      show V _ _ _ _
      refine V_seq ?_
      refine V_sreg [false, true, false, false, false, true, true, false, false, false, false, false, false, false, false, false, false, false, false, false, false, false, false, false, false, false, false, false, false, false, false, false, false, false, false, false, false, false, false, false, false, false, false, false, false, false, false, false, true, false, false, false, false, false, false, false, false, false, false, false, false, false, false, false, false, false, false, false, false, false, false, false, false, false, false, false, false, false, false, false, false, false, false, false, false, false, false, false, false, false, false, false, false, false, false, false, false, false, false, false, false, false, false, false, false, false, false, false, false, false, false, false, false, false, false, false, false, false, false, false, false, false, false, false, false, false, false, false, false, false, false, false, false] [] (s1 := ⟨[.bot, .c (.sl (more2.map c5)), .bot, .bot, .bot, I y5, I y6.1, .bot, .bot, .bot, .bot, .bot, .bot, .bot, .bot, .bot, .bot, .bot, .bot, .bot, .bot, .bot, .bot, .bot, .bot, .bot, .bot, .bot, .bot, .bot, .bot, .bot, .bot, .bot, .bot, .bot, .bot, .bot, .bot, .bot, .bot, .bot, .bot, .bot, .bot, .bot, .bot, .bot, Bo y6.2, .bot, .bot, .bot, .bot, .bot, .bot, .bot, .bot, .bot, .bot, .bot, .bot, .bot, .bot, .bot, .bot, .bot, .bot, .bot, .bot, .bot, .bot, .bot, .bot, .bot, .bot, .bot, .bot, .bot, .bot, .bot, .bot, .bot, .bot, .bot, .bot, .bot, .bot, .bot, .bot, .bot, .bot, .bot, .bot, .bot, .bot, .bot, .bot, .bot, .bot, .bot, .bot, .bot, .bot, .bot, .bot, .bot, .bot, .bot, .bot, .bot, .bot, .bot, .bot, .bot, .bot, .bot, .bot, .bot, .bot, .bot, .bot, .bot, .bot, .bot, .bot, .bot, .bot, .bot, .bot, .bot, .bot, .bot, .bot], []⟩) ?_ ?_
      · refine XL_cons rfl (X_of_Y0 rfl (E_move (Bo y6.2) rfl (by kernel_rfl))) ?_
        refine XL_nil ?_
        kernel_rfl
      refine V_cond rfl (fun hc10 => ?_) (fun hc10 => ?_)
      · have h := of_true h hc10
        obtain ⟨y11, hy11, h⟩ := of_bind h
        refine V_sreg [false, true, false, false, false, true, true, false, false, false, true, true, false, false, false, false, false, false, false, false, false, false, false, false, false, false, false, false, false, false, false, false, false, false, false, false, false, false, false, false, false, false, false, false, false, false, false, false, false, false, false, false, false, false, false, false, false, false, false, false, false, false, false, false, false, false, false, false, false, false, false, false, false, false, false, false, false, false, false, false, false, false, false, false, false, false, false, false, false, false, false, false, false, false, false, false, false, false, false, false, false, false, false, false, false, false, false, false, false, false, false, false, false, false, false, false, false, false, false, false, false, false, false, false, false, false, false, false, false, false, false, false, false] [] (s1 := ⟨[.bot, .c (.sl (more2.map c5)), .bot, .bot, .bot, I y5, I y6.1, .bot, .bot, .bot, I y11.1, Bo y11.2, .bot, .bot, .bot, .bot, .bot, .bot, .bot, .bot, .bot, .bot, .bot, .bot, .bot, .bot, .bot, .bot, .bot, .bot, .bot, .bot, .bot, .bot, .bot, .bot, .bot, .bot, .bot, .bot, .bot, .bot, .bot, .bot, .bot, .bot, .bot, .bot, .bot, .bot, .bot, .bot, .bot, .bot, .bot, .bot, .bot, .bot, .bot, .bot, .bot, .bot, .bot, .bot, .bot, .bot, .bot, .bot, .bot, .bot, .bot, .bot, .bot, .bot, .bot, .bot, .bot, .bot, .bot, .bot, .bot, .bot, .bot, .bot, .bot, .bot, .bot, .bot, .bot, .bot, .bot, .bot, .bot, .bot, .bot, .bot, .bot, .bot, .bot, .bot, .bot, .bot, .bot, .bot, .bot, .bot, .bot, .bot, .bot, .bot, .bot, .bot, .bot, .bot, .bot, .bot, .bot, .bot, .bot, .bot, .bot, .bot, .bot, .bot, .bot, .bot, .bot, .bot, .bot, .bot, .bot, .bot, .bot], []⟩) ?_ ?_
        · refine XL_cons rfl (X_of_Y0 rfl (E_move (I y5) rfl (by kernel_rfl))) ?_
          refine XL_cons rfl (X_of_Y1 rfl (Y1_call (s_impl_ClassNumber hy11) cf_impl_ClassNumber rfl (by kernel_rfl))) ?_
          refine XL_cons rfl (X_of_Y0 rfl (E_move (.tc (I y11.1) (.tc (Bo y11.2) .tn)) rfl (by kernel_rfl))) ?_
          refine XL_cons rfl (X_of_Y0 rfl (E_ext (n := 0) (I y11.1) (.tc (Bo y11.2) .tn) (I y11.1) rfl (by kernel_rfl) (by kernel_rfl) (by intro hh; cases hh))) ?_
          refine XL_cons rfl (X_of_Y0 rfl (E_ext (n := 1) (I y11.1) (.tc (Bo y11.2) .tn) (Bo y11.2) rfl (by kernel_rfl) (by kernel_rfl) (by intro hh; cases hh))) ?_
          refine XL_cons rfl (X_of_Y0 rfl (E_assign (I y11.1) rfl (by kernel_rfl))) ?_
          refine XL_cons rfl (X_of_Y0 rfl (E_assign (Bo y11.2) rfl (by kernel_rfl))) ?_
          refine XL_nil ?_
          kernel_rfl
        obtain ⟨y12, hy12, h⟩ := of_bind h
        refine V_sreg [false, true, false, false, false, true, true, false, false, false, true, true, true, true, false, false, false, false, false, false, false, false, false, false, false, false, false, false, false, false, false, false, false, false, false, false, false, false, false, false, false, false, false, false, false, false, false, false, false, false, false, false, false, false, false, false, false, false, false, false, false, false, false, false, false, false, false, false, false, false, false, false, false, false, false, false, false, false, false, false, false, false, false, false, false, false, false, false, false, false, false, false, false, false, false, false, false, false, false, false, false, false, false, false, false, false, false, false, false, false, false, false, false, false, false, false, false, false, false, false, false, false, false, false, false, false, false, false, false, false, false, false, false] [] (s1 := ⟨[.bot, .c (.sl (more2.map c5)), .bot, .bot, .bot, I y5, I y6.1, .bot, .bot, .bot, I y11.1, Bo y11.2, I y12.1, Bo y12.2, .bot, .bot, .bot, .bot, .bot, .bot, .bot, .bot, .bot, .bot, .bot, .bot, .bot, .bot, .bot, .bot, .bot, .bot, .bot, .bot, .bot, .bot, .bot, .bot, .bot, .bot, .bot, .bot, .bot, .bot, .bot, .bot, .bot, .bot, .bot, .bot, .bot, .bot, .bot, .bot, .bot, .bot, .bot, .bot, .bot, .bot, .bot, .bot, .bot, .bot, .bot, .bot, .bot, .bot, .bot, .bot, .bot, .bot, .bot, .bot, .bot, .bot, .bot, .bot, .bot, .bot, .bot, .bot, .bot, .bot, .bot, .bot, .bot, .bot, .bot, .bot, .bot, .bot, .bot, .bot, .bot, .bot, .bot, .bot, .bot, .bot, .bot, .bot, .bot, .bot, .bot, .bot, .bot, .bot, .bot, .bot, .bot, .bot, .bot, .bot, .bot, .bot, .bot, .bot, .bot, .bot, .bot, .bot, .bot, .bot, .bot, .bot, .bot, .bot, .bot, .bot, .bot, .bot, .bot], []⟩) ?_ ?_
        · refine XL_cons rfl (X_of_Y0 rfl (E_move (I y5) rfl (by kernel_rfl))) ?_
          refine XL_cons rfl (X_of_Y1 rfl (Y1_call (s_impl_ClassNumberByHalf hy12) cf_impl_ClassNumberByHalf rfl (by kernel_rfl))) ?_
          refine XL_cons rfl (X_of_Y0 rfl (E_move (.tc (I y12.1) (.tc (Bo y12.2) .tn)) rfl (by kernel_rfl))) ?_
          refine XL_cons rfl (X_of_Y0 rfl (E_ext (n := 0) (I y12.1) (.tc (Bo y12.2) .tn) (I y12.1) rfl (by kernel_rfl) (by kernel_rfl) (by intro hh; cases hh))) ?_
          refine XL_cons rfl (X_of_Y0 rfl (E_ext (n := 1) (I y12.1) (.tc (Bo y12.2) .tn) (Bo y12.2) rfl (by kernel_rfl) (by kernel_rfl) (by intro hh; cases hh))) ?_
          refine XL_cons rfl (X_of_Y0 rfl (E_assign (I y12.1) rfl (by kernel_rfl))) ?_
          refine XL_cons rfl (X_of_Y0 rfl (E_assign (Bo y12.2) rfl (by kernel_rfl))) ?_
          refine XL_nil ?_
          kernel_rfl
        obtain ⟨t17, ht17, h⟩ := of_bind h
        have ht17 := some_inj ht17
        refine V_sreg [false, true, false, false, false, false, false, false, false, false, false, false, false, false, false, false, false, false, false, false, false, false, false, false, false, false, false, false, false, false, false, false, false, false, false, false, false, false, false, false, false, false, false, false, false, false, false, false, false, false, false, false, false, false, false, false, false, false, false, false, false, false, false, false, false, false, false, false, false, false, false, false, false, false, false, false, false, false, false, true, false, false, false, false, false, false, false, false, false, false, false, false, false, false, false, false, false, false, false, false, false, false, false, false, false, false, false, false, false, false, false, false, false, false, false, false, false, false, false, false, false, false, false, false, false, false, false, false, false, false, false, false, false] [] (s1 := ⟨[.bot, .c (.sl (more2.map c5)), .bot, .bot, .bot, .bot, .bot, .bot, .bot, .bot, .bot, .bot, .bot, .bot, .bot, .bot, .bot, .bot, .bot, .bot, .bot, .bot, .bot, .bot, .bot, .bot, .bot, .bot, .bot, .bot, .bot, .bot, .bot, .bot, .bot, .bot, .bot, .bot, .bot, .bot, .bot, .bot, .bot, .bot, .bot, .bot, .bot, .bot, .bot, .bot, .bot, .bot, .bot, .bot, .bot, .bot, .bot, .bot, .bot, .bot, .bot, .bot, .bot, .bot, .bot, .bot, .bot, .bot, .bot, .bot, .bot, .bot, .bot, .bot, .bot, .bot, .bot, .bot, .bot, Bo t17, .bot, .bot, .bot, .bot, .bot, .bot, .bot, .bot, .bot, .bot, .bot, .bot, .bot, .bot, .bot, .bot, .bot, .bot, .bot, .bot, .bot, .bot, .bot, .bot, .bot, .bot, .bot, .bot, .bot, .bot, .bot, .bot, .bot, .bot, .bot, .bot, .bot, .bot, .bot, .bot, .bot, .bot, .bot, .bot, .bot, .bot, .bot, .bot, .bot, .bot, .bot, .bot, .bot], []⟩) ?_ ?_
        · refine XL_cons rfl (X_of_Y0 rfl (E_move (Bo y11.2) rfl (by kernel_rfl))) ?_
          refine XL_cons rfl (X_of_Y0 rfl (Y0_not (b := y11.2) rfl (by kernel_rfl))) ?_
          refine XL_cons rfl (X_of_Y0 rfl (E_move (Bo (!y11.2)) rfl (by kernel_rfl))) ?_
          refine XL_split (!y11.2) (fun hc13 => ?_) (fun hc13 => ?_)
          · refine XL_skipF (!y11.2) rfl rfl (by kernel_rfl) hc13 rfl ?_
            refine XL_skipF (!y11.2) rfl rfl (by kernel_rfl) hc13 rfl ?_
            refine XL_skipF (!y11.2) rfl rfl (by kernel_rfl) hc13 rfl ?_
            refine XL_cons rfl (X_of_Y0 rfl (Y0_pick1 (b := !y11.2) (p := true) (q := !eqI y11.1 y6.1) rfl (by kernel_rfl) hc13 (by kernel_rfl))) ?_
            refine XL_cons rfl (X_of_Y0 rfl (E_move (Bo (bif (!y11.2) then true else (!eqI y11.1 y6.1))) rfl (by kernel_rfl))) ?_
            refine XL_split (bif (!y11.2) then true else (!eqI y11.1 y6.1)) (fun hc14 => ?_) (fun hc14 => ?_)
            · refine XL_skipF (bif (!y11.2) then true else (!eqI y11.1 y6.1)) rfl rfl (by kernel_rfl) hc14 rfl ?_
              refine XL_skipF (bif (!y11.2) then true else (!eqI y11.1 y6.1)) rfl rfl (by kernel_rfl) hc14 rfl ?_
              refine XL_skipF (bif (!y11.2) then true else (!eqI y11.1 y6.1)) rfl rfl (by kernel_rfl) hc14 rfl ?_
              refine XL_skipF (bif (!y11.2) then true else (!eqI y11.1 y6.1)) rfl rfl (by kernel_rfl) hc14 rfl ?_
              refine XL_cons rfl (X_of_Y0 rfl (Y0_pick1 (b := bif (!y11.2) then true else (!eqI y11.1 y6.1)) (p := true) (q := y12.2 != (ltI y5 (-4))) rfl (by kernel_rfl) hc14 (by kernel_rfl))) ?_
              refine XL_cons rfl (X_of_Y0 rfl (E_move (Bo (bif (bif (!y11.2) then true else (!eqI y11.1 y6.1)) then true else (y12.2 != (ltI y5 (-4))))) rfl (by kernel_rfl))) ?_
              refine XL_split (bif (bif (!y11.2) then true else (!eqI y11.1 y6.1)) then true else (y12.2 != (ltI y5 (-4)))) (fun hc15 => ?_) (fun hc15 => ?_)
              · refine XL_skipF (bif (bif (!y11.2) then true else (!eqI y11.1 y6.1)) then true else (y12.2 != (ltI y5 (-4)))) rfl rfl (by kernel_rfl) hc15 rfl ?_
                refine XL_skipF (bif (bif (!y11.2) then true else (!eqI y11.1 y6.1)) then true else (y12.2 != (ltI y5 (-4)))) rfl rfl (by kernel_rfl) hc15 rfl ?_
                refine XL_skip2 rfl rfl (by kernel_rfl) rfl ?_
                refine XL_skip2 rfl rfl (by kernel_rfl) rfl ?_
                refine XL_skip2 rfl rfl (by kernel_rfl) rfl ?_
                refine XL_skipF (bif (bif (!y11.2) then true else (!eqI y11.1 y6.1)) then true else (y12.2 != (ltI y5 (-4)))) rfl rfl (by kernel_rfl) hc15 rfl ?_
                refine XL_cons rfl (X_of_Y0 rfl (Y0_pick1 (b := bif (bif (!y11.2) then true else (!eqI y11.1 y6.1)) then true else (y12.2 != (ltI y5 (-4)))) (p := true) (q := bif y12.2 then (!eqI y12.1 y6.1) else false) rfl (by kernel_rfl) hc15 (by kernel_rfl))) ?_
                refine XL_nil ?_
                subst ht17
                kernel_rfl
              · refine XL_takeC (bif (bif (!y11.2) then true else (!eqI y11.1 y6.1)) then true else (y12.2 != (ltI y5 (-4)))) rfl rfl (by kernel_rfl) hc15 (X_of_Y0 rfl (E_move (Bo y12.2) rfl (by kernel_rfl))) ?_
                refine XL_takeC (bif (bif (!y11.2) then true else (!eqI y11.1 y6.1)) then true else (y12.2 != (ltI y5 (-4)))) rfl rfl (by kernel_rfl) hc15 (X_of_Y0 rfl (E_move (Bo y12.2) rfl (by kernel_rfl))) ?_
                refine XL_split y12.2 (fun hc16 => ?_) (fun hc16 => ?_)
                · refine XL_takeC (y12.2) rfl rfl (by kernel_rfl) hc16 (X_of_Y0 rfl (E_move (I y12.1) rfl (by kernel_rfl))) ?_
                  refine XL_takeC (y12.2) rfl rfl (by kernel_rfl) hc16 (X_of_Y0 rfl (E_move (I y6.1) rfl (by kernel_rfl))) ?_
                  refine XL_takeC (y12.2) rfl rfl (by kernel_rfl) hc16 (X_of_Y0 rfl (Y0_new (k := .i64) (a := y12.1) (b := y6.1) rfl (by kernel_rfl) (by kernel_rfl))) ?_
                  refine XL_takeC (bif (bif (!y11.2) then true else (!eqI y11.1 y6.1)) then true else (y12.2 != (ltI y5 (-4)))) rfl rfl (by kernel_rfl) hc15 (X_of_Y0 rfl (Y0_pick1 (b := y12.2) (p := !eqI y12.1 y6.1) (q := false) rfl (by kernel_rfl) hc16 (by kernel_rfl))) ?_
                  refine XL_cons rfl (X_of_Y0 rfl (Y0_pick0 (b := bif (bif (!y11.2) then true else (!eqI y11.1 y6.1)) then true else (y12.2 != (ltI y5 (-4)))) (p := true) (q := bif y12.2 then (!eqI y12.1 y6.1) else false) rfl (by kernel_rfl) hc15 (by kernel_rfl))) ?_
                  refine XL_nil ?_
                  subst ht17
                  kernel_rfl
                · refine XL_skipT (y12.2) rfl rfl (by kernel_rfl) hc16 rfl ?_
                  refine XL_skipT (y12.2) rfl rfl (by kernel_rfl) hc16 rfl ?_
                  refine XL_skipT (y12.2) rfl rfl (by kernel_rfl) hc16 rfl ?_
                  refine XL_takeC (bif (bif (!y11.2) then true else (!eqI y11.1 y6.1)) then true else (y12.2 != (ltI y5 (-4)))) rfl rfl (by kernel_rfl) hc15 (X_of_Y0 rfl (Y0_pick0 (b := y12.2) (p := !eqI y12.1 y6.1) (q := false) rfl (by kernel_rfl) hc16 (by kernel_rfl))) ?_
                  refine XL_cons rfl (X_of_Y0 rfl (Y0_pick0 (b := bif (bif (!y11.2) then true else (!eqI y11.1 y6.1)) then true else (y12.2 != (ltI y5 (-4)))) (p := true) (q := bif y12.2 then (!eqI y12.1 y6.1) else false) rfl (by kernel_rfl) hc15 (by kernel_rfl))) ?_
                  refine XL_nil ?_
                  subst ht17
                  kernel_rfl
            · refine XL_takeC (bif (!y11.2) then true else (!eqI y11.1 y6.1)) rfl rfl (by kernel_rfl) hc14 (X_of_Y0 rfl (E_move (Bo y12.2) rfl (by kernel_rfl))) ?_
              refine XL_takeC (bif (!y11.2) then true else (!eqI y11.1 y6.1)) rfl rfl (by kernel_rfl) hc14 (X_of_Y0 rfl (E_move (I y5) rfl (by kernel_rfl))) ?_
              refine XL_takeC (bif (!y11.2) then true else (!eqI y11.1 y6.1)) rfl rfl (by kernel_rfl) hc14 (X_of_Y0 rfl (Y0_ltw (k := .i64) (a := y5) (b := -4) rfl (by kernel_rfl) (by kernel_rfl))) ?_
              refine XL_takeC (bif (!y11.2) then true else (!eqI y11.1 y6.1)) rfl rfl (by kernel_rfl) hc14 (X_of_Y0 rfl (Y0_neb (a := y12.2) (b := ltI y5 (-4)) Try.underlying4 rfl (by kernel_rfl) (by kernel_rfl))) ?_
              refine XL_cons rfl (X_of_Y0 rfl (Y0_pick0 (b := bif (!y11.2) then true else (!eqI y11.1 y6.1)) (p := true) (q := y12.2 != (ltI y5 (-4))) rfl (by kernel_rfl) hc14 (by kernel_rfl))) ?_
              refine XL_cons rfl (X_of_Y0 rfl (E_move (Bo (bif (bif (!y11.2) then true else (!eqI y11.1 y6.1)) then true else (y12.2 != (ltI y5 (-4))))) rfl (by kernel_rfl))) ?_
              refine XL_split (bif (bif (!y11.2) then true else (!eqI y11.1 y6.1)) then true else (y12.2 != (ltI y5 (-4)))) (fun hc15 => ?_) (fun hc15 => ?_)
              · refine XL_skipF (bif (bif (!y11.2) then true else (!eqI y11.1 y6.1)) then true else (y12.2 != (ltI y5 (-4)))) rfl rfl (by kernel_rfl) hc15 rfl ?_
                refine XL_skipF (bif (bif (!y11.2) then true else (!eqI y11.1 y6.1)) then true else (y12.2 != (ltI y5 (-4)))) rfl rfl (by kernel_rfl) hc15 rfl ?_
                refine XL_skip2 rfl rfl (by kernel_rfl) rfl ?_
                refine XL_skip2 rfl rfl (by kernel_rfl) rfl ?_
                refine XL_skip2 rfl rfl (by kernel_rfl) rfl ?_
                refine XL_skipF (bif (bif (!y11.2) then true else (!eqI y11.1 y6.1)) then true else (y12.2 != (ltI y5 (-4)))) rfl rfl (by kernel_rfl) hc15 rfl ?_
                refine XL_cons rfl (X_of_Y0 rfl (Y0_pick1 (b := bif (bif (!y11.2) then true else (!eqI y11.1 y6.1)) then true else (y12.2 != (ltI y5 (-4)))) (p := true) (q := bif y12.2 then (!eqI y12.1 y6.1) else false) rfl (by kernel_rfl) hc15 (by kernel_rfl))) ?_
                refine XL_nil ?_
                subst ht17
                kernel_rfl
              · refine XL_takeC (bif (bif (!y11.2) then true else (!eqI y11.1 y6.1)) then true else (y12.2 != (ltI y5 (-4)))) rfl rfl (by kernel_rfl) hc15 (X_of_Y0 rfl (E_move (Bo y12.2) rfl (by kernel_rfl))) ?_
                refine XL_takeC (bif (bif (!y11.2) then true else (!eqI y11.1 y6.1)) then true else (y12.2 != (ltI y5 (-4)))) rfl rfl (by kernel_rfl) hc15 (X_of_Y0 rfl (E_move (Bo y12.2) rfl (by kernel_rfl))) ?_
                refine XL_split y12.2 (fun hc16 => ?_) (fun hc16 => ?_)
                · refine XL_takeC (y12.2) rfl rfl (by kernel_rfl) hc16 (X_of_Y0 rfl (E_move (I y12.1) rfl (by kernel_rfl))) ?_
                  refine XL_takeC (y12.2) rfl rfl (by kernel_rfl) hc16 (X_of_Y0 rfl (E_move (I y6.1) rfl (by kernel_rfl))) ?_
                  refine XL_takeC (y12.2) rfl rfl (by kernel_rfl) hc16 (X_of_Y0 rfl (Y0_new (k := .i64) (a := y12.1) (b := y6.1) rfl (by kernel_rfl) (by kernel_rfl))) ?_
                  refine XL_takeC (bif (bif (!y11.2) then true else (!eqI y11.1 y6.1)) then true else (y12.2 != (ltI y5 (-4)))) rfl rfl (by kernel_rfl) hc15 (X_of_Y0 rfl (Y0_pick1 (b := y12.2) (p := !eqI y12.1 y6.1) (q := false) rfl (by kernel_rfl) hc16 (by kernel_rfl))) ?_
                  refine XL_cons rfl (X_of_Y0 rfl (Y0_pick0 (b := bif (bif (!y11.2) then true else (!eqI y11.1 y6.1)) then true else (y12.2 != (ltI y5 (-4)))) (p := true) (q := bif y12.2 then (!eqI y12.1 y6.1) else false) rfl (by kernel_rfl) hc15 (by kernel_rfl))) ?_
                  refine XL_nil ?_
                  subst ht17
                  kernel_rfl
                · refine XL_skipT (y12.2) rfl rfl (by kernel_rfl) hc16 rfl ?_
                  refine XL_skipT (y12.2) rfl rfl (by kernel_rfl) hc16 rfl ?_
                  refine XL_skipT (y12.2) rfl rfl (by kernel_rfl) hc16 rfl ?_
                  refine XL_takeC (bif (bif (!y11.2) then true else (!eqI y11.1 y6.1)) then true else (y12.2 != (ltI y5 (-4)))) rfl rfl (by kernel_rfl) hc15 (X_of_Y0 rfl (Y0_pick0 (b := y12.2) (p := !eqI y12.1 y6.1) (q := false) rfl (by kernel_rfl) hc16 (by kernel_rfl))) ?_
                  refine XL_cons rfl (X_of_Y0 rfl (Y0_pick0 (b := bif (bif (!y11.2) then true else (!eqI y11.1 y6.1)) then true else (y12.2 != (ltI y5 (-4)))) (p := true) (q := bif y12.2 then (!eqI y12.1 y6.1) else false) rfl (by kernel_rfl) hc15 (by kernel_rfl))) ?_
                  refine XL_nil ?_
                  subst ht17
                  kernel_rfl
          · refine XL_takeC (!y11.2) rfl rfl (by kernel_rfl) hc13 (X_of_Y0 rfl (E_move (I y11.1) rfl (by kernel_rfl))) ?_
            refine XL_takeC (!y11.2) rfl rfl (by kernel_rfl) hc13 (X_of_Y0 rfl (E_move (I y6.1) rfl (by kernel_rfl))) ?_
            refine XL_takeC (!y11.2) rfl rfl (by kernel_rfl) hc13 (X_of_Y0 rfl (Y0_new (k := .i64) (a := y11.1) (b := y6.1) rfl (by kernel_rfl) (by kernel_rfl))) ?_
            refine XL_cons rfl (X_of_Y0 rfl (Y0_pick0 (b := !y11.2) (p := true) (q := !eqI y11.1 y6.1) rfl (by kernel_rfl) hc13 (by kernel_rfl))) ?_
            refine XL_cons rfl (X_of_Y0 rfl (E_move (Bo (bif (!y11.2) then true else (!eqI y11.1 y6.1))) rfl (by kernel_rfl))) ?_
            refine XL_split (bif (!y11.2) then true else (!eqI y11.1 y6.1)) (fun hc14 => ?_) (fun hc14 => ?_)
            · refine XL_skipF (bif (!y11.2) then true else (!eqI y11.1 y6.1)) rfl rfl (by kernel_rfl) hc14 rfl ?_
              refine XL_skipF (bif (!y11.2) then true else (!eqI y11.1 y6.1)) rfl rfl (by kernel_rfl) hc14 rfl ?_
              refine XL_skipF (bif (!y11.2) then true else (!eqI y11.1 y6.1)) rfl rfl (by kernel_rfl) hc14 rfl ?_
              refine XL_skipF (bif (!y11.2) then true else (!eqI y11.1 y6.1)) rfl rfl (by kernel_rfl) hc14 rfl ?_
              refine XL_cons rfl (X_of_Y0 rfl (Y0_pick1 (b := bif (!y11.2) then true else (!eqI y11.1 y6.1)) (p := true) (q := y12.2 != (ltI y5 (-4))) rfl (by kernel_rfl) hc14 (by kernel_rfl))) ?_
              refine XL_cons rfl (X_of_Y0 rfl (E_move (Bo (bif (bif (!y11.2) then true else (!eqI y11.1 y6.1)) then true else (y12.2 != (ltI y5 (-4))))) rfl (by kernel_rfl))) ?_
              refine XL_split (bif (bif (!y11.2) then true else (!eqI y11.1 y6.1)) then true else (y12.2 != (ltI y5 (-4)))) (fun hc15 => ?_) (fun hc15 => ?_)
              · refine XL_skipF (bif (bif (!y11.2) then true else (!eqI y11.1 y6.1)) then true else (y12.2 != (ltI y5 (-4)))) rfl rfl (by kernel_rfl) hc15 rfl ?_
                refine XL_skipF (bif (bif (!y11.2) then true else (!eqI y11.1 y6.1)) then true else (y12.2 != (ltI y5 (-4)))) rfl rfl (by kernel_rfl) hc15 rfl ?_
                refine XL_skip2 rfl rfl (by kernel_rfl) rfl ?_
                refine XL_skip2 rfl rfl (by kernel_rfl) rfl ?_
                refine XL_skip2 rfl rfl (by kernel_rfl) rfl ?_
                refine XL_skipF (bif (bif (!y11.2) then true else (!eqI y11.1 y6.1)) then true else (y12.2 != (ltI y5 (-4)))) rfl rfl (by kernel_rfl) hc15 rfl ?_
                refine XL_cons rfl (X_of_Y0 rfl (Y0_pick1 (b := bif (bif (!y11.2) then true else (!eqI y11.1 y6.1)) then true else (y12.2 != (ltI y5 (-4)))) (p := true) (q := bif y12.2 then (!eqI y12.1 y6.1) else false) rfl (by kernel_rfl) hc15 (by kernel_rfl))) ?_
                refine XL_nil ?_
                subst ht17
                kernel_rfl
              · refine XL_takeC (bif (bif (!y11.2) then true else (!eqI y11.1 y6.1)) then true else (y12.2 != (ltI y5 (-4)))) rfl rfl (by kernel_rfl) hc15 (X_of_Y0 rfl (E_move (Bo y12.2) rfl (by kernel_rfl))) ?_
                refine XL_takeC (bif (bif (!y11.2) then true else (!eqI y11.1 y6.1)) then true else (y12.2 != (ltI y5 (-4)))) rfl rfl (by kernel_rfl) hc15 (X_of_Y0 rfl (E_move (Bo y12.2) rfl (by kernel_rfl))) ?_
                refine XL_split y12.2 (fun hc16 => ?_) (fun hc16 => ?_)
                · refine XL_takeC (y12.2) rfl rfl (by kernel_rfl) hc16 (X_of_Y0 rfl (E_move (I y12.1) rfl (by kernel_rfl))) ?_
                  refine XL_takeC (y12.2) rfl rfl (by kernel_rfl) hc16 (X_of_Y0 rfl (E_move (I y6.1) rfl (by kernel_rfl))) ?_
                  refine XL_takeC (y12.2) rfl rfl (by kernel_rfl) hc16 (X_of_Y0 rfl (Y0_new (k := .i64) (a := y12.1) (b := y6.1) rfl (by kernel_rfl) (by kernel_rfl))) ?_
                  refine XL_takeC (bif (bif (!y11.2) then true else (!eqI y11.1 y6.1)) then true else (y12.2 != (ltI y5 (-4)))) rfl rfl (by kernel_rfl) hc15 (X_of_Y0 rfl (Y0_pick1 (b := y12.2) (p := !eqI y12.1 y6.1) (q := false) rfl (by kernel_rfl) hc16 (by kernel_rfl))) ?_
                  refine XL_cons rfl (X_of_Y0 rfl (Y0_pick0 (b := bif (bif (!y11.2) then true else (!eqI y11.1 y6.1)) then true else (y12.2 != (ltI y5 (-4)))) (p := true) (q := bif y12.2 then (!eqI y12.1 y6.1) else false) rfl (by kernel_rfl) hc15 (by kernel_rfl))) ?_
                  refine XL_nil ?_
                  subst ht17
                  kernel_rfl
                · refine XL_skipT (y12.2) rfl rfl (by kernel_rfl) hc16 rfl ?_
                  refine XL_skipT (y12.2) rfl rfl (by kernel_rfl) hc16 rfl ?_
                  refine XL_skipT (y12.2) rfl rfl (by kernel_rfl) hc16 rfl ?_
                  refine XL_takeC (bif (bif (!y11.2) then true else (!eqI y11.1 y6.1)) then true else (y12.2 != (ltI y5 (-4)))) rfl rfl (by kernel_rfl) hc15 (X_of_Y0 rfl (Y0_pick0 (b := y12.2) (p := !eqI y12.1 y6.1) (q := false) rfl (by kernel_rfl) hc16 (by kernel_rfl))) ?_
                  refine XL_cons rfl (X_of_Y0 rfl (Y0_pick0 (b := bif (bif (!y11.2) then true else (!eqI y11.1 y6.1)) then true else (y12.2 != (ltI y5 (-4)))) (p := true) (q := bif y12.2 then (!eqI y12.1 y6.1) else false) rfl (by kernel_rfl) hc15 (by kernel_rfl))) ?_
                  refine XL_nil ?_
                  subst ht17
                  kernel_rfl
            · refine XL_takeC (bif (!y11.2) then true else (!eqI y11.1 y6.1)) rfl rfl (by kernel_rfl) hc14 (X_of_Y0 rfl (E_move (Bo y12.2) rfl (by kernel_rfl))) ?_
              refine XL_takeC (bif (!y11.2) then true else (!eqI y11.1 y6.1)) rfl rfl (by kernel_rfl) hc14 (X_of_Y0 rfl (E_move (I y5) rfl (by kernel_rfl))) ?_
              refine XL_takeC (bif (!y11.2) then true else (!eqI y11.1 y6.1)) rfl rfl (by kernel_rfl) hc14 (X_of_Y0 rfl (Y0_ltw (k := .i64) (a := y5) (b := -4) rfl (by kernel_rfl) (by kernel_rfl))) ?_
              refine XL_takeC (bif (!y11.2) then true else (!eqI y11.1 y6.1)) rfl rfl (by kernel_rfl) hc14 (X_of_Y0 rfl (Y0_neb (a := y12.2) (b := ltI y5 (-4)) Try.underlying4 rfl (by kernel_rfl) (by kernel_rfl))) ?_
              refine XL_cons rfl (X_of_Y0 rfl (Y0_pick0 (b := bif (!y11.2) then true else (!eqI y11.1 y6.1)) (p := true) (q := y12.2 != (ltI y5 (-4))) rfl (by kernel_rfl) hc14 (by kernel_rfl))) ?_
              refine XL_cons rfl (X_of_Y0 rfl (E_move (Bo (bif (bif (!y11.2) then true else (!eqI y11.1 y6.1)) then true else (y12.2 != (ltI y5 (-4))))) rfl (by kernel_rfl))) ?_
              refine XL_split (bif (bif (!y11.2) then true else (!eqI y11.1 y6.1)) then true else (y12.2 != (ltI y5 (-4)))) (fun hc15 => ?_) (fun hc15 => ?_)
              · refine XL_skipF (bif (bif (!y11.2) then true else (!eqI y11.1 y6.1)) then true else (y12.2 != (ltI y5 (-4)))) rfl rfl (by kernel_rfl) hc15 rfl ?_
                refine XL_skipF (bif (bif (!y11.2) then true else (!eqI y11.1 y6.1)) then true else (y12.2 != (ltI y5 (-4)))) rfl rfl (by kernel_rfl) hc15 rfl ?_
                refine XL_skip2 rfl rfl (by kernel_rfl) rfl ?_
                refine XL_skip2 rfl rfl (by kernel_rfl) rfl ?_
                refine XL_skip2 rfl rfl (by kernel_rfl) rfl ?_
                refine XL_skipF (bif (bif (!y11.2) then true else (!eqI y11.1 y6.1)) then true else (y12.2 != (ltI y5 (-4)))) rfl rfl (by kernel_rfl) hc15 rfl ?_
                refine XL_cons rfl (X_of_Y0 rfl (Y0_pick1 (b := bif (bif (!y11.2) then true else (!eqI y11.1 y6.1)) then true else (y12.2 != (ltI y5 (-4)))) (p := true) (q := bif y12.2 then (!eqI y12.1 y6.1) else false) rfl (by kernel_rfl) hc15 (by kernel_rfl))) ?_
                refine XL_nil ?_
                subst ht17
                kernel_rfl
              · refine XL_takeC (bif (bif (!y11.2) then true else (!eqI y11.1 y6.1)) then true else (y12.2 != (ltI y5 (-4)))) rfl rfl (by kernel_rfl) hc15 (X_of_Y0 rfl (E_move (Bo y12.2) rfl (by kernel_rfl))) ?_
                refine XL_takeC (bif (bif (!y11.2) then true else (!eqI y11.1 y6.1)) then true else (y12.2 != (ltI y5 (-4)))) rfl rfl (by kernel_rfl) hc15 (X_of_Y0 rfl (E_move (Bo y12.2) rfl (by kernel_rfl))) ?_
                refine XL_split y12.2 (fun hc16 => ?_) (fun hc16 => ?_)
                · refine XL_takeC (y12.2) rfl rfl (by kernel_rfl) hc16 (X_of_Y0 rfl (E_move (I y12.1) rfl (by kernel_rfl))) ?_
                  refine XL_takeC (y12.2) rfl rfl (by kernel_rfl) hc16 (X_of_Y0 rfl (E_move (I y6.1) rfl (by kernel_rfl))) ?_
                  refine XL_takeC (y12.2) rfl rfl (by kernel_rfl) hc16 (X_of_Y0 rfl (Y0_new (k := .i64) (a := y12.1) (b := y6.1) rfl (by kernel_rfl) (by kernel_rfl))) ?_
                  refine XL_takeC (bif (bif (!y11.2) then true else (!eqI y11.1 y6.1)) then true else (y12.2 != (ltI y5 (-4)))) rfl rfl (by kernel_rfl) hc15 (X_of_Y0 rfl (Y0_pick1 (b := y12.2) (p := !eqI y12.1 y6.1) (q := false) rfl (by kernel_rfl) hc16 (by kernel_rfl))) ?_
                  refine XL_cons rfl (X_of_Y0 rfl (Y0_pick0 (b := bif (bif (!y11.2) then true else (!eqI y11.1 y6.1)) then true else (y12.2 != (ltI y5 (-4)))) (p := true) (q := bif y12.2 then (!eqI y12.1 y6.1) else false) rfl (by kernel_rfl) hc15 (by kernel_rfl))) ?_
                  refine XL_nil ?_
                  subst ht17
                  kernel_rfl
                · refine XL_skipT (y12.2) rfl rfl (by kernel_rfl) hc16 rfl ?_
                  refine XL_skipT (y12.2) rfl rfl (by kernel_rfl) hc16 rfl ?_
                  refine XL_skipT (y12.2) rfl rfl (by kernel_rfl) hc16 rfl ?_
                  refine XL_takeC (bif (bif (!y11.2) then true else (!eqI y11.1 y6.1)) then true else (y12.2 != (ltI y5 (-4)))) rfl rfl (by kernel_rfl) hc15 (X_of_Y0 rfl (Y0_pick0 (b := y12.2) (p := !eqI y12.1 y6.1) (q := false) rfl (by kernel_rfl) hc16 (by kernel_rfl))) ?_
                  refine XL_cons rfl (X_of_Y0 rfl (Y0_pick0 (b := bif (bif (!y11.2) then true else (!eqI y11.1 y6.1)) then true else (y12.2 != (ltI y5 (-4)))) (p := true) (q := bif y12.2 then (!eqI y12.1 y6.1) else false) rfl (by kernel_rfl) hc15 (by kernel_rfl))) ?_
                  refine XL_nil ?_
                  subst ht17
                  kernel_rfl
        refine V_cond rfl (fun hc18 => ?_) (fun hc18 => ?_)
        · have h := of_true h hc18
          refine V_sreg [false, false, false, false, true, false, false, false, false, false, false, false, false, false, false, false, false, false, false, false, false, false, false, false, false, false, false, false, false, false, false, false, false, false, false, false, false, false, false, false, false, false, false, false, false, false, false, false, false, false, false, false, false, false, false, false, false, false, false, false, false, false, false, false, false, false, false, false, false, false, false, false, false, false, false, false, false, false, false, false, false, false, false, false, false, false, false, false, false, false, false, false, false, false, false, false, false, false, false, false, false, false, false, false, false, false, false, false, false, false, false, false, false, false, false, false, false, false, false, false, false, false, false, false, false, false, false, false, false, false, false, false, false] [] (s1 := ⟨[.bot, .bot, .bot, .bot, Bo false, .bot, .bot, .bot, .bot, .bot, .bot, .bot, .bot, .bot, .bot, .bot, .bot, .bot, .bot, .bot, .bot, .bot, .bot, .bot, .bot, .bot, .bot, .bot, .bot, .bot, .bot, .bot, .bot, .bot, .bot, .bot, .bot, .bot, .bot, .bot, .bot, .bot, .bot, .bot, .bot, .bot, .bot, .bot, .bot, .bot, .bot, .bot, .bot, .bot, .bot, .bot, .bot, .bot, .bot, .bot, .bot, .bot, .bot, .bot, .bot, .bot, .bot, .bot, .bot, .bot, .bot, .bot, .bot, .bot, .bot, .bot, .bot, .bot, .bot, .bot, .bot, .bot, .bot, .bot, .bot, .bot, .bot, .bot, .bot, .bot, .bot, .bot, .bot, .bot, .bot, .bot, .bot, .bot, .bot, .bot, .bot, .bot, .bot, .bot, .bot, .bot, .bot, .bot, .bot, .bot, .bot, .bot, .bot, .bot, .bot, .bot, .bot, .bot, .bot, .bot, .bot, .bot, .bot, .bot, .bot, .bot, .bot, .bot, .bot, .bot, .bot, .bot, .bot], []⟩) ?_ ?_
          · refine XL_cons rfl (X_of_Y0 rfl (E_assign (Bo false) rfl (by kernel_rfl))) ?_
            refine XL_nil ?_
            kernel_rfl
          refine V_ret ?_
          obtain rfl := some_inj h
          show Post _ _ _ _ _
          exact ⟨.inr rfl, rfl, rfl, rfl⟩
        · have h := of_false h hc18
          refine V_skip ?_
          show V _ _ _ _
          obtain ⟨y19, hy19, h⟩ := of_bind h
          refine V_sreg [false, false, false, false, false, false, false, false, false, false, false, false, false, false, true, false, false, false, false, false, false, false, false, false, false, false, false, false, false, false, false, false, false, false, false, false, false, false, false, false, false, false, false, false, false, false, false, false, false, false, false, false, false, false, false, false, false, false, false, false, false, false, false, false, false, false, false, false, false, false, false, false, false, false, false, false, false, false, false, false, false, false, false, false, false, false, false, false, false, false, false, false, false, false, false, false, false, false, false, false, false, false, false, false, false, false, false, false, false, false, false, false, false, false, false, false, false, false, false, false, false, false, false, false, false, false, false, false, false, false, false, false, false] [] (s1 := ⟨[.bot, .bot, .bot, .bot, .bot, .bot, .bot, .bot, .bot, .bot, .bot, .bot, .bot, .bot, I y19, .bot, .bot, .bot, .bot, .bot, .bot, .bot, .bot, .bot, .bot, .bot, .bot, .bot, .bot, .bot, .bot, .bot, .bot, .bot, .bot, .bot, .bot, .bot, .bot, .bot, .bot, .bot, .bot, .bot, .bot, .bot, .bot, .bot, .bot, .bot, .bot, .bot, .bot, .bot, .bot, .bot, .bot, .bot, .bot, .bot, .bot, .bot, .bot, .bot, .bot, .bot, .bot, .bot, .bot, .bot, .bot, .bot, .bot, .bot, .bot, .bot, .bot, .bot, .bot, .bot, .bot, .bot, .bot, .bot, .bot, .bot, .bot, .bot, .bot, .bot, .bot, .bot, .bot, .bot, .bot, .bot, .bot, .bot, .bot, .bot, .bot, .bot, .bot, .bot, .bot, .bot, .bot, .bot, .bot, .bot, .bot, .bot, .bot, .bot, .bot, .bot, .bot, .bot, .bot, .bot, .bot, .bot, .bot, .bot, .bot, .bot, .bot, .bot, .bot, .bot, .bot, .bot, .bot], []⟩) ?_ ?_
          · refine XL_cons rfl (X_of_Y0 rfl (E_move (.c (.sl (more2.map c5))) rfl (by kernel_rfl))) ?_
            refine XL_cons rfl (X_of_Y1 rfl (Y1_call (s_spec_DrawClassNumberByConductor hy19) cf_spec_DrawClassNumberByConductor rfl (by kernel_rfl))) ?_
            refine XL_cons rfl (X_of_Y0 rfl (E_assign (I y19) rfl (by kernel_rfl))) ?_
            refine XL_nil ?_
            kernel_rfl
          obtain ⟨y20, hy20, h⟩ := of_bind h
          refine V_sreg [false, false, false, false, false, false, false, false, false, false, false, false, false, false, true, true, true, false, false, false, false, false, false, false, false, false, false, false, false, false, false, false, false, false, false, false, false, false, false, false, false, false, false, false, false, false, false, false, false, false, false, false, false, false, false, false, false, false, false, false, false, false, false, false, false, false, false, false, false, false, false, false, false, false, false, false, false, false, false, false, false, false, false, false, false, false, false, false, false, false, false, false, false, false, false, false, false, false, false, false, false, false, false, false, false, false, false, false, false, false, false, false, false, false, false, false, false, false, false, false, false, false, false, false, false, false, false, false, false, false, false, false, false] [] (s1 := ⟨[.bot, .bot, .bot, .bot, .bot, .bot, .bot, .bot, .bot, .bot, .bot, .bot, .bot, .bot, I y19, I y20.1, Bo y20.2, .bot, .bot, .bot, .bot, .bot, .bot, .bot, .bot, .bot, .bot, .bot, .bot, .bot, .bot, .bot, .bot, .bot, .bot, .bot, .bot, .bot, .bot, .bot, .bot, .bot, .bot, .bot, .bot, .bot, .bot, .bot, .bot, .bot, .bot, .bot, .bot, .bot, .bot, .bot, .bot, .bot, .bot, .bot, .bot, .bot, .bot, .bot, .bot, .bot, .bot, .bot, .bot, .bot, .bot, .bot, .bot, .bot, .bot, .bot, .bot, .bot, .bot, .bot, .bot, .bot, .bot, .bot, .bot, .bot, .bot, .bot, .bot, .bot, .bot, .bot, .bot, .bot, .bot, .bot, .bot, .bot, .bot, .bot, .bot, .bot, .bot, .bot, .bot, .bot, .bot, .bot, .bot, .bot, .bot, .bot, .bot, .bot, .bot, .bot, .bot, .bot, .bot, .bot, .bot, .bot, .bot, .bot, .bot, .bot, .bot, .bot, .bot, .bot, .bot, .bot, .bot], []⟩) ?_ ?_
          · refine XL_cons rfl (X_of_Y0 rfl (E_move (I y19) rfl (by kernel_rfl))) ?_
            refine XL_cons rfl (X_of_Y1 rfl (Y1_call (s_impl_ClassNumberByConductor hy20) cf_impl_ClassNumberByConductor rfl (by kernel_rfl))) ?_
            refine XL_cons rfl (X_of_Y0 rfl (E_move (.tc (I y20.1) (.tc (Bo y20.2) .tn)) rfl (by kernel_rfl))) ?_
            refine XL_cons rfl (X_of_Y0 rfl (E_ext (n := 0) (I y20.1) (.tc (Bo y20.2) .tn) (I y20.1) rfl (by kernel_rfl) (by kernel_rfl) (by intro hh; cases hh))) ?_
            refine XL_cons rfl (X_of_Y0 rfl (E_ext (n := 1) (I y20.1) (.tc (Bo y20.2) .tn) (Bo y20.2) rfl (by kernel_rfl) (by kernel_rfl) (by intro hh; cases hh))) ?_
            refine XL_cons rfl (X_of_Y0 rfl (E_assign (I y20.1) rfl (by kernel_rfl))) ?_
            refine XL_cons rfl (X_of_Y0 rfl (E_assign (Bo y20.2) rfl (by kernel_rfl))) ?_
            refine XL_nil ?_
            kernel_rfl
          obtain ⟨y21, hy21, h⟩ := of_bind h
          refine V_sreg [false, false, false, false, false, false, false, false, false, false, false, false, false, false, true, true, true, true, true, false, false, false, false, false, false, false, false, false, false, false, false, false, false, false, false, false, false, false, false, false, false, false, false, false, false, false, false, false, false, false, false, false, false, false, false, false, false, false, false, false, false, false, false, false, false, false, false, false, false, false, false, false, false, false, false, false, false, false, false, false, false, false, false, false, false, false, false, false, false, false, false, false, false, false, false, false, false, false, false, false, false, false, false, false, false, false, false, false, false, false, false, false, false, false, false, false, false, false, false, false, false, false, false, false, false, false, false, false, false, false, false, false, false] [] (s1 := ⟨[.bot, .bot, .bot, .bot, .bot, .bot, .bot, .bot, .bot, .bot, .bot, .bot, .bot, .bot, I y19, I y20.1, Bo y20.2, I y21.1, Bo y21.2, .bot, .bot, .bot, .bot, .bot, .bot, .bot, .bot, .bot, .bot, .bot, .bot, .bot, .bot, .bot, .bot, .bot, .bot, .bot, .bot, .bot, .bot, .bot, .bot, .bot, .bot, .bot, .bot, .bot, .bot, .bot, .bot, .bot, .bot, .bot, .bot, .bot, .bot, .bot, .bot, .bot, .bot, .bot, .bot, .bot, .bot, .bot, .bot, .bot, .bot, .bot, .bot, .bot, .bot, .bot, .bot, .bot, .bot, .bot, .bot, .bot, .bot, .bot, .bot, .bot, .bot, .bot, .bot, .bot, .bot, .bot, .bot, .bot, .bot, .bot, .bot, .bot, .bot, .bot, .bot, .bot, .bot, .bot, .bot, .bot, .bot, .bot, .bot, .bot, .bot, .bot, .bot, .bot, .bot, .bot, .bot, .bot, .bot, .bot, .bot, .bot, .bot, .bot, .bot, .bot, .bot, .bot, .bot, .bot, .bot, .bot, .bot, .bot, .bot], []⟩) ?_ ?_
          · refine XL_cons rfl (X_of_Y0 rfl (E_move (I y19) rfl (by kernel_rfl))) ?_
            refine XL_cons rfl (X_of_Y1 rfl (Y1_call (s_spec_ClassNumberByConductor hy21) cf_spec_ClassNumberByConductor rfl (by kernel_rfl))) ?_
            refine XL_cons rfl (X_of_Y0 rfl (E_move (.tc (I y21.1) (.tc (Bo y21.2) .tn)) rfl (by kernel_rfl))) ?_
            refine XL_cons rfl (X_of_Y0 rfl (E_ext (n := 0) (I y21.1) (.tc (Bo y21.2) .tn) (I y21.1) rfl (by kernel_rfl) (by kernel_rfl) (by intro hh; cases hh))) ?_
            refine XL_cons rfl (X_of_Y0 rfl (E_ext (n := 1) (I y21.1) (.tc (Bo y21.2) .tn) (Bo y21.2) rfl (by kernel_rfl) (by kernel_rfl) (by intro hh; cases hh))) ?_
            refine XL_cons rfl (X_of_Y0 rfl (E_assign (I y21.1) rfl (by kernel_rfl))) ?_
            refine XL_cons rfl (X_of_Y0 rfl (E_assign (Bo y21.2) rfl (by kernel_rfl))) ?_
            refine XL_nil ?_
            kernel_rfl
          refine V_seq ?_
          refine V_sreg [false, false, false, false, false, false, false, false, false, false, false, false, false, false, true, true, true, false, false, false, false, false, false, false, false, false, false, false, false, false, false, false, false, false, false, false, false, false, false, false, false, false, false, false, false, false, false, false, false, false, false, false, false, false, false, false, false, false, false, false, false, false, false, false, false, false, false, false, false, false, false, false, false, false, false, false, false, false, false, false, false, false, false, false, false, false, false, false, false, false, false, false, false, false, false, false, false, false, false, true, false, false, false, false, false, false, false, false, false, false, false, false, false, false, false, false, false, false, false, false, false, false, false, false, false, false, false, false, false, false, false, false, false] [] (s1 := ⟨[.bot, .bot, .bot, .bot, .bot, .bot, .bot, .bot, .bot, .bot, .bot, .bot, .bot, .bot, I y19, I y20.1, Bo y20.2, .bot, .bot, .bot, .bot, .bot, .bot, .bot, .bot, .bot, .bot, .bot, .bot, .bot, .bot, .bot, .bot, .bot, .bot, .bot, .bot, .bot, .bot, .bot, .bot, .bot, .bot, .bot, .bot, .bot, .bot, .bot, .bot, .bot, .bot, .bot, .bot, .bot, .bot, .bot, .bot, .bot, .bot, .bot, .bot, .bot, .bot, .bot, .bot, .bot, .bot, .bot, .bot, .bot, .bot, .bot, .bot, .bot, .bot, .bot, .bot, .bot, .bot, .bot, .bot, .bot, .bot, .bot, .bot, .bot, .bot, .bot, .bot, .bot, .bot, .bot, .bot, .bot, .bot, .bot, .bot, .bot, .bot, Bo (bif (y20.2 != y21.2) then true else (!eqI y20.1 y21.1)), .bot, .bot, .bot, .bot, .bot, .bot, .bot, .bot, .bot, .bot, .bot, .bot, .bot, .bot, .bot, .bot, .bot, .bot, .bot, .bot, .bot, .bot, .bot, .bot, .bot, .bot, .bot, .bot, .bot, .bot, .bot, .bot, .bot], []⟩) ?_ ?_
          · refine XL_cons rfl (X_of_Y0 rfl (E_move (Bo y20.2) rfl (by kernel_rfl))) ?_
            refine XL_cons rfl (X_of_Y0 rfl (E_move (Bo y21.2) rfl (by kernel_rfl))) ?_
            refine XL_cons rfl (X_of_Y0 rfl (Y0_neb (a := y20.2) (b := y21.2) Try.underlying4 rfl (by kernel_rfl) (by kernel_rfl))) ?_
            refine XL_cons rfl (X_of_Y0 rfl (E_move (Bo (y20.2 != y21.2)) rfl (by kernel_rfl))) ?_
            refine XL_split (y20.2 != y21.2) (fun hc22 => ?_) (fun hc22 => ?_)
            · refine XL_skipF (y20.2 != y21.2) rfl rfl (by kernel_rfl) hc22 rfl ?_
              refine XL_skipF (y20.2 != y21.2) rfl rfl (by kernel_rfl) hc22 rfl ?_
              refine XL_skipF (y20.2 != y21.2) rfl rfl (by kernel_rfl) hc22 rfl ?_
              refine XL_cons rfl (X_of_Y0 rfl (Y0_pick1 (b := y20.2 != y21.2) (p := true) (q := !eqI y20.1 y21.1) rfl (by kernel_rfl) hc22 (by kernel_rfl))) ?_
              refine XL_nil ?_
              kernel_rfl
            · refine XL_takeC (y20.2 != y21.2) rfl rfl (by kernel_rfl) hc22 (X_of_Y0 rfl (E_move (I y20.1) rfl (by kernel_rfl))) ?_
              refine XL_takeC (y20.2 != y21.2) rfl rfl (by kernel_rfl) hc22 (X_of_Y0 rfl (E_move (I y21.1) rfl (by kernel_rfl))) ?_
              refine XL_takeC (y20.2 != y21.2) rfl rfl (by kernel_rfl) hc22 (X_of_Y0 rfl (Y0_new (k := .i64) (a := y20.1) (b := y21.1) rfl (by kernel_rfl) (by kernel_rfl))) ?_
              refine XL_cons rfl (X_of_Y0 rfl (Y0_pick0 (b := y20.2 != y21.2) (p := true) (q := !eqI y20.1 y21.1) rfl (by kernel_rfl) hc22 (by kernel_rfl))) ?_
              refine XL_nil ?_
              kernel_rfl
          refine V_cond rfl (fun hc23 => ?_) (fun hc23 => ?_)
          · have h := of_true h hc23
            refine V_sreg [false, false, false, false, true, false, false, false, false, false, false, false, false, false, false, false, false, false, false, false, false, false, false, false, false, false, false, false, false, false, false, false, false, false, false, false, false, false, false, false, false, false, false, false, false, false, false, false, false, false, false, false, false, false, false, false, false, false, false, false, false, false, false, false, false, false, false, false, false, false, false, false, false, false, false, false, false, false, false, false, false, false, false, false, false, false, false, false, false, false, false, false, false, false, false, false, false, false, false, false, false, false, false, false, false, false, false, false, false, false, false, false, false, false, false, false, false, false, false, false, false, false, false, false, false, false, false, false, false, false, false, false, false] [] (s1 := ⟨[.bot, .bot, .bot, .bot, Bo false, .bot, .bot, .bot, .bot, .bot, .bot, .bot, .bot, .bot, .bot, .bot, .bot, .bot, .bot, .bot, .bot, .bot, .bot, .bot, .bot, .bot, .bot, .bot, .bot, .bot, .bot, .bot, .bot, .bot, .bot, .bot, .bot, .bot, .bot, .bot, .bot, .bot, .bot, .bot, .bot, .bot, .bot, .bot, .bot, .bot, .bot, .bot, .bot, .bot, .bot, .bot, .bot, .bot, .bot, .bot, .bot, .bot, .bot, .bot, .bot, .bot, .bot, .bot, .bot, .bot, .bot, .bot, .bot, .bot, .bot, .bot, .bot, .bot, .bot, .bot, .bot, .bot, .bot, .bot, .bot, .bot, .bot, .bot, .bot, .bot, .bot, .bot, .bot, .bot, .bot, .bot, .bot, .bot, .bot, .bot, .bot, .bot, .bot, .bot, .bot, .bot, .bot, .bot, .bot, .bot, .bot, .bot, .bot, .bot, .bot, .bot, .bot, .bot, .bot, .bot, .bot, .bot, .bot, .bot, .bot, .bot, .bot, .bot, .bot, .bot, .bot, .bot, .bot], []⟩) ?_ ?_
            · refine XL_cons rfl (X_of_Y0 rfl (E_assign (Bo false) rfl (by kernel_rfl))) ?_
              refine XL_nil ?_
              kernel_rfl
            refine V_ret ?_
            obtain rfl := some_inj h
            show Post _ _ _ _ _
            exact ⟨.inr rfl, rfl, rfl, rfl⟩
          · have h := of_false h hc23
            refine V_skip ?_
            show V _ _ _ _
            refine V_seq ?_
            refine V_sreg [false, false, false, false, false, false, false, false, false, false, false, false, false, false, true, true, false, false, false, false, false, false, false, false, false, false, false, false, false, false, false, false, false, false, false, false, false, false, false, false, false, false, false, false, false, false, false, false, false, false, false, false, false, false, false, false, false, false, false, false, false, false, false, false, false, false, false, false, false, false, false, false, false, false, false, false, false, false, false, false, false, false, false, false, false, false, false, false, false, false, false, false, false, false, false, false, false, false, false, false, true, false, false, false, false, false, false, false, false, false, false, false, false, false, false, false, false, false, false, false, false, false, false, false, false, false, false, false, false, false, false, false, false] [] (s1 := ⟨[.bot, .bot, .bot, .bot, .bot, .bot, .bot, .bot, .bot, .bot, .bot, .bot, .bot, .bot, I y19, I y20.1, .bot, .bot, .bot, .bot, .bot, .bot, .bot, .bot, .bot, .bot, .bot, .bot, .bot, .bot, .bot, .bot, .bot, .bot, .bot, .bot, .bot, .bot, .bot, .bot, .bot, .bot, .bot, .bot, .bot, .bot, .bot, .bot, .bot, .bot, .bot, .bot, .bot, .bot, .bot, .bot, .bot, .bot, .bot, .bot, .bot, .bot, .bot, .bot, .bot, .bot, .bot, .bot, .bot, .bot, .bot, .bot, .bot, .bot, .bot, .bot, .bot, .bot, .bot, .bot, .bot, .bot, .bot, .bot, .bot, .bot, .bot, .bot, .bot, .bot, .bot, .bot, .bot, .bot, .bot, .bot, .bot, .bot, .bot, .bot, Bo y20.2, .bot, .bot, .bot, .bot, .bot, .bot, .bot, .bot, .bot, .bot, .bot, .bot, .bot, .bot, .bot, .bot, .bot, .bot, .bot, .bot, .bot, .bot, .bot, .bot, .bot, .bot, .bot, .bot, .bot, .bot, .bot, .bot], []⟩) ?_ ?_
            · refine XL_cons rfl (X_of_Y0 rfl (E_move (Bo y20.2) rfl (by kernel_rfl))) ?_
              refine XL_nil ?_
              kernel_rfl
            refine V_cond rfl (fun hc24 => ?_) (fun hc24 => ?_)
            · have h := of_true h hc24
              obtain ⟨y25, hy25, h⟩ := of_bind h
              refine V_sreg [false, false, false, false, false, false, false, false, false, false, false, false, false, false, true, true, false, false, false, true, true, false, false, false, false, false, false, false, false, false, false, false, false, false, false, false, false, false, false, false, false, false, false, false, false, false, false, false, false, false, false, false, false, false, false, false, false, false, false, false, false, false, false, false, false, false, false, false, false, false, false, false, false, false, false, false, false, false, false, false, false, false, false, false, false, false, false, false, false, false, false, false, false, false, false, false, false, false, false, false, false, false, false, false, false, false, false, false, false, false, false, false, false, false, false, false, false, false, false, false, false, false, false, false, false, false, false, false, false, false, false, false, false] [] (s1 := ⟨[.bot, .bot, .bot, .bot, .bot, .bot, .bot, .bot, .bot, .bot, .bot, .bot, .bot, .bot, I y19, I y20.1, .bot, .bot, .bot, I y25.1, Bo y25.2, .bot, .bot, .bot, .bot, .bot, .bot, .bot, .bot, .bot, .bot, .bot, .bot, .bot, .bot, .bot, .bot, .bot, .bot, .bot, .bot, .bot, .bot, .bot, .bot, .bot, .bot, .bot, .bot, .bot, .bot, .bot, .bot, .bot, .bot, .bot, .bot, .bot, .bot, .bot, .bot, .bot, .bot, .bot, .bot, .bot, .bot, .bot, .bot, .bot, .bot, .bot, .bot, .bot, .bot, .bot, .bot, .bot, .bot, .bot, .bot, .bot, .bot, .bot, .bot, .bot, .bot, .bot, .bot, .bot, .bot, .bot, .bot, .bot, .bot, .bot, .bot, .bot, .bot, .bot, .bot, .bot, .bot, .bot, .bot, .bot, .bot, .bot, .bot, .bot, .bot, .bot, .bot, .bot, .bot, .bot, .bot, .bot, .bot, .bot, .bot, .bot, .bot, .bot, .bot, .bot, .bot, .bot, .bot, .bot, .bot, .bot, .bot], []⟩) ?_ ?_
              · refine XL_cons rfl (X_of_Y0 rfl (E_move (I y19) rfl (by kernel_rfl))) ?_
                refine XL_cons rfl (X_of_Y1 rfl (Y1_call (s_impl_ClassNumber hy25) cf_impl_ClassNumber rfl (by kernel_rfl))) ?_
                refine XL_cons rfl (X_of_Y0 rfl (E_move (.tc (I y25.1) (.tc (Bo y25.2) .tn)) rfl (by kernel_rfl))) ?_
                refine XL_cons rfl (X_of_Y0 rfl (E_ext (n := 0) (I y25.1) (.tc (Bo y25.2) .tn) (I y25.1) rfl (by kernel_rfl) (by kernel_rfl) (by intro hh; cases hh))) ?_
                refine XL_cons rfl (X_of_Y0 rfl (E_ext (n := 1) (I y25.1) (.tc (Bo y25.2) .tn) (Bo y25.2) rfl (by kernel_rfl) (by kernel_rfl) (by intro hh; cases hh))) ?_
                refine XL_cons rfl (X_of_Y0 rfl (E_assign (I y25.1) rfl (by kernel_rfl))) ?_
                refine XL_cons rfl (X_of_Y0 rfl (E_assign (Bo y25.2) rfl (by kernel_rfl))) ?_
                refine XL_nil ?_
                kernel_rfl
              obtain ⟨y26, hy26, h⟩ := of_bind h
              refine V_sreg [false, false, false, false, false, false, false, false, false, false, false, false, false, false, true, true, false, false, false, true, true, true, true, false, false, false, false, false, false, false, false, false, false, false, false, false, false, false, false, false, false, false, false, false, false, false, false, false, false, false, false, false, false, false, false, false, false, false, false, false, false, false, false, false, false, false, false, false, false, false, false, false, false, false, false, false, false, false, false, false, false, false, false, false, false, false, false, false, false, false, false, false, false, false, false, false, false, false, false, false, false, false, false, false, false, false, false, false, false, false, false, false, false, false, false, false, false, false, false, false, false, false, false, false, false, false, false, false, false, false, false, false, false] [864] (s1 := ⟨[.bot, .bot, .bot, .bot, .bot, .bot, .bot, .bot, .bot, .bot, .bot, .bot, .bot, .bot, I y19, I y20.1, .bot, .bot, .bot, I y25.1, Bo y25.2, .ow 864, Bo y26.2, .bot, .bot, .bot, .bot, .bot, .bot, .bot, .bot, .bot, .bot, .bot, .bot, .bot, .bot, .bot, .bot, .bot, .bot, .bot, .bot, .bot, .bot, .bot, .bot, .bot, .bot, .bot, .bot, .bot, .bot, .bot, .bot, .bot, .bot, .bot, .bot, .bot, .bot, .bot, .bot, .bot, .bot, .bot, .bot, .bot, .bot, .bot, .bot, .bot, .bot, .bot, .bot, .bot, .bot, .bot, .bot, .bot, .bot, .bot, .bot, .bot, .bot, .bot, .bot, .bot, .bot, .bot, .bot, .bot, .bot, .bot, .bot, .bot, .bot, .bot, .bot, .bot, .bot, .bot, .bot, .bot, .bot, .bot, .bot, .bot, .bot, .bot, .bot, .bot, .bot, .bot, .bot, .bot, .bot, .bot, .bot, .bot, .bot, .bot, .bot, .bot, .bot, .bot, .bot, .bot, .bot, .bot, .bot, .bot, .bot], [(864, .arr 3 1 (y26.1.map c3))]⟩) ?_ ?_
              · refine XL_cons rfl (X_of_Y0 rfl (E_move (I y19) rfl (by kernel_rfl))) ?_
                refine XL_cons rfl (X_of_Y1 rfl (Y1_call (s_impl_OrdersAbove hy26) cf_impl_OrdersAbove rfl (by kernel_rfl))) ?_
                refine XL_cons rfl (X_of_Y0 rfl (E_move (.tc (.ow 864) (.tc (Bo y26.2) .tn)) rfl (by kernel_rfl))) ?_
                refine XL_cons rfl (X_of_Y0 rfl (E_ext (n := 0) (.ow 864) (.tc (Bo y26.2) .tn) (.ow 864) rfl (by kernel_rfl) (by kernel_rfl) (by intro hh; cases hh))) ?_
                refine XL_cons rfl (X_of_Y0 rfl (E_ext (n := 1) (.ow 864) (.tc (Bo y26.2) .tn) (Bo y26.2) rfl (by kernel_rfl) (by kernel_rfl) (by intro hh; cases hh))) ?_
                refine XL_cons rfl (X_of_Y0 rfl (E_assign (.ow 864) rfl (by kernel_rfl))) ?_
                refine XL_cons rfl (X_of_Y0 rfl (E_assign (Bo y26.2) rfl (by kernel_rfl))) ?_
                refine XL_nil ?_
                kernel_rfl
              obtain ⟨y27, hy27, h⟩ := of_bind h
              refine V_sreg [false, false, false, false, false, false, false, false, false, false, false, false, false, false, false, true, false, false, false, true, true, true, true, true, true, false, false, false, false, false, false, false, false, false, false, false, false, false, false, false, false, false, false, false, false, false, false, false, false, false, false, false, false, false, false, false, false, false, false, false, false, false, false, false, false, false, false, false, false, false, false, false, false, false, false, false, false, false, false, false, false, false, false, false, false, false, false, false, false, false, false, false, false, false, false, false, false, false, false, false, false, false, false, false, false, false, false, false, false, false, false, false, false, false, false, false, false, false, false, false, false, false, false, false, false, false, false, false, false, false, false, false, false] [904, 864] (s1 := ⟨[.bot, .bot, .bot, .bot, .bot, .bot, .bot, .bot, .bot, .bot, .bot, .bot, .bot, .bot, .bot, I y20.1, .bot, .bot, .bot, I y25.1, Bo y25.2, .ow 864, Bo y26.2, .ow 904, Bo y27.2, .bot, .bot, .bot, .bot, .bot, .bot, .bot, .bot, .bot, .bot, .bot, .bot, .bot, .bot, .bot, .bot, .bot, .bot, .bot, .bot, .bot, .bot, .bot, .bot, .bot, .bot, .bot, .bot, .bot, .bot, .bot, .bot, .bot, .bot, .bot, .bot, .bot, .bot, .bot, .bot, .bot, .bot, .bot, .bot, .bot, .bot, .bot, .bot, .bot, .bot, .bot, .bot, .bot, .bot, .bot, .bot, .bot, .bot, .bot, .bot, .bot, .bot, .bot, .bot, .bot, .bot, .bot, .bot, .bot, .bot, .bot, .bot, .bot, .bot, .bot, .bot, .bot, .bot, .bot, .bot, .bot, .bot, .bot, .bot, .bot, .bot, .bot, .bot, .bot, .bot, .bot, .bot, .bot, .bot, .bot, .bot, .bot, .bot, .bot, .bot, .bot, .bot, .bot, .bot, .bot, .bot, .bot, .bot], [(904, .arr 3 1 (y27.1.map c3)), (864, .arr 3 1 (y26.1.map c3))]⟩) ?_ ?_
              · refine XL_cons rfl (X_of_Y0 rfl (E_move (I y19) rfl (by kernel_rfl))) ?_
                refine XL_cons rfl (X_of_Y1 rfl (Y1_call (s_impl_OverDiscriminants hy27) cf_impl_OverDiscriminants rfl (by kernel_rfl))) ?_
                refine XL_cons rfl (X_of_Y0 rfl (E_move (.tc (.ow 904) (.tc (Bo y27.2) .tn)) rfl (by kernel_rfl))) ?_
                refine XL_cons rfl (X_of_Y0 rfl (E_ext (n := 0) (.ow 904) (.tc (Bo y27.2) .tn) (.ow 904) rfl (by kernel_rfl) (by kernel_rfl) (by intro hh; cases hh))) ?_
                refine XL_cons rfl (X_of_Y0 rfl (E_ext (n := 1) (.ow 904) (.tc (Bo y27.2) .tn) (Bo y27.2) rfl (by kernel_rfl) (by kernel_rfl) (by intro hh; cases hh))) ?_
                refine XL_cons rfl (X_of_Y0 rfl (E_assign (.ow 904) rfl (by kernel_rfl))) ?_
                refine XL_cons rfl (X_of_Y0 rfl (E_assign (Bo y27.2) rfl (by kernel_rfl))) ?_
                refine XL_nil ?_
                kernel_rfl
              obtain ⟨b33, hb33, h⟩ := of_bind h
              refine V_sreg [false, false, false, false, true, false, false, false, false, false, false, false, false, false, false, false, false, false, false, false, false, false, false, false, false, false, false, false, false, false, false, false, false, false, false, false, false, false, false, false, false, false, false, false, false, false, false, false, false, false, false, false, false, false, false, false, false, false, false, false, false, false, false, false, false, false, false, false, false, false, false, false, false, false, false, false, false, false, false, false, false, false, false, false, false, false, false, false, false, false, false, false, false, false, false, false, false, false, false, false, false, false, false, false, false, false, false, false, false, false, false, false, false, false, false, false, false, false, false, false, false, false, false, false, false, false, false, false, false, false, false, false, false] [] (s1 := ⟨[.bot, .bot, .bot, .bot, Bo b33, .bot, .bot, .bot, .bot, .bot, .bot, .bot, .bot, .bot, .bot, .bot, .bot, .bot, .bot, .bot, .bot, .bot, .bot, .bot, .bot, .bot, .bot, .bot, .bot, .bot, .bot, .bot, .bot, .bot, .bot, .bot, .bot, .bot, .bot, .bot, .bot, .bot, .bot, .bot, .bot, .bot, .bot, .bot, .bot, .bot, .bot, .bot, .bot, .bot, .bot, .bot, .bot, .bot, .bot, .bot, .bot, .bot, .bot, .bot, .bot, .bot, .bot, .bot, .bot, .bot, .bot, .bot, .bot, .bot, .bot, .bot, .bot, .bot, .bot, .bot, .bot, .bot, .bot, .bot, .bot, .bot, .bot, .bot, .bot, .bot, .bot, .bot, .bot, .bot, .bot, .bot, .bot, .bot, .bot, .bot, .bot, .bot, .bot, .bot, .bot, .bot, .bot, .bot, .bot, .bot, .bot, .bot, .bot, .bot, .bot, .bot, .bot, .bot, .bot, .bot, .bot, .bot, .bot, .bot, .bot, .bot, .bot, .bot, .bot, .bot, .bot, .bot, .bot], []⟩) ?_ ?_
              · refine XL_cons rfl (X_of_Y0 rfl (E_move (Bo y25.2) rfl (by kernel_rfl))) ?_
                refine XL_cons rfl (X_of_Y0 rfl (E_move (Bo y25.2) rfl (by kernel_rfl))) ?_
                refine XL_split y25.2 (fun hc28 => ?_) (fun hc28 => ?_)
                · refine XL_takeC (y25.2) rfl rfl (by kernel_rfl) hc28 (X_of_Y0 rfl (E_move (I y25.1) rfl (by kernel_rfl))) ?_
                  refine XL_takeC (y25.2) rfl rfl (by kernel_rfl) hc28 (X_of_Y0 rfl (E_move (I y20.1) rfl (by kernel_rfl))) ?_
                  refine XL_takeC (y25.2) rfl rfl (by kernel_rfl) hc28 (X_of_Y0 rfl (Y0_eqw (k := .i64) (a := y25.1) (b := y20.1) rfl (by kernel_rfl) (by kernel_rfl))) ?_
                  refine XL_cons rfl (X_of_Y0 rfl (Y0_pick1 (b := y25.2) (p := eqI y25.1 y20.1) (q := false) rfl (by kernel_rfl) hc28 (by kernel_rfl))) ?_
                  refine XL_cons rfl (X_of_Y0 rfl (E_move (Bo (bif y25.2 then (eqI y25.1 y20.1) else false)) rfl (by kernel_rfl))) ?_
                  refine XL_split (bif y25.2 then (eqI y25.1 y20.1) else false) (fun hc29 => ?_) (fun hc29 => ?_)
                  · refine XL_takeC (bif y25.2 then (eqI y25.1 y20.1) else false) rfl rfl (by kernel_rfl) hc29 (X_of_Y0 rfl (E_move (Bo y26.2) rfl (by kernel_rfl))) ?_
                    refine XL_cons rfl (X_of_Y0 rfl (Y0_pick1 (b := bif y25.2 then (eqI y25.1 y20.1) else false) (p := y26.2) (q := false) rfl (by kernel_rfl) hc29 (by kernel_rfl))) ?_
                    refine XL_cons rfl (X_of_Y0 rfl (E_move (Bo (bif (bif y25.2 then (eqI y25.1 y20.1) else false) then y26.2 else false)) rfl (by kernel_rfl))) ?_
                    refine XL_split (bif (bif y25.2 then (eqI y25.1 y20.1) else false) then y26.2 else false) (fun hc30 => ?_) (fun hc30 => ?_)
                    · refine XL_takeC (bif (bif y25.2 then (eqI y25.1 y20.1) else false) then y26.2 else false) rfl rfl (by kernel_rfl) hc30 (X_of_Y0 rfl (E_move (Bo y27.2) rfl (by kernel_rfl))) ?_
                      refine XL_cons rfl (X_of_Y0 rfl (Y0_pick1 (b := bif (bif y25.2 then (eqI y25.1 y20.1) else false) then y26.2 else false) (p := y27.2) (q := false) rfl (by kernel_rfl) hc30 (by kernel_rfl))) ?_
                      refine XL_cons rfl (X_of_Y0 rfl (E_move (Bo (bif (bif (bif y25.2 then (eqI y25.1 y20.1) else false) then y26.2 else false) then y27.2 else false)) rfl (by kernel_rfl))) ?_
                      refine XL_split (bif (bif (bif y25.2 then (eqI y25.1 y20.1) else false) then y26.2 else false) then y27.2 else false) (fun hc31 => ?_) (fun hc31 => ?_)
                      · have hb33 := of_true hb33 hc31
                        obtain ⟨y32, hy32, hb33⟩ := of_bind hb33
                        have hb33 := some_inj hb33
                        refine XL_takeC (bif (bif (bif y25.2 then (eqI y25.1 y20.1) else false) then y26.2 else false) then y27.2 else false) rfl rfl (by kernel_rfl) hc31 (X_of_Y0 rfl (E_move (.ow 864) rfl (by kernel_rfl))) ?_
                        refine XL_takeC (bif (bif (bif y25.2 then (eqI y25.1 y20.1) else false) then y26.2 else false) then y27.2 else false) rfl rfl (by kernel_rfl) hc31 (X_of_Y0 rfl (E_move (.ow 904) rfl (by kernel_rfl))) ?_
                        refine XL_takeC (bif (bif (bif y25.2 then (eqI y25.1 y20.1) else false) then y26.2 else false) then y27.2 else false) rfl rfl (by kernel_rfl) hc31 (X_of_Y1 rfl (Y1_callS (s_laws_sameInts hy32) cf_laws_sameInts rfl (by kernel_rfl) rfl rfl)) ?_
                        refine XL_cons rfl (X_of_Y0 rfl (Y0_pickTe (b := bif (bif (bif y25.2 then (eqI y25.1 y20.1) else false) then y26.2 else false) then y27.2 else false) (p := y32) rfl (by kernel_rfl) hc31 (by kernel_rfl) hb33)) ?_
                        refine XL_cons rfl (X_of_Y0 rfl (E_assign (Bo b33) rfl (by kernel_rfl))) ?_
                        refine XL_nil ?_
                        kernel_rfl
                      · have hb33 := some_inj (of_false hb33 hc31)
                        refine XL_skipT (bif (bif (bif y25.2 then (eqI y25.1 y20.1) else false) then y26.2 else false) then y27.2 else false) rfl rfl (by kernel_rfl) hc31 rfl ?_
                        refine XL_skipT (bif (bif (bif y25.2 then (eqI y25.1 y20.1) else false) then y26.2 else false) then y27.2 else false) rfl rfl (by kernel_rfl) hc31 rfl ?_
                        refine XL_skipT (bif (bif (bif y25.2 then (eqI y25.1 y20.1) else false) then y26.2 else false) then y27.2 else false) rfl rfl (by kernel_rfl) hc31 rfl ?_
                        refine XL_cons rfl (X_of_Y0 rfl (Y0_pickFe (b := bif (bif (bif y25.2 then (eqI y25.1 y20.1) else false) then y26.2 else false) then y27.2 else false) (p := false) rfl (by kernel_rfl) hc31 (by kernel_rfl) hb33)) ?_
                        refine XL_cons rfl (X_of_Y0 rfl (E_assign (Bo b33) rfl (by kernel_rfl))) ?_
                        refine XL_nil ?_
                        kernel_rfl
                    · refine XL_skipT (bif (bif y25.2 then (eqI y25.1 y20.1) else false) then y26.2 else false) rfl rfl (by kernel_rfl) hc30 rfl ?_
                      refine XL_cons rfl (X_of_Y0 rfl (Y0_pick0 (b := bif (bif y25.2 then (eqI y25.1 y20.1) else false) then y26.2 else false) (p := y27.2) (q := false) rfl (by kernel_rfl) hc30 (by kernel_rfl))) ?_
                      refine XL_cons rfl (X_of_Y0 rfl (E_move (Bo (bif (bif (bif y25.2 then (eqI y25.1 y20.1) else false) then y26.2 else false) then y27.2 else false)) rfl (by kernel_rfl))) ?_
                      refine XL_split (bif (bif (bif y25.2 then (eqI y25.1 y20.1) else false) then y26.2 else false) then y27.2 else false) (fun hc31 => ?_) (fun hc31 => ?_)
                      · have hb33 := of_true hb33 hc31
                        obtain ⟨y32, hy32, hb33⟩ := of_bind hb33
                        have hb33 := some_inj hb33
                        refine XL_takeC (bif (bif (bif y25.2 then (eqI y25.1 y20.1) else false) then y26.2 else false) then y27.2 else false) rfl rfl (by kernel_rfl) hc31 (X_of_Y0 rfl (E_move (.ow 864) rfl (by kernel_rfl))) ?_
                        refine XL_takeC (bif (bif (bif y25.2 then (eqI y25.1 y20.1) else false) then y26.2 else false) then y27.2 else false) rfl rfl (by kernel_rfl) hc31 (X_of_Y0 rfl (E_move (.ow 904) rfl (by kernel_rfl))) ?_
                        refine XL_takeC (bif (bif (bif y25.2 then (eqI y25.1 y20.1) else false) then y26.2 else false) then y27.2 else false) rfl rfl (by kernel_rfl) hc31 (X_of_Y1 rfl (Y1_callS (s_laws_sameInts hy32) cf_laws_sameInts rfl (by kernel_rfl) rfl rfl)) ?_
                        refine XL_cons rfl (X_of_Y0 rfl (Y0_pickTe (b := bif (bif (bif y25.2 then (eqI y25.1 y20.1) else false) then y26.2 else false) then y27.2 else false) (p := y32) rfl (by kernel_rfl) hc31 (by kernel_rfl) hb33)) ?_
                        refine XL_cons rfl (X_of_Y0 rfl (E_assign (Bo b33) rfl (by kernel_rfl))) ?_
                        refine XL_nil ?_
                        kernel_rfl
                      · have hb33 := some_inj (of_false hb33 hc31)
                        refine XL_skipT (bif (bif (bif y25.2 then (eqI y25.1 y20.1) else false) then y26.2 else false) then y27.2 else false) rfl rfl (by kernel_rfl) hc31 rfl ?_
                        refine XL_skipT (bif (bif (bif y25.2 then (eqI y25.1 y20.1) else false) then y26.2 else false) then y27.2 else false) rfl rfl (by kernel_rfl) hc31 rfl ?_
                        refine XL_skipT (bif (bif (bif y25.2 then (eqI y25.1 y20.1) else false) then y26.2 else false) then y27.2 else false) rfl rfl (by kernel_rfl) hc31 rfl ?_
                        refine XL_cons rfl (X_of_Y0 rfl (Y0_pickFe (b := bif (bif (bif y25.2 then (eqI y25.1 y20.1) else false) then y26.2 else false) then y27.2 else false) (p := false) rfl (by kernel_rfl) hc31 (by kernel_rfl) hb33)) ?_
                        refine XL_cons rfl (X_of_Y0 rfl (E_assign (Bo b33) rfl (by kernel_rfl))) ?_
                        refine XL_nil ?_
                        kernel_rfl
                  · refine XL_skipT (bif y25.2 then (eqI y25.1 y20.1) else false) rfl rfl (by kernel_rfl) hc29 rfl ?_
                    refine XL_cons rfl (X_of_Y0 rfl (Y0_pick0 (b := bif y25.2 then (eqI y25.1 y20.1) else false) (p := y26.2) (q := false) rfl (by kernel_rfl) hc29 (by kernel_rfl))) ?_
                    refine XL_cons rfl (X_of_Y0 rfl (E_move (Bo (bif (bif y25.2 then (eqI y25.1 y20.1) else false) then y26.2 else false)) rfl (by kernel_rfl))) ?_
                    refine XL_split (bif (bif y25.2 then (eqI y25.1 y20.1) else false) then y26.2 else false) (fun hc30 => ?_) (fun hc30 => ?_)
                    · refine XL_takeC (bif (bif y25.2 then (eqI y25.1 y20.1) else false) then y26.2 else false) rfl rfl (by kernel_rfl) hc30 (X_of_Y0 rfl (E_move (Bo y27.2) rfl (by kernel_rfl))) ?_
                      refine XL_cons rfl (X_of_Y0 rfl (Y0_pick1 (b := bif (bif y25.2 then (eqI y25.1 y20.1) else false) then y26.2 else false) (p := y27.2) (q := false) rfl (by kernel_rfl) hc30 (by kernel_rfl))) ?_
                      refine XL_cons rfl (X_of_Y0 rfl (E_move (Bo (bif (bif (bif y25.2 then (eqI y25.1 y20.1) else false) then y26.2 else false) then y27.2 else false)) rfl (by kernel_rfl))) ?_
                      refine XL_split (bif (bif (bif y25.2 then (eqI y25.1 y20.1) else false) then y26.2 else false) then y27.2 else false) (fun hc31 => ?_) (fun hc31 => ?_)
                      · have hb33 := of_true hb33 hc31
                        obtain ⟨y32, hy32, hb33⟩ := of_bind hb33
                        have hb33 := some_inj hb33
                        refine XL_takeC (bif (bif (bif y25.2 then (eqI y25.1 y20.1) else false) then y26.2 else false) then y27.2 else false) rfl rfl (by kernel_rfl) hc31 (X_of_Y0 rfl (E_move (.ow 864) rfl (by kernel_rfl))) ?_
                        refine XL_takeC (bif (bif (bif y25.2 then (eqI y25.1 y20.1) else false) then y26.2 else false) then y27.2 else false) rfl rfl (by kernel_rfl) hc31 (X_of_Y0 rfl (E_move (.ow 904) rfl (by kernel_rfl))) ?_
                        refine XL_takeC (bif (bif (bif y25.2 then (eqI y25.1 y20.1) else false) then y26.2 else false) then y27.2 else false) rfl rfl (by kernel_rfl) hc31 (X_of_Y1 rfl (Y1_callS (s_laws_sameInts hy32) cf_laws_sameInts rfl (by kernel_rfl) rfl rfl)) ?_
                        refine XL_cons rfl (X_of_Y0 rfl (Y0_pickTe (b := bif (bif (bif y25.2 then (eqI y25.1 y20.1) else false) then y26.2 else false) then y27.2 else false) (p := y32) rfl (by kernel_rfl) hc31 (by kernel_rfl) hb33)) ?_
                        refine XL_cons rfl (X_of_Y0 rfl (E_assign (Bo b33) rfl (by kernel_rfl))) ?_
                        refine XL_nil ?_
                        kernel_rfl
                      · have hb33 := some_inj (of_false hb33 hc31)
                        refine XL_skipT (bif (bif (bif y25.2 then (eqI y25.1 y20.1) else false) then y26.2 else false) then y27.2 else false) rfl rfl (by kernel_rfl) hc31 rfl ?_
                        refine XL_skipT (bif (bif (bif y25.2 then (eqI y25.1 y20.1) else false) then y26.2 else false) then y27.2 else false) rfl rfl (by kernel_rfl) hc31 rfl ?_
                        refine XL_skipT (bif (bif (bif y25.2 then (eqI y25.1 y20.1) else false) then y26.2 else false) then y27.2 else false) rfl rfl (by kernel_rfl) hc31 rfl ?_
                        refine XL_cons rfl (X_of_Y0 rfl (Y0_pickFe (b := bif (bif (bif y25.2 then (eqI y25.1 y20.1) else false) then y26.2 else false) then y27.2 else false) (p := false) rfl (by kernel_rfl) hc31 (by kernel_rfl) hb33)) ?_
                        refine XL_cons rfl (X_of_Y0 rfl (E_assign (Bo b33) rfl (by kernel_rfl))) ?_
                        refine XL_nil ?_
                        kernel_rfl
                    · refine XL_skipT (bif (bif y25.2 then (eqI y25.1 y20.1) else false) then y26.2 else false) rfl rfl (by kernel_rfl) hc30 rfl ?_
                      refine XL_cons rfl (X_of_Y0 rfl (Y0_pick0 (b := bif (bif y25.2 then (eqI y25.1 y20.1) else false) then y26.2 else false) (p := y27.2) (q := false) rfl (by kernel_rfl) hc30 (by kernel_rfl))) ?_
                      refine XL_cons rfl (X_of_Y0 rfl (E_move (Bo (bif (bif (bif y25.2 then (eqI y25.1 y20.1) else false) then y26.2 else false) then y27.2 else false)) rfl (by kernel_rfl))) ?_
                      refine XL_split (bif (bif (bif y25.2 then (eqI y25.1 y20.1) else false) then y26.2 else false) then y27.2 else false) (fun hc31 => ?_) (fun hc31 => ?_)
                      · have hb33 := of_true hb33 hc31
                        obtain ⟨y32, hy32, hb33⟩ := of_bind hb33
                        have hb33 := some_inj hb33
                        refine XL_takeC (bif (bif (bif y25.2 then (eqI y25.1 y20.1) else false) then y26.2 else false) then y27.2 else false) rfl rfl (by kernel_rfl) hc31 (X_of_Y0 rfl (E_move (.ow 864) rfl (by kernel_rfl))) ?_
                        refine XL_takeC (bif (bif (bif y25.2 then (eqI y25.1 y20.1) else false) then y26.2 else false) then y27.2 else false) rfl rfl (by kernel_rfl) hc31 (X_of_Y0 rfl (E_move (.ow 904) rfl (by kernel_rfl))) ?_
                        refine XL_takeC (bif (bif (bif y25.2 then (eqI y25.1 y20.1) else false) then y26.2 else false) then y27.2 else false) rfl rfl (by kernel_rfl) hc31 (X_of_Y1 rfl (Y1_callS (s_laws_sameInts hy32) cf_laws_sameInts rfl (by kernel_rfl) rfl rfl)) ?_
                        refine XL_cons rfl (X_of_Y0 rfl (Y0_pickTe (b := bif (bif (bif y25.2 then (eqI y25.1 y20.1) else false) then y26.2 else false) then y27.2 else false) (p := y32) rfl (by kernel_rfl) hc31 (by kernel_rfl) hb33)) ?_
                        refine XL_cons rfl (X_of_Y0 rfl (E_assign (Bo b33) rfl (by kernel_rfl))) ?_
                        refine XL_nil ?_
                        kernel_rfl
                      · have hb33 := some_inj (of_false hb33 hc31)
                        refine XL_skipT (bif (bif (bif y25.2 then (eqI y25.1 y20.1) else false) then y26.2 else false) then y27.2 else false) rfl rfl (by kernel_rfl) hc31 rfl ?_
                        refine XL_skipT (bif (bif (bif y25.2 then (eqI y25.1 y20.1) else false) then y26.2 else false) then y27.2 else false) rfl rfl (by kernel_rfl) hc31 rfl ?_
                        refine XL_skipT (bif (bif (bif y25.2 then (eqI y25.1 y20.1) else false) then y26.2 else false) then y27.2 else false) rfl rfl (by kernel_rfl) hc31 rfl ?_
                        refine XL_cons rfl (X_of_Y0 rfl (Y0_pickFe (b := bif (bif (bif y25.2 then (eqI y25.1 y20.1) else false) then y26.2 else false) then y27.2 else false) (p := false) rfl (by kernel_rfl) hc31 (by kernel_rfl) hb33)) ?_
                        refine XL_cons rfl (X_of_Y0 rfl (E_assign (Bo b33) rfl (by kernel_rfl))) ?_
                        refine XL_nil ?_
                        kernel_rfl
                · refine XL_skipT (y25.2) rfl rfl (by kernel_rfl) hc28 rfl ?_
                  refine XL_skipT (y25.2) rfl rfl (by kernel_rfl) hc28 rfl ?_
                  refine XL_skipT (y25.2) rfl rfl (by kernel_rfl) hc28 rfl ?_
                  refine XL_cons rfl (X_of_Y0 rfl (Y0_pick0 (b := y25.2) (p := eqI y25.1 y20.1) (q := false) rfl (by kernel_rfl) hc28 (by kernel_rfl))) ?_
                  refine XL_cons rfl (X_of_Y0 rfl (E_move (Bo (bif y25.2 then (eqI y25.1 y20.1) else false)) rfl (by kernel_rfl))) ?_
                  refine XL_split (bif y25.2 then (eqI y25.1 y20.1) else false) (fun hc29 => ?_) (fun hc29 => ?_)
                  · refine XL_takeC (bif y25.2 then (eqI y25.1 y20.1) else false) rfl rfl (by kernel_rfl) hc29 (X_of_Y0 rfl (E_move (Bo y26.2) rfl (by kernel_rfl))) ?_
                    refine XL_cons rfl (X_of_Y0 rfl (Y0_pick1 (b := bif y25.2 then (eqI y25.1 y20.1) else false) (p := y26.2) (q := false) rfl (by kernel_rfl) hc29 (by kernel_rfl))) ?_
                    refine XL_cons rfl (X_of_Y0 rfl (E_move (Bo (bif (bif y25.2 then (eqI y25.1 y20.1) else false) then y26.2 else false)) rfl (by kernel_rfl))) ?_
                    refine XL_split (bif (bif y25.2 then (eqI y25.1 y20.1) else false) then y26.2 else false) (fun hc30 => ?_) (fun hc30 => ?_)
                    · refine XL_takeC (bif (bif y25.2 then (eqI y25.1 y20.1) else false) then y26.2 else false) rfl rfl (by kernel_rfl) hc30 (X_of_Y0 rfl (E_move (Bo y27.2) rfl (by kernel_rfl))) ?_
                      refine XL_cons rfl (X_of_Y0 rfl (Y0_pick1 (b := bif (bif y25.2 then (eqI y25.1 y20.1) else false) then y26.2 else false) (p := y27.2) (q := false) rfl (by kernel_rfl) hc30 (by kernel_rfl))) ?_
                      refine XL_cons rfl (X_of_Y0 rfl (E_move (Bo (bif (bif (bif y25.2 then (eqI y25.1 y20.1) else false) then y26.2 else false) then y27.2 else false)) rfl (by kernel_rfl))) ?_
                      refine XL_split (bif (bif (bif y25.2 then (eqI y25.1 y20.1) else false) then y26.2 else false) then y27.2 else false) (fun hc31 => ?_) (fun hc31 => ?_)
                      · have hb33 := of_true hb33 hc31
                        obtain ⟨y32, hy32, hb33⟩ := of_bind hb33
                        have hb33 := some_inj hb33
                        refine XL_takeC (bif (bif (bif y25.2 then (eqI y25.1 y20.1) else false) then y26.2 else false) then y27.2 else false) rfl rfl (by kernel_rfl) hc31 (X_of_Y0 rfl (E_move (.ow 864) rfl (by kernel_rfl))) ?_
                        refine XL_takeC (bif (bif (bif y25.2 then (eqI y25.1 y20.1) else false) then y26.2 else false) then y27.2 else false) rfl rfl (by kernel_rfl) hc31 (X_of_Y0 rfl (E_move (.ow 904) rfl (by kernel_rfl))) ?_
                        refine XL_takeC (bif (bif (bif y25.2 then (eqI y25.1 y20.1) else false) then y26.2 else false) then y27.2 else false) rfl rfl (by kernel_rfl) hc31 (X_of_Y1 rfl (Y1_callS (s_laws_sameInts hy32) cf_laws_sameInts rfl (by kernel_rfl) rfl rfl)) ?_
                        refine XL_cons rfl (X_of_Y0 rfl (Y0_pickTe (b := bif (bif (bif y25.2 then (eqI y25.1 y20.1) else false) then y26.2 else false) then y27.2 else false) (p := y32) rfl (by kernel_rfl) hc31 (by kernel_rfl) hb33)) ?_
                        refine XL_cons rfl (X_of_Y0 rfl (E_assign (Bo b33) rfl (by kernel_rfl))) ?_
                        refine XL_nil ?_
                        kernel_rfl
                      · have hb33 := some_inj (of_false hb33 hc31)
                        refine XL_skipT (bif (bif (bif y25.2 then (eqI y25.1 y20.1) else false) then y26.2 else false) then y27.2 else false) rfl rfl (by kernel_rfl) hc31 rfl ?_
                        refine XL_skipT (bif (bif (bif y25.2 then (eqI y25.1 y20.1) else false) then y26.2 else false) then y27.2 else false) rfl rfl (by kernel_rfl) hc31 rfl ?_
                        refine XL_skipT (bif (bif (bif y25.2 then (eqI y25.1 y20.1) else false) then y26.2 else false) then y27.2 else false) rfl rfl (by kernel_rfl) hc31 rfl ?_
                        refine XL_cons rfl (X_of_Y0 rfl (Y0_pickFe (b := bif (bif (bif y25.2 then (eqI y25.1 y20.1) else false) then y26.2 else false) then y27.2 else false) (p := false) rfl (by kernel_rfl) hc31 (by kernel_rfl) hb33)) ?_
                        refine XL_cons rfl (X_of_Y0 rfl (E_assign (Bo b33) rfl (by kernel_rfl))) ?_
                        refine XL_nil ?_
                        kernel_rfl
                    · refine XL_skipT (bif (bif y25.2 then (eqI y25.1 y20.1) else false) then y26.2 else false) rfl rfl (by kernel_rfl) hc30 rfl ?_
                      refine XL_cons rfl (X_of_Y0 rfl (Y0_pick0 (b := bif (bif y25.2 then (eqI y25.1 y20.1) else false) then y26.2 else false) (p := y27.2) (q := false) rfl (by kernel_rfl) hc30 (by kernel_rfl))) ?_
                      refine XL_cons rfl (X_of_Y0 rfl (E_move (Bo (bif (bif (bif y25.2 then (eqI y25.1 y20.1) else false) then y26.2 else false) then y27.2 else false)) rfl (by kernel_rfl))) ?_
                      refine XL_split (bif (bif (bif y25.2 then (eqI y25.1 y20.1) else false) then y26.2 else false) then y27.2 else false) (fun hc31 => ?_) (fun hc31 => ?_)
                      · have hb33 := of_true hb33 hc31
                        obtain ⟨y32, hy32, hb33⟩ := of_bind hb33
                        have hb33 := some_inj hb33
                        refine XL_takeC (bif (bif (bif y25.2 then (eqI y25.1 y20.1) else false) then y26.2 else false) then y27.2 else false) rfl rfl (by kernel_rfl) hc31 (X_of_Y0 rfl (E_move (.ow 864) rfl (by kernel_rfl))) ?_
                        refine XL_takeC (bif (bif (bif y25.2 then (eqI y25.1 y20.1) else false) then y26.2 else false) then y27.2 else false) rfl rfl (by kernel_rfl) hc31 (X_of_Y0 rfl (E_move (.ow 904) rfl (by kernel_rfl))) ?_
                        refine XL_takeC (bif (bif (bif y25.2 then (eqI y25.1 y20.1) else false) then y26.2 else false) then y27.2 else false) rfl rfl (by kernel_rfl) hc31 (X_of_Y1 rfl (Y1_callS (s_laws_sameInts hy32) cf_laws_sameInts rfl (by kernel_rfl) rfl rfl)) ?_
                        refine XL_cons rfl (X_of_Y0 rfl (Y0_pickTe (b := bif (bif (bif y25.2 then (eqI y25.1 y20.1) else false) then y26.2 else false) then y27.2 else false) (p := y32) rfl (by kernel_rfl) hc31 (by kernel_rfl) hb33)) ?_
                        refine XL_cons rfl (X_of_Y0 rfl (E_assign (Bo b33) rfl (by kernel_rfl))) ?_
                        refine XL_nil ?_
                        kernel_rfl
                      · have hb33 := some_inj (of_false hb33 hc31)
                        refine XL_skipT (bif (bif (bif y25.2 then (eqI y25.1 y20.1) else false) then y26.2 else false) then y27.2 else false) rfl rfl (by kernel_rfl) hc31 rfl ?_
                        refine XL_skipT (bif (bif (bif y25.2 then (eqI y25.1 y20.1) else false) then y26.2 else false) then y27.2 else false) rfl rfl (by kernel_rfl) hc31 rfl ?_
                        refine XL_skipT (bif (bif (bif y25.2 then (eqI y25.1 y20.1) else false) then y26.2 else false) then y27.2 else false) rfl rfl (by kernel_rfl) hc31 rfl ?_
                        refine XL_cons rfl (X_of_Y0 rfl (Y0_pickFe (b := bif (bif (bif y25.2 then (eqI y25.1 y20.1) else false) then y26.2 else false) then y27.2 else false) (p := false) rfl (by kernel_rfl) hc31 (by kernel_rfl) hb33)) ?_
                        refine XL_cons rfl (X_of_Y0 rfl (E_assign (Bo b33) rfl (by kernel_rfl))) ?_
                        refine XL_nil ?_
                        kernel_rfl
                  · refine XL_skipT (bif y25.2 then (eqI y25.1 y20.1) else false) rfl rfl (by kernel_rfl) hc29 rfl ?_
                    refine XL_cons rfl (X_of_Y0 rfl (Y0_pick0 (b := bif y25.2 then (eqI y25.1 y20.1) else false) (p := y26.2) (q := false) rfl (by kernel_rfl) hc29 (by kernel_rfl))) ?_
                    refine XL_cons rfl (X_of_Y0 rfl (E_move (Bo (bif (bif y25.2 then (eqI y25.1 y20.1) else false) then y26.2 else false)) rfl (by kernel_rfl))) ?_
                    refine XL_split (bif (bif y25.2 then (eqI y25.1 y20.1) else false) then y26.2 else false) (fun hc30 => ?_) (fun hc30 => ?_)
                    · refine XL_takeC (bif (bif y25.2 then (eqI y25.1 y20.1) else false) then y26.2 else false) rfl rfl (by kernel_rfl) hc30 (X_of_Y0 rfl (E_move (Bo y27.2) rfl (by kernel_rfl))) ?_
                      refine XL_cons rfl (X_of_Y0 rfl (Y0_pick1 (b := bif (bif y25.2 then (eqI y25.1 y20.1) else false) then y26.2 else false) (p := y27.2) (q := false) rfl (by kernel_rfl) hc30 (by kernel_rfl))) ?_
                      refine XL_cons rfl (X_of_Y0 rfl (E_move (Bo (bif (bif (bif y25.2 then (eqI y25.1 y20.1) else false) then y26.2 else false) then y27.2 else false)) rfl (by kernel_rfl))) ?_
                      refine XL_split (bif (bif (bif y25.2 then (eqI y25.1 y20.1) else false) then y26.2 else false) then y27.2 else false) (fun hc31 => ?_) (fun hc31 => ?_)
                      · have hb33 := of_true hb33 hc31
                        obtain ⟨y32, hy32, hb33⟩ := of_bind hb33
                        have hb33 := some_inj hb33
                        refine XL_takeC (bif (bif (bif y25.2 then (eqI y25.1 y20.1) else false) then y26.2 else false) then y27.2 else false) rfl rfl (by kernel_rfl) hc31 (X_of_Y0 rfl (E_move (.ow 864) rfl (by kernel_rfl))) ?_
                        refine XL_takeC (bif (bif (bif y25.2 then (eqI y25.1 y20.1) else false) then y26.2 else false) then y27.2 else false) rfl rfl (by kernel_rfl) hc31 (X_of_Y0 rfl (E_move (.ow 904) rfl (by kernel_rfl))) ?_
                        refine XL_takeC (bif (bif (bif y25.2 then (eqI y25.1 y20.1) else false) then y26.2 else false) then y27.2 else false) rfl rfl (by kernel_rfl) hc31 (X_of_Y1 rfl (Y1_callS (s_laws_sameInts hy32) cf_laws_sameInts rfl (by kernel_rfl) rfl rfl)) ?_
                        refine XL_cons rfl (X_of_Y0 rfl (Y0_pickTe (b := bif (bif (bif y25.2 then (eqI y25.1 y20.1) else false) then y26.2 else false) then y27.2 else false) (p := y32) rfl (by kernel_rfl) hc31 (by kernel_rfl) hb33)) ?_
                        refine XL_cons rfl (X_of_Y0 rfl (E_assign (Bo b33) rfl (by kernel_rfl))) ?_
                        refine XL_nil ?_
                        kernel_rfl
                      · have hb33 := some_inj (of_false hb33 hc31)
                        refine XL_skipT (bif (bif (bif y25.2 then (eqI y25.1 y20.1) else false) then y26.2 else false) then y27.2 else false) rfl rfl (by kernel_rfl) hc31 rfl ?_
                        refine XL_skipT (bif (bif (bif y25.2 then (eqI y25.1 y20.1) else false) then y26.2 else false) then y27.2 else false) rfl rfl (by kernel_rfl) hc31 rfl ?_
                        refine XL_skipT (bif (bif (bif y25.2 then (eqI y25.1 y20.1) else false) then y26.2 else false) then y27.2 else false) rfl rfl (by kernel_rfl) hc31 rfl ?_
                        refine XL_cons rfl (X_of_Y0 rfl (Y0_pickFe (b := bif (bif (bif y25.2 then (eqI y25.1 y20.1) else false) then y26.2 else false) then y27.2 else false) (p := false) rfl (by kernel_rfl) hc31 (by kernel_rfl) hb33)) ?_
                        refine XL_cons rfl (X_of_Y0 rfl (E_assign (Bo b33) rfl (by kernel_rfl))) ?_
                        refine XL_nil ?_
                        kernel_rfl
                    · refine XL_skipT (bif (bif y25.2 then (eqI y25.1 y20.1) else false) then y26.2 else false) rfl rfl (by kernel_rfl) hc30 rfl ?_
                      refine XL_cons rfl (X_of_Y0 rfl (Y0_pick0 (b := bif (bif y25.2 then (eqI y25.1 y20.1) else false) then y26.2 else false) (p := y27.2) (q := false) rfl (by kernel_rfl) hc30 (by kernel_rfl))) ?_
                      refine XL_cons rfl (X_of_Y0 rfl (E_move (Bo (bif (bif (bif y25.2 then (eqI y25.1 y20.1) else false) then y26.2 else false) then y27.2 else false)) rfl (by kernel_rfl))) ?_
                      refine XL_split (bif (bif (bif y25.2 then (eqI y25.1 y20.1) else false) then y26.2 else false) then y27.2 else false) (fun hc31 => ?_) (fun hc31 => ?_)
                      · have hb33 := of_true hb33 hc31
                        obtain ⟨y32, hy32, hb33⟩ := of_bind hb33
                        have hb33 := some_inj hb33
                        refine XL_takeC (bif (bif (bif y25.2 then (eqI y25.1 y20.1) else false) then y26.2 else false) then y27.2 else false) rfl rfl (by kernel_rfl) hc31 (X_of_Y0 rfl (E_move (.ow 864) rfl (by kernel_rfl))) ?_
                        refine XL_takeC (bif (bif (bif y25.2 then (eqI y25.1 y20.1) else false) then y26.2 else false) then y27.2 else false) rfl rfl (by kernel_rfl) hc31 (X_of_Y0 rfl (E_move (.ow 904) rfl (by kernel_rfl))) ?_
                        refine XL_takeC (bif (bif (bif y25.2 then (eqI y25.1 y20.1) else false) then y26.2 else false) then y27.2 else false) rfl rfl (by kernel_rfl) hc31 (X_of_Y1 rfl (Y1_callS (s_laws_sameInts hy32) cf_laws_sameInts rfl (by kernel_rfl) rfl rfl)) ?_
                        refine XL_cons rfl (X_of_Y0 rfl (Y0_pickTe (b := bif (bif (bif y25.2 then (eqI y25.1 y20.1) else false) then y26.2 else false) then y27.2 else false) (p := y32) rfl (by kernel_rfl) hc31 (by kernel_rfl) hb33)) ?_
                        refine XL_cons rfl (X_of_Y0 rfl (E_assign (Bo b33) rfl (by kernel_rfl))) ?_
                        refine XL_nil ?_
                        kernel_rfl
                      · have hb33 := some_inj (of_false hb33 hc31)
                        refine XL_skipT (bif (bif (bif y25.2 then (eqI y25.1 y20.1) else false) then y26.2 else false) then y27.2 else false) rfl rfl (by kernel_rfl) hc31 rfl ?_
                        refine XL_skipT (bif (bif (bif y25.2 then (eqI y25.1 y20.1) else false) then y26.2 else false) then y27.2 else false) rfl rfl (by kernel_rfl) hc31 rfl ?_
                        refine XL_skipT (bif (bif (bif y25.2 then (eqI y25.1 y20.1) else false) then y26.2 else false) then y27.2 else false) rfl rfl (by kernel_rfl) hc31 rfl ?_
                        refine XL_cons rfl (X_of_Y0 rfl (Y0_pickFe (b := bif (bif (bif y25.2 then (eqI y25.1 y20.1) else false) then y26.2 else false) then y27.2 else false) (p := false) rfl (by kernel_rfl) hc31 (by kernel_rfl) hb33)) ?_
                        refine XL_cons rfl (X_of_Y0 rfl (E_assign (Bo b33) rfl (by kernel_rfl))) ?_
                        refine XL_nil ?_
                        kernel_rfl
              refine V_ret ?_
              obtain rfl := some_inj h
              show Post _ _ _ _ _
              exact ⟨.inr rfl, rfl, rfl, rfl⟩
            · have h := of_false h hc24
              refine V_skip ?_
              show V _ _ _ _
              refine V_sreg [false, false, false, false, true, false, false, false, false, false, false, false, false, false, false, false, false, false, false, false, false, false, false, false, false, false, false, false, false, false, false, false, false, false, false, false, false, false, false, false, false, false, false, false, false, false, false, false, false, false, false, false, false, false, false, false, false, false, false, false, false, false, false, false, false, false, false, false, false, false, false, false, false, false, false, false, false, false, false, false, false, false, false, false, false, false, false, false, false, false, false, false, false, false, false, false, false, false, false, false, false, false, false, false, false, false, false, false, false, false, false, false, false, false, false, false, false, false, false, false, false, false, false, false, false, false, false, false, false, false, false, false, false] [] (s1 := ⟨[.bot, .bot, .bot, .bot, Bo true, .bot, .bot, .bot, .bot, .bot, .bot, .bot, .bot, .bot, .bot, .bot, .bot, .bot, .bot, .bot, .bot, .bot, .bot, .bot, .bot, .bot, .bot, .bot, .bot, .bot, .bot, .bot, .bot, .bot, .bot, .bot, .bot, .bot, .bot, .bot, .bot, .bot, .bot, .bot, .bot, .bot, .bot, .bot, .bot, .bot, .bot, .bot, .bot, .bot, .bot, .bot, .bot, .bot, .bot, .bot, .bot, .bot, .bot, .bot, .bot, .bot, .bot, .bot, .bot, .bot, .bot, .bot, .bot, .bot, .bot, .bot, .bot, .bot, .bot, .bot, .bot, .bot, .bot, .bot, .bot, .bot, .bot, .bot, .bot, .bot, .bot, .bot, .bot, .bot, .bot, .bot, .bot, .bot, .bot, .bot, .bot, .bot, .bot, .bot, .bot, .bot, .bot, .bot, .bot, .bot, .bot, .bot, .bot, .bot, .bot, .bot, .bot, .bot, .bot, .bot, .bot, .bot, .bot, .bot, .bot, .bot, .bot, .bot, .bot, .bot, .bot, .bot, .bot], []⟩) ?_ ?_
              · refine XL_cons rfl (X_of_Y0 rfl (E_assign (Bo true) rfl (by kernel_rfl))) ?_
                refine XL_nil ?_
                kernel_rfl
              refine V_ret ?_
              obtain rfl := some_inj h
              show Post _ _ _ _ _
              exact ⟨.inr rfl, rfl, rfl, rfl⟩
      · have h := of_false h hc10
        refine V_skip ?_
        show V _ _ _ _
        obtain ⟨y34, hy34, h⟩ := of_bind h
        refine V_sreg [false, false, false, false, false, false, false, false, false, false, false, false, false, false, true, false, false, false, false, false, false, false, false, false, false, false, false, false, false, false, false, false, false, false, false, false, false, false, false, false, false, false, false, false, false, false, false, false, false, false, false, false, false, false, false, false, false, false, false, false, false, false, false, false, false, false, false, false, false, false, false, false, false, false, false, false, false, false, false, false, false, false, false, false, false, false, false, false, false, false, false, false, false, false, false, false, false, false, false, false, false, false, false, false, false, false, false, false, false, false, false, false, false, false, false, false, false, false, false, false, false, false, false, false, false, false, false, false, false, false, false, false, false] [] (s1 := ⟨[.bot, .bot, .bot, .bot, .bot, .bot, .bot, .bot, .bot, .bot, .bot, .bot, .bot, .bot, I y34, .bot, .bot, .bot, .bot, .bot, .bot, .bot, .bot, .bot, .bot, .bot, .bot, .bot, .bot, .bot, .bot, .bot, .bot, .bot, .bot, .bot, .bot, .bot, .bot, .bot, .bot, .bot, .bot, .bot, .bot, .bot, .bot, .bot, .bot, .bot, .bot, .bot, .bot, .bot, .bot, .bot, .bot, .bot, .bot, .bot, .bot, .bot, .bot, .bot, .bot, .bot, .bot, .bot, .bot, .bot, .bot, .bot, .bot, .bot, .bot, .bot, .bot, .bot, .bot, .bot, .bot, .bot, .bot, .bot, .bot, .bot, .bot, .bot, .bot, .bot, .bot, .bot, .bot, .bot, .bot, .bot, .bot, .bot, .bot, .bot, .bot, .bot, .bot, .bot, .bot, .bot, .bot, .bot, .bot, .bot, .bot, .bot, .bot, .bot, .bot, .bot, .bot, .bot, .bot, .bot, .bot, .bot, .bot, .bot, .bot, .bot, .bot, .bot, .bot, .bot, .bot, .bot, .bot], []⟩) ?_ ?_
        · refine XL_cons rfl (X_of_Y0 rfl (E_move (.c (.sl (more2.map c5))) rfl (by kernel_rfl))) ?_
          refine XL_cons rfl (X_of_Y1 rfl (Y1_call (s_spec_DrawClassNumberByConductor hy34) cf_spec_DrawClassNumberByConductor rfl (by kernel_rfl))) ?_
          refine XL_cons rfl (X_of_Y0 rfl (E_assign (I y34) rfl (by kernel_rfl))) ?_
          refine XL_nil ?_
          kernel_rfl
        obtain ⟨y35, hy35, h⟩ := of_bind h
        refine V_sreg [false, false, false, false, false, false, false, false, false, false, false, false, false, false, true, true, true, false, false, false, false, false, false, false, false, false, false, false, false, false, false, false, false, false, false, false, false, false, false, false, false, false, false, false, false, false, false, false, false, false, false, false, false, false, false, false, false, false, false, false, false, false, false, false, false, false, false, false, false, false, false, false, false, false, false, false, false, false, false, false, false, false, false, false, false, false, false, false, false, false, false, false, false, false, false, false, false, false, false, false, false, false, false, false, false, false, false, false, false, false, false, false, false, false, false, false, false, false, false, false, false, false, false, false, false, false, false, false, false, false, false, false, false] [] (s1 := ⟨[.bot, .bot, .bot, .bot, .bot, .bot, .bot, .bot, .bot, .bot, .bot, .bot, .bot, .bot, I y34, I y35.1, Bo y35.2, .bot, .bot, .bot, .bot, .bot, .bot, .bot, .bot, .bot, .bot, .bot, .bot, .bot, .bot, .bot, .bot, .bot, .bot, .bot, .bot, .bot, .bot, .bot, .bot, .bot, .bot, .bot, .bot, .bot, .bot, .bot, .bot, .bot, .bot, .bot, .bot, .bot, .bot, .bot, .bot, .bot, .bot, .bot, .bot, .bot, .bot, .bot, .bot, .bot, .bot, .bot, .bot, .bot, .bot, .bot, .bot, .bot, .bot, .bot, .bot, .bot, .bot, .bot, .bot, .bot, .bot, .bot, .bot, .bot, .bot, .bot, .bot, .bot, .bot, .bot, .bot, .bot, .bot, .bot, .bot, .bot, .bot, .bot, .bot, .bot, .bot, .bot, .bot, .bot, .bot, .bot, .bot, .bot, .bot, .bot, .bot, .bot, .bot, .bot, .bot, .bot, .bot, .bot, .bot, .bot, .bot, .bot, .bot, .bot, .bot, .bot, .bot, .bot, .bot, .bot, .bot], []⟩) ?_ ?_
        · refine XL_cons rfl (X_of_Y0 rfl (E_move (I y34) rfl (by kernel_rfl))) ?_
          refine XL_cons rfl (X_of_Y1 rfl (Y1_call (s_impl_ClassNumberByConductor hy35) cf_impl_ClassNumberByConductor rfl (by kernel_rfl))) ?_
          refine XL_cons rfl (X_of_Y0 rfl (E_move (.tc (I y35.1) (.tc (Bo y35.2) .tn)) rfl (by kernel_rfl))) ?_
          refine XL_cons rfl (X_of_Y0 rfl (E_ext (n := 0) (I y35.1) (.tc (Bo y35.2) .tn) (I y35.1) rfl (by kernel_rfl) (by kernel_rfl) (by intro hh; cases hh))) ?_
          refine XL_cons rfl (X_of_Y0 rfl (E_ext (n := 1) (I y35.1) (.tc (Bo y35.2) .tn) (Bo y35.2) rfl (by kernel_rfl) (by kernel_rfl) (by intro hh; cases hh))) ?_
          refine XL_cons rfl (X_of_Y0 rfl (E_assign (I y35.1) rfl (by kernel_rfl))) ?_
          refine XL_cons rfl (X_of_Y0 rfl (E_assign (Bo y35.2) rfl (by kernel_rfl))) ?_
          refine XL_nil ?_
          kernel_rfl
        obtain ⟨y36, hy36, h⟩ := of_bind h
        refine V_sreg [false, false, false, false, false, false, false, false, false, false, false, false, false, false, true, true, true, true, true, false, false, false, false, false, false, false, false, false, false, false, false, false, false, false, false, false, false, false, false, false, false, false, false, false, false, false, false, false, false, false, false, false, false, false, false, false, false, false, false, false, false, false, false, false, false, false, false, false, false, false, false, false, false, false, false, false, false, false, false, false, false, false, false, false, false, false, false, false, false, false, false, false, false, false, false, false, false, false, false, false, false, false, false, false, false, false, false, false, false, false, false, false, false, false, false, false, false, false, false, false, false, false, false, false, false, false, false, false, false, false, false, false, false] [] (s1 := ⟨[.bot, .bot, .bot, .bot, .bot, .bot, .bot, .bot, .bot, .bot, .bot, .bot, .bot, .bot, I y34, I y35.1, Bo y35.2, I y36.1, Bo y36.2, .bot, .bot, .bot, .bot, .bot, .bot, .bot, .bot, .bot, .bot, .bot, .bot, .bot, .bot, .bot, .bot, .bot, .bot, .bot, .bot, .bot, .bot, .bot, .bot, .bot, .bot, .bot, .bot, .bot, .bot, .bot, .bot, .bot, .bot, .bot, .bot, .bot, .bot, .bot, .bot, .bot, .bot, .bot, .bot, .bot, .bot, .bot, .bot, .bot, .bot, .bot, .bot, .bot, .bot, .bot, .bot, .bot, .bot, .bot, .bot, .bot, .bot, .bot, .bot, .bot, .bot, .bot, .bot, .bot, .bot, .bot, .bot, .bot, .bot, .bot, .bot, .bot, .bot, .bot, .bot, .bot, .bot, .bot, .bot, .bot, .bot, .bot, .bot, .bot, .bot, .bot, .bot, .bot, .bot, .bot, .bot, .bot, .bot, .bot, .bot, .bot, .bot, .bot, .bot, .bot, .bot, .bot, .bot, .bot, .bot, .bot, .bot, .bot, .bot], []⟩) ?_ ?_
        · refine XL_cons rfl (X_of_Y0 rfl (E_move (I y34) rfl (by kernel_rfl))) ?_
          refine XL_cons rfl (X_of_Y1 rfl (Y1_call (s_spec_ClassNumberByConductor hy36) cf_spec_ClassNumberByConductor rfl (by kernel_rfl))) ?_
          refine XL_cons rfl (X_of_Y0 rfl (E_move (.tc (I y36.1) (.tc (Bo y36.2) .tn)) rfl (by kernel_rfl))) ?_
          refine XL_cons rfl (X_of_Y0 rfl (E_ext (n := 0) (I y36.1) (.tc (Bo y36.2) .tn) (I y36.1) rfl (by kernel_rfl) (by kernel_rfl) (by intro hh; cases hh))) ?_
          refine XL_cons rfl (X_of_Y0 rfl (E_ext (n := 1) (I y36.1) (.tc (Bo y36.2) .tn) (Bo y36.2) rfl (by kernel_rfl) (by kernel_rfl) (by intro hh; cases hh))) ?_
          refine XL_cons rfl (X_of_Y0 rfl (E_assign (I y36.1) rfl (by kernel_rfl))) ?_
          refine XL_cons rfl (X_of_Y0 rfl (E_assign (Bo y36.2) rfl (by kernel_rfl))) ?_
          refine XL_nil ?_
          kernel_rfl
        refine V_seq ?_
        refine V_sreg [false, false, false, false, false, false, false, false, false, false, false, false, false, false, true, true, true, false, false, false, false, false, false, false, false, false, false, false, false, false, false, false, false, false, false, false, false, false, false, false, false, false, false, false, false, false, false, false, false, false, false, false, false, false, false, false, false, false, false, false, false, false, false, false, false, false, false, false, false, false, false, false, false, false, false, false, false, false, false, false, false, false, false, false, false, false, false, false, false, false, false, false, false, false, false, false, false, false, false, true, false, false, false, false, false, false, false, false, false, false, false, false, false, false, false, false, false, false, false, false, false, false, false, false, false, false, false, false, false, false, false, false, false] [] (s1 := ⟨[.bot, .bot, .bot, .bot, .bot, .bot, .bot, .bot, .bot, .bot, .bot, .bot, .bot, .bot, I y34, I y35.1, Bo y35.2, .bot, .bot, .bot, .bot, .bot, .bot, .bot, .bot, .bot, .bot, .bot, .bot, .bot, .bot, .bot, .bot, .bot, .bot, .bot, .bot, .bot, .bot, .bot, .bot, .bot, .bot, .bot, .bot, .bot, .bot, .bot, .bot, .bot, .bot, .bot, .bot, .bot, .bot, .bot, .bot, .bot, .bot, .bot, .bot, .bot, .bot, .bot, .bot, .bot, .bot, .bot, .bot, .bot, .bot, .bot, .bot, .bot, .bot, .bot, .bot, .bot, .bot, .bot, .bot, .bot, .bot, .bot, .bot, .bot, .bot, .bot, .bot, .bot, .bot, .bot, .bot, .bot, .bot, .bot, .bot, .bot, .bot, Bo (bif (y35.2 != y36.2) then true else (!eqI y35.1 y36.1)), .bot, .bot, .bot, .bot, .bot, .bot, .bot, .bot, .bot, .bot, .bot, .bot, .bot, .bot, .bot, .bot, .bot, .bot, .bot, .bot, .bot, .bot, .bot, .bot, .bot, .bot, .bot, .bot, .bot, .bot, .bot, .bot, .bot], []⟩) ?_ ?_
        · refine XL_cons rfl (X_of_Y0 rfl (E_move (Bo y35.2) rfl (by kernel_rfl))) ?_
          refine XL_cons rfl (X_of_Y0 rfl (E_move (Bo y36.2) rfl (by kernel_rfl))) ?_
          refine XL_cons rfl (X_of_Y0 rfl (Y0_neb (a := y35.2) (b := y36.2) Try.underlying4 rfl (by kernel_rfl) (by kernel_rfl))) ?_
          refine XL_cons rfl (X_of_Y0 rfl (E_move (Bo (y35.2 != y36.2)) rfl (by kernel_rfl))) ?_
          refine XL_split (y35.2 != y36.2) (fun hc37 => ?_) (fun hc37 => ?_)
          · refine XL_skipF (y35.2 != y36.2) rfl rfl (by kernel_rfl) hc37 rfl ?_
            refine XL_skipF (y35.2 != y36.2) rfl rfl (by kernel_rfl) hc37 rfl ?_
            refine XL_skipF (y35.2 != y36.2) rfl rfl (by kernel_rfl) hc37 rfl ?_
            refine XL_cons rfl (X_of_Y0 rfl (Y0_pick1 (b := y35.2 != y36.2) (p := true) (q := !eqI y35.1 y36.1) rfl (by kernel_rfl) hc37 (by kernel_rfl))) ?_
            refine XL_nil ?_
            kernel_rfl
          · refine XL_takeC (y35.2 != y36.2) rfl rfl (by kernel_rfl) hc37 (X_of_Y0 rfl (E_move (I y35.1) rfl (by kernel_rfl))) ?_
            refine XL_takeC (y35.2 != y36.2) rfl rfl (by kernel_rfl) hc37 (X_of_Y0 rfl (E_move (I y36.1) rfl (by kernel_rfl))) ?_
            refine XL_takeC (y35.2 != y36.2) rfl rfl (by kernel_rfl) hc37 (X_of_Y0 rfl (Y0_new (k := .i64) (a := y35.1) (b := y36.1) rfl (by kernel_rfl) (by kernel_rfl))) ?_
            refine XL_cons rfl (X_of_Y0 rfl (Y0_pick0 (b := y35.2 != y36.2) (p := true) (q := !eqI y35.1 y36.1) rfl (by kernel_rfl) hc37 (by kernel_rfl))) ?_
            refine XL_nil ?_
            kernel_rfl
        refine V_cond rfl (fun hc38 => ?_) (fun hc38 => ?_)
        · have h := of_true h hc38
          refine V_sreg [false, false, false, false, true, false, false, false, false, false, false, false, false, false, false, false, false, false, false, false, false, false, false, false, false, false, false, false, false, false, false, false, false, false, false, false, false, false, false, false, false, false, false, false, false, false, false, false, false, false, false, false, false, false, false, false, false, false, false, false, false, false, false, false, false, false, false, false, false, false, false, false, false, false, false, false, false, false, false, false, false, false, false, false, false, false, false, false, false, false, false, false, false, false, false, false, false, false, false, false, false, false, false, false, false, false, false, false, false, false, false, false, false, false, false, false, false, false, false, false, false, false, false, false, false, false, false, false, false, false, false, false, false] [] (s1 := ⟨[.bot, .bot, .bot, .bot, Bo false, .bot, .bot, .bot, .bot, .bot, .bot, .bot, .bot, .bot, .bot, .bot, .bot, .bot, .bot, .bot, .bot, .bot, .bot, .bot, .bot, .bot, .bot, .bot, .bot, .bot, .bot, .bot, .bot, .bot, .bot, .bot, .bot, .bot, .bot, .bot, .bot, .bot, .bot, .bot, .bot, .bot, .bot, .bot, .bot, .bot, .bot, .bot, .bot, .bot, .bot, .bot, .bot, .bot, .bot, .bot, .bot, .bot, .bot, .bot, .bot, .bot, .bot, .bot, .bot, .bot, .bot, .bot, .bot, .bot, .bot, .bot, .bot, .bot, .bot, .bot, .bot, .bot, .bot, .bot, .bot, .bot, .bot, .bot, .bot, .bot, .bot, .bot, .bot, .bot, .bot, .bot, .bot, .bot, .bot, .bot, .bot, .bot, .bot, .bot, .bot, .bot, .bot, .bot, .bot, .bot, .bot, .bot, .bot, .bot, .bot, .bot, .bot, .bot, .bot, .bot, .bot, .bot, .bot, .bot, .bot, .bot, .bot, .bot, .bot, .bot, .bot, .bot, .bot], []⟩) ?_ ?_
          · refine XL_cons rfl (X_of_Y0 rfl (E_assign (Bo false) rfl (by kernel_rfl))) ?_
            refine XL_nil ?_
            kernel_rfl
          refine V_ret ?_
          obtain rfl := some_inj h
          show Post _ _ _ _ _
          exact ⟨.inr rfl, rfl, rfl, rfl⟩
        · have h := of_false h hc38
          refine V_skip ?_
          show V _ _ _ _
          refine V_seq ?_
          refine V_sreg [false, false, false, false, false, false, false, false, false, false, false, false, false, false, true, true, false, false, false, false, false, false, false, false, false, false, false, false, false, false, false, false, false, false, false, false, false, false, false, false, false, false, false, false, false, false, false, false, false, false, false, false, false, false, false, false, false, false, false, false, false, false, false, false, false, false, false, false, false, false, false, false, false, false, false, false, false, false, false, false, false, false, false, false, false, false, false, false, false, false, false, false, false, false, false, false, false, false, false, false, true, false, false, false, false, false, false, false, false, false, false, false, false, false, false, false, false, false, false, false, false, false, false, false, false, false, false, false, false, false, false, false, false] [] (s1 := ⟨[.bot, .bot, .bot, .bot, .bot, .bot, .bot, .bot, .bot, .bot, .bot, .bot, .bot, .bot, I y34, I y35.1, .bot, .bot, .bot, .bot, .bot, .bot, .bot, .bot, .bot, .bot, .bot, .bot, .bot, .bot, .bot, .bot, .bot, .bot, .bot, .bot, .bot, .bot, .bot, .bot, .bot, .bot, .bot, .bot, .bot, .bot, .bot, .bot, .bot, .bot, .bot, .bot, .bot, .bot, .bot, .bot, .bot, .bot, .bot, .bot, .bot, .bot, .bot, .bot, .bot, .bot, .bot, .bot, .bot, .bot, .bot, .bot, .bot, .bot, .bot, .bot, .bot, .bot, .bot, .bot, .bot, .bot, .bot, .bot, .bot, .bot, .bot, .bot, .bot, .bot, .bot, .bot, .bot, .bot, .bot, .bot, .bot, .bot, .bot, .bot, Bo y35.2, .bot, .bot, .bot, .bot, .bot, .bot, .bot, .bot, .bot, .bot, .bot, .bot, .bot, .bot, .bot, .bot, .bot, .bot, .bot, .bot, .bot, .bot, .bot, .bot, .bot, .bot, .bot, .bot, .bot, .bot, .bot, .bot], []⟩) ?_ ?_
          · refine XL_cons rfl (X_of_Y0 rfl (E_move (Bo y35.2) rfl (by kernel_rfl))) ?_
            refine XL_nil ?_
            kernel_rfl
          refine V_cond rfl (fun hc39 => ?_) (fun hc39 => ?_)
          · have h := of_true h hc39
            obtain ⟨y40, hy40, h⟩ := of_bind h
            refine V_sreg [false, false, false, false, false, false, false, false, false, false, false, false, false, false, true, true, false, false, false, true, true, false, false, false, false, false, false, false, false, false, false, false, false, false, false, false, false, false, false, false, false, false, false, false, false, false, false, false, false, false, false, false, false, false, false, false, false, false, false, false, false, false, false, false, false, false, false, false, false, false, false, false, false, false, false, false, false, false, false, false, false, false, false, false, false, false, false, false, false, false, false, false, false, false, false, false, false, false, false, false, false, false, false, false, false, false, false, false, false, false, false, false, false, false, false, false, false, false, false, false, false, false, false, false, false, false, false, false, false, false, false, false, false] [] (s1 := ⟨[.bot, .bot, .bot, .bot, .bot, .bot, .bot, .bot, .bot, .bot, .bot, .bot, .bot, .bot, I y34, I y35.1, .bot, .bot, .bot, I y40.1, Bo y40.2, .bot, .bot, .bot, .bot, .bot, .bot, .bot, .bot, .bot, .bot, .bot, .bot, .bot, .bot, .bot, .bot, .bot, .bot, .bot, .bot, .bot, .bot, .bot, .bot, .bot, .bot, .bot, .bot, .bot, .bot, .bot, .bot, .bot, .bot, .bot, .bot, .bot, .bot, .bot, .bot, .bot, .bot, .bot, .bot, .bot, .bot, .bot, .bot, .bot, .bot, .bot, .bot, .bot, .bot, .bot, .bot, .bot, .bot, .bot, .bot, .bot, .bot, .bot, .bot, .bot, .bot, .bot, .bot, .bot, .bot, .bot, .bot, .bot, .bot, .bot, .bot, .bot, .bot, .bot, .bot, .bot, .bot, .bot, .bot, .bot, .bot, .bot, .bot, .bot, .bot, .bot, .bot, .bot, .bot, .bot, .bot, .bot, .bot, .bot, .bot, .bot, .bot, .bot, .bot, .bot, .bot, .bot, .bot, .bot, .bot, .bot, .bot], []⟩) ?_ ?_
            · refine XL_cons rfl (X_of_Y0 rfl (E_move (I y34) rfl (by kernel_rfl))) ?_
              refine XL_cons rfl (X_of_Y1 rfl (Y1_call (s_impl_ClassNumber hy40) cf_impl_ClassNumber rfl (by kernel_rfl))) ?_
              refine XL_cons rfl (X_of_Y0 rfl (E_move (.tc (I y40.1) (.tc (Bo y40.2) .tn)) rfl (by kernel_rfl))) ?_
              refine XL_cons rfl (X_of_Y0 rfl (E_ext (n := 0) (I y40.1) (.tc (Bo y40.2) .tn) (I y40.1) rfl (by kernel_rfl) (by kernel_rfl) (by intro hh; cases hh))) ?_
              refine XL_cons rfl (X_of_Y0 rfl (E_ext (n := 1) (I y40.1) (.tc (Bo y40.2) .tn) (Bo y40.2) rfl (by kernel_rfl) (by kernel_rfl) (by intro hh; cases hh))) ?_
              refine XL_cons rfl (X_of_Y0 rfl (E_assign (I y40.1) rfl (by kernel_rfl))) ?_
              refine XL_cons rfl (X_of_Y0 rfl (E_assign (Bo y40.2) rfl (by kernel_rfl))) ?_
              refine XL_nil ?_
              kernel_rfl
            obtain ⟨y41, hy41, h⟩ := of_bind h
            refine V_sreg [false, false, false, false, false, false, false, false, false, false, false, false, false, false, true, true, false, false, false, true, true, true, true, false, false, false, false, false, false, false, false, false, false, false, false, false, false, false, false, false, false, false, false, false, false, false, false, false, false, false, false, false, false, false, false, false, false, false, false, false, false, false, false, false, false, false, false, false, false, false, false, false, false, false, false, false, false, false, false, false, false, false, false, false, false, false, false, false, false, false, false, false, false, false, false, false, false, false, false, false, false, false, false, false, false, false, false, false, false, false, false, false, false, false, false, false, false, false, false, false, false, false, false, false, false, false, false, false, false, false, false, false, false] [864] (s1 := ⟨[.bot, .bot, .bot, .bot, .bot, .bot, .bot, .bot, .bot, .bot, .bot, .bot, .bot, .bot, I y34, I y35.1, .bot, .bot, .bot, I y40.1, Bo y40.2, .ow 864, Bo y41.2, .bot, .bot, .bot, .bot, .bot, .bot, .bot, .bot, .bot, .bot, .bot, .bot, .bot, .bot, .bot, .bot, .bot, .bot, .bot, .bot, .bot, .bot, .bot, .bot, .bot, .bot, .bot, .bot, .bot, .bot, .bot, .bot, .bot, .bot, .bot, .bot, .bot, .bot, .bot, .bot, .bot, .bot, .bot, .bot, .bot, .bot, .bot, .bot, .bot, .bot, .bot, .bot, .bot, .bot, .bot, .bot, .bot, .bot, .bot, .bot, .bot, .bot, .bot, .bot, .bot, .bot, .bot, .bot, .bot, .bot, .bot, .bot, .bot, .bot, .bot, .bot, .bot, .bot, .bot, .bot, .bot, .bot, .bot, .bot, .bot, .bot, .bot, .bot, .bot, .bot, .bot, .bot, .bot, .bot, .bot, .bot, .bot, .bot, .bot, .bot, .bot, .bot, .bot, .bot, .bot, .bot, .bot, .bot, .bot, .bot], [(864, .arr 3 1 (y41.1.map c3))]⟩) ?_ ?_
            · refine XL_cons rfl (X_of_Y0 rfl (E_move (I y34) rfl (by kernel_rfl))) ?_
              refine XL_cons rfl (X_of_Y1 rfl (Y1_call (s_impl_OrdersAbove hy41) cf_impl_OrdersAbove rfl (by kernel_rfl))) ?_
              refine XL_cons rfl (X_of_Y0 rfl (E_move (.tc (.ow 864) (.tc (Bo y41.2) .tn)) rfl (by kernel_rfl))) ?_
              refine XL_cons rfl (X_of_Y0 rfl (E_ext (n := 0) (.ow 864) (.tc (Bo y41.2) .tn) (.ow 864) rfl (by kernel_rfl) (by kernel_rfl) (by intro hh; cases hh))) ?_
              refine XL_cons rfl (X_of_Y0 rfl (E_ext (n := 1) (.ow 864) (.tc (Bo y41.2) .tn) (Bo y41.2) rfl (by kernel_rfl) (by kernel_rfl) (by intro hh; cases hh))) ?_
              refine XL_cons rfl (X_of_Y0 rfl (E_assign (.ow 864) rfl (by kernel_rfl))) ?_
              refine XL_cons rfl (X_of_Y0 rfl (E_assign (Bo y41.2) rfl (by kernel_rfl))) ?_
              refine XL_nil ?_
              kernel_rfl
            obtain ⟨y42, hy42, h⟩ := of_bind h
            refine V_sreg [false, false, false, false, false, false, false, false, false, false, false, false, false, false, false, true, false, false, false, true, true, true, true, true, true, false, false, false, false, false, false, false, false, false, false, false, false, false, false, false, false, false, false, false, false, false, false, false, false, false, false, false, false, false, false, false, false, false, false, false, false, false, false, false, false, false, false, false, false, false, false, false, false, false, false, false, false, false, false, false, false, false, false, false, false, false, false, false, false, false, false, false, false, false, false, false, false, false, false, false, false, false, false, false, false, false, false, false, false, false, false, false, false, false, false, false, false, false, false, false, false, false, false, false, false, false, false, false, false, false, false, false, false] [904, 864] (s1 := ⟨[.bot, .bot, .bot, .bot, .bot, .bot, .bot, .bot, .bot, .bot, .bot, .bot, .bot, .bot, .bot, I y35.1, .bot, .bot, .bot, I y40.1, Bo y40.2, .ow 864, Bo y41.2, .ow 904, Bo y42.2, .bot, .bot, .bot, .bot, .bot, .bot, .bot, .bot, .bot, .bot, .bot, .bot, .bot, .bot, .bot, .bot, .bot, .bot, .bot, .bot, .bot, .bot, .bot, .bot, .bot, .bot, .bot, .bot, .bot, .bot, .bot, .bot, .bot, .bot, .bot, .bot, .bot, .bot, .bot, .bot, .bot, .bot, .bot, .bot, .bot, .bot, .bot, .bot, .bot, .bot, .bot, .bot, .bot, .bot, .bot, .bot, .bot, .bot, .bot, .bot, .bot, .bot, .bot, .bot, .bot, .bot, .bot, .bot, .bot, .bot, .bot, .bot, .bot, .bot, .bot, .bot, .bot, .bot, .bot, .bot, .bot, .bot, .bot, .bot, .bot, .bot, .bot, .bot, .bot, .bot, .bot, .bot, .bot, .bot, .bot, .bot, .bot, .bot, .bot, .bot, .bot, .bot, .bot, .bot, .bot, .bot, .bot, .bot], [(904, .arr 3 1 (y42.1.map c3)), (864, .arr 3 1 (y41.1.map c3))]⟩) ?_ ?_
            · refine XL_cons rfl (X_of_Y0 rfl (E_move (I y34) rfl (by kernel_rfl))) ?_
              refine XL_cons rfl (X_of_Y1 rfl (Y1_call (s_impl_OverDiscriminants hy42) cf_impl_OverDiscriminants rfl (by kernel_rfl))) ?_
              refine XL_cons rfl (X_of_Y0 rfl (E_move (.tc (.ow 904) (.tc (Bo y42.2) .tn)) rfl (by kernel_rfl))) ?_
              refine XL_cons rfl (X_of_Y0 rfl (E_ext (n := 0) (.ow 904) (.tc (Bo y42.2) .tn) (.ow 904) rfl (by kernel_rfl) (by kernel_rfl) (by intro hh; cases hh))) ?_
              refine XL_cons rfl (X_of_Y0 rfl (E_ext (n := 1) (.ow 904) (.tc (Bo y42.2) .tn) (Bo y42.2) rfl (by kernel_rfl) (by kernel_rfl) (by intro hh; cases hh))) ?_
              refine XL_cons rfl (X_of_Y0 rfl (E_assign (.ow 904) rfl (by kernel_rfl))) ?_
              refine XL_cons rfl (X_of_Y0 rfl (E_assign (Bo y42.2) rfl (by kernel_rfl))) ?_
              refine XL_nil ?_
              kernel_rfl
            obtain ⟨b48, hb48, h⟩ := of_bind h
            refine V_sreg [false, false, false, false, true, false, false, false, false, false, false, false, false, false, false, false, false, false, false, false, false, false, false, false, false, false, false, false, false, false, false, false, false, false, false, false, false, false, false, false, false, false, false, false, false, false, false, false, false, false, false, false, false, false, false, false, false, false, false, false, false, false, false, false, false, false, false, false, false, false, false, false, false, false, false, false, false, false, false, false, false, false, false, false, false, false, false, false, false, false, false, false, false, false, false, false, false, false, false, false, false, false, false, false, false, false, false, false, false, false, false, false, false, false, false, false, false, false, false, false, false, false, false, false, false, false, false, false, false, false, false, false, false] [] (s1 := ⟨[.bot, .bot, .bot, .bot, Bo b48, .bot, .bot, .bot, .bot, .bot, .bot, .bot, .bot, .bot, .bot, .bot, .bot, .bot, .bot, .bot, .bot, .bot, .bot, .bot, .bot, .bot, .bot, .bot, .bot, .bot, .bot, .bot, .bot, .bot, .bot, .bot, .bot, .bot, .bot, .bot, .bot, .bot, .bot, .bot, .bot, .bot, .bot, .bot, .bot, .bot, .bot, .bot, .bot, .bot, .bot, .bot, .bot, .bot, .bot, .bot, .bot, .bot, .bot, .bot, .bot, .bot, .bot, .bot, .bot, .bot, .bot, .bot, .bot, .bot, .bot, .bot, .bot, .bot, .bot, .bot, .bot, .bot, .bot, .bot, .bot, .bot, .bot, .bot, .bot, .bot, .bot, .bot, .bot, .bot, .bot, .bot, .bot, .bot, .bot, .bot, .bot, .bot, .bot, .bot, .bot, .bot, .bot, .bot, .bot, .bot, .bot, .bot, .bot, .bot, .bot, .bot, .bot, .bot, .bot, .bot, .bot, .bot, .bot, .bot, .bot, .bot, .bot, .bot, .bot, .bot, .bot, .bot, .bot], []⟩) ?_ ?_
            · refine XL_cons rfl (X_of_Y0 rfl (E_move (Bo y40.2) rfl (by kernel_rfl))) ?_
              refine XL_cons rfl (X_of_Y0 rfl (E_move (Bo y40.2) rfl (by kernel_rfl))) ?_
              refine XL_split y40.2 (fun hc43 => ?_) (fun hc43 => ?_)
              · refine XL_takeC (y40.2) rfl rfl (by kernel_rfl) hc43 (X_of_Y0 rfl (E_move (I y40.1) rfl (by kernel_rfl))) ?_
                refine XL_takeC (y40.2) rfl rfl (by kernel_rfl) hc43 (X_of_Y0 rfl (E_move (I y35.1) rfl (by kernel_rfl))) ?_
                refine XL_takeC (y40.2) rfl rfl (by kernel_rfl) hc43 (X_of_Y0 rfl (Y0_eqw (k := .i64) (a := y40.1) (b := y35.1) rfl (by kernel_rfl) (by kernel_rfl))) ?_
                refine XL_cons rfl (X_of_Y0 rfl (Y0_pick1 (b := y40.2) (p := eqI y40.1 y35.1) (q := false) rfl (by kernel_rfl) hc43 (by kernel_rfl))) ?_
                refine XL_cons rfl (X_of_Y0 rfl (E_move (Bo (bif y40.2 then (eqI y40.1 y35.1) else false)) rfl (by kernel_rfl))) ?_
                refine XL_split (bif y40.2 then (eqI y40.1 y35.1) else false) (fun hc44 => ?_) (fun hc44 => ?_)
                · refine XL_takeC (bif y40.2 then (eqI y40.1 y35.1) else false) rfl rfl (by kernel_rfl) hc44 (X_of_Y0 rfl (E_move (Bo y41.2) rfl (by kernel_rfl))) ?_
                  refine XL_cons rfl (X_of_Y0 rfl (Y0_pick1 (b := bif y40.2 then (eqI y40.1 y35.1) else false) (p := y41.2) (q := false) rfl (by kernel_rfl) hc44 (by kernel_rfl))) ?_
                  refine XL_cons rfl (X_of_Y0 rfl (E_move (Bo (bif (bif y40.2 then (eqI y40.1 y35.1) else false) then y41.2 else false)) rfl (by kernel_rfl))) ?_
                  refine XL_split (bif (bif y40.2 then (eqI y40.1 y35.1) else false) then y41.2 else false) (fun hc45 => ?_) (fun hc45 => ?_)
                  · refine XL_takeC (bif (bif y40.2 then (eqI y40.1 y35.1) else false) then y41.2 else false) rfl rfl (by kernel_rfl) hc45 (X_of_Y0 rfl (E_move (Bo y42.2) rfl (by kernel_rfl))) ?_
                    refine XL_cons rfl (X_of_Y0 rfl (Y0_pick1 (b := bif (bif y40.2 then (eqI y40.1 y35.1) else false) then y41.2 else false) (p := y42.2) (q := false) rfl (by kernel_rfl) hc45 (by kernel_rfl))) ?_
                    refine XL_cons rfl (X_of_Y0 rfl (E_move (Bo (bif (bif (bif y40.2 then (eqI y40.1 y35.1) else false) then y41.2 else false) then y42.2 else false)) rfl (by kernel_rfl))) ?_
                    refine XL_split (bif (bif (bif y40.2 then (eqI y40.1 y35.1) else false) then y41.2 else false) then y42.2 else false) (fun hc46 => ?_) (fun hc46 => ?_)
                    · have hb48 := of_true hb48 hc46
                      obtain ⟨y47, hy47, hb48⟩ := of_bind hb48
                      have hb48 := some_inj hb48
                      refine XL_takeC (bif (bif (bif y40.2 then (eqI y40.1 y35.1) else false) then y41.2 else false) then y42.2 else false) rfl rfl (by kernel_rfl) hc46 (X_of_Y0 rfl (E_move (.ow 864) rfl (by kernel_rfl))) ?_
                      refine XL_takeC (bif (bif (bif y40.2 then (eqI y40.1 y35.1) else false) then y41.2 else false) then y42.2 else false) rfl rfl (by kernel_rfl) hc46 (X_of_Y0 rfl (E_move (.ow 904) rfl (by kernel_rfl))) ?_
                      refine XL_takeC (bif (bif (bif y40.2 then (eqI y40.1 y35.1) else false) then y41.2 else false) then y42.2 else false) rfl rfl (by kernel_rfl) hc46 (X_of_Y1 rfl (Y1_callS (s_laws_sameInts hy47) cf_laws_sameInts rfl (by kernel_rfl) rfl rfl)) ?_
                      refine XL_cons rfl (X_of_Y0 rfl (Y0_pickTe (b := bif (bif (bif y40.2 then (eqI y40.1 y35.1) else false) then y41.2 else false) then y42.2 else false) (p := y47) rfl (by kernel_rfl) hc46 (by kernel_rfl) hb48)) ?_
                      refine XL_cons rfl (X_of_Y0 rfl (E_assign (Bo b48) rfl (by kernel_rfl))) ?_
                      refine XL_nil ?_
                      kernel_rfl
                    · have hb48 := some_inj (of_false hb48 hc46)
                      refine XL_skipT (bif (bif (bif y40.2 then (eqI y40.1 y35.1) else false) then y41.2 else false) then y42.2 else false) rfl rfl (by kernel_rfl) hc46 rfl ?_
                      refine XL_skipT (bif (bif (bif y40.2 then (eqI y40.1 y35.1) else false) then y41.2 else false) then y42.2 else false) rfl rfl (by kernel_rfl) hc46 rfl ?_
                      refine XL_skipT (bif (bif (bif y40.2 then (eqI y40.1 y35.1) else false) then y41.2 else false) then y42.2 else false) rfl rfl (by kernel_rfl) hc46 rfl ?_
                      refine XL_cons rfl (X_of_Y0 rfl (Y0_pickFe (b := bif (bif (bif y40.2 then (eqI y40.1 y35.1) else false) then y41.2 else false) then y42.2 else false) (p := false) rfl (by kernel_rfl) hc46 (by kernel_rfl) hb48)) ?_
                      refine XL_cons rfl (X_of_Y0 rfl (E_assign (Bo b48) rfl (by kernel_rfl))) ?_
                      refine XL_nil ?_
                      kernel_rfl
                  · refine XL_skipT (bif (bif y40.2 then (eqI y40.1 y35.1) else false) then y41.2 else false) rfl rfl (by kernel_rfl) hc45 rfl ?_
                    refine XL_cons rfl (X_of_Y0 rfl (Y0_pick0 (b := bif (bif y40.2 then (eqI y40.1 y35.1) else false) then y41.2 else false) (p := y42.2) (q := false) rfl (by kernel_rfl) hc45 (by kernel_rfl))) ?_
                    refine XL_cons rfl (X_of_Y0 rfl (E_move (Bo (bif (bif (bif y40.2 then (eqI y40.1 y35.1) else false) then y41.2 else false) then y42.2 else false)) rfl (by kernel_rfl))) ?_
                    refine XL_split (bif (bif (bif y40.2 then (eqI y40.1 y35.1) else false) then y41.2 else false) then y42.2 else false) (fun hc46 => ?_) (fun hc46 => ?_)
                    · have hb48 := of_true hb48 hc46
                      obtain ⟨y47, hy47, hb48⟩ := of_bind hb48
                      have hb48 := some_inj hb48
                      refine XL_takeC (bif (bif (bif y40.2 then (eqI y40.1 y35.1) else false) then y41.2 else false) then y42.2 else false) rfl rfl (by kernel_rfl) hc46 (X_of_Y0 rfl (E_move (.ow 864) rfl (by kernel_rfl))) ?_
                      refine XL_takeC (bif (bif (bif y40.2 then (eqI y40.1 y35.1) else false) then y41.2 else false) then y42.2 else false) rfl rfl (by kernel_rfl) hc46 (X_of_Y0 rfl (E_move (.ow 904) rfl (by kernel_rfl))) ?_
                      refine XL_takeC (bif (bif (bif y40.2 then (eqI y40.1 y35.1) else false) then y41.2 else false) then y42.2 else false) rfl rfl (by kernel_rfl) hc46 (X_of_Y1 rfl (Y1_callS (s_laws_sameInts hy47) cf_laws_sameInts rfl (by kernel_rfl) rfl rfl)) ?_
                      refine XL_cons rfl (X_of_Y0 rfl (Y0_pickTe (b := bif (bif (bif y40.2 then (eqI y40.1 y35.1) else false) then y41.2 else false) then y42.2 else false) (p := y47) rfl (by kernel_rfl) hc46 (by kernel_rfl) hb48)) ?_
                      refine XL_cons rfl (X_of_Y0 rfl (E_assign (Bo b48) rfl (by kernel_rfl))) ?_
                      refine XL_nil ?_
                      kernel_rfl
                    · have hb48 := some_inj (of_false hb48 hc46)
                      refine XL_skipT (bif (bif (bif y40.2 then (eqI y40.1 y35.1) else false) then y41.2 else false) then y42.2 else false) rfl rfl (by kernel_rfl) hc46 rfl ?_
                      refine XL_skipT (bif (bif (bif y40.2 then (eqI y40.1 y35.1) else false) then y41.2 else false) then y42.2 else false) rfl rfl (by kernel_rfl) hc46 rfl ?_
                      refine XL_skipT (bif (bif (bif y40.2 then (eqI y40.1 y35.1) else false) then y41.2 else false) then y42.2 else false) rfl rfl (by kernel_rfl) hc46 rfl ?_
                      refine XL_cons rfl (X_of_Y0 rfl (Y0_pickFe (b := bif (bif (bif y40.2 then (eqI y40.1 y35.1) else false) then y41.2 else false) then y42.2 else false) (p := false) rfl (by kernel_rfl) hc46 (by kernel_rfl) hb48)) ?_
                      refine XL_cons rfl (X_of_Y0 rfl (E_assign (Bo b48) rfl (by kernel_rfl))) ?_
                      refine XL_nil ?_
                      kernel_rfl
                · refine XL_skipT (bif y40.2 then (eqI y40.1 y35.1) else false) rfl rfl (by kernel_rfl) hc44 rfl ?_
                  refine XL_cons rfl (X_of_Y0 rfl (Y0_pick0 (b := bif y40.2 then (eqI y40.1 y35.1) else false) (p := y41.2) (q := false) rfl (by kernel_rfl) hc44 (by kernel_rfl))) ?_
                  refine XL_cons rfl (X_of_Y0 rfl (E_move (Bo (bif (bif y40.2 then (eqI y40.1 y35.1) else false) then y41.2 else false)) rfl (by kernel_rfl))) ?_
                  refine XL_split (bif (bif y40.2 then (eqI y40.1 y35.1) else false) then y41.2 else false) (fun hc45 => ?_) (fun hc45 => ?_)
                  · refine XL_takeC (bif (bif y40.2 then (eqI y40.1 y35.1) else false) then y41.2 else false) rfl rfl (by kernel_rfl) hc45 (X_of_Y0 rfl (E_move (Bo y42.2) rfl (by kernel_rfl))) ?_
                    refine XL_cons rfl (X_of_Y0 rfl (Y0_pick1 (b := bif (bif y40.2 then (eqI y40.1 y35.1) else false) then y41.2 else false) (p := y42.2) (q := false) rfl (by kernel_rfl) hc45 (by kernel_rfl))) ?_
                    refine XL_cons rfl (X_of_Y0 rfl (E_move (Bo (bif (bif (bif y40.2 then (eqI y40.1 y35.1) else false) then y41.2 else false) then y42.2 else false)) rfl (by kernel_rfl))) ?_
                    refine XL_split (bif (bif (bif y40.2 then (eqI y40.1 y35.1) else false) then y41.2 else false) then y42.2 else false) (fun hc46 => ?_) (fun hc46 => ?_)
                    · have hb48 := of_true hb48 hc46
                      obtain ⟨y47, hy47, hb48⟩ := of_bind hb48
                      have hb48 := some_inj hb48
                      refine XL_takeC (bif (bif (bif y40.2 then (eqI y40.1 y35.1) else false) then y41.2 else false) then y42.2 else false) rfl rfl (by kernel_rfl) hc46 (X_of_Y0 rfl (E_move (.ow 864) rfl (by kernel_rfl))) ?_
                      refine XL_takeC (bif (bif (bif y40.2 then (eqI y40.1 y35.1) else false) then y41.2 else false) then y42.2 else false) rfl rfl (by kernel_rfl) hc46 (X_of_Y0 rfl (E_move (.ow 904) rfl (by kernel_rfl))) ?_
                      refine XL_takeC (bif (bif (bif y40.2 then (eqI y40.1 y35.1) else false) then y41.2 else false) then y42.2 else false) rfl rfl (by kernel_rfl) hc46 (X_of_Y1 rfl (Y1_callS (s_laws_sameInts hy47) cf_laws_sameInts rfl (by kernel_rfl) rfl rfl)) ?_
                      refine XL_cons rfl (X_of_Y0 rfl (Y0_pickTe (b := bif (bif (bif y40.2 then (eqI y40.1 y35.1) else false) then y41.2 else false) then y42.2 else false) (p := y47) rfl (by kernel_rfl) hc46 (by kernel_rfl) hb48)) ?_
                      refine XL_cons rfl (X_of_Y0 rfl (E_assign (Bo b48) rfl (by kernel_rfl))) ?_
                      refine XL_nil ?_
                      kernel_rfl
                    · have hb48 := some_inj (of_false hb48 hc46)
                      refine XL_skipT (bif (bif (bif y40.2 then (eqI y40.1 y35.1) else false) then y41.2 else false) then y42.2 else false) rfl rfl (by kernel_rfl) hc46 rfl ?_
                      refine XL_skipT (bif (bif (bif y40.2 then (eqI y40.1 y35.1) else false) then y41.2 else false) then y42.2 else false) rfl rfl (by kernel_rfl) hc46 rfl ?_
                      refine XL_skipT (bif (bif (bif y40.2 then (eqI y40.1 y35.1) else false) then y41.2 else false) then y42.2 else false) rfl rfl (by kernel_rfl) hc46 rfl ?_
                      refine XL_cons rfl (X_of_Y0 rfl (Y0_pickFe (b := bif (bif (bif y40.2 then (eqI y40.1 y35.1) else false) then y41.2 else false) then y42.2 else false) (p := false) rfl (by kernel_rfl) hc46 (by kernel_rfl) hb48)) ?_
                      refine XL_cons rfl (X_of_Y0 rfl (E_assign (Bo b48) rfl (by kernel_rfl))) ?_
                      refine XL_nil ?_
                      kernel_rfl
                  · refine XL_skipT (bif (bif y40.2 then (eqI y40.1 y35.1) else false) then y41.2 else false) rfl rfl (by kernel_rfl) hc45 rfl ?_
                    refine XL_cons rfl (X_of_Y0 rfl (Y0_pick0 (b := bif (bif y40.2 then (eqI y40.1 y35.1) else false) then y41.2 else false) (p := y42.2) (q := false) rfl (by kernel_rfl) hc45 (by kernel_rfl))) ?_
                    refine XL_cons rfl (X_of_Y0 rfl (E_move (Bo (bif (bif (bif y40.2 then (eqI y40.1 y35.1) else false) then y41.2 else false) then y42.2 else false)) rfl (by kernel_rfl))) ?_
                    refine XL_split (bif (bif (bif y40.2 then (eqI y40.1 y35.1) else false) then y41.2 else false) then y42.2 else false) (fun hc46 => ?_) (fun hc46 => ?_)
                    · have hb48 := of_true hb48 hc46
                      obtain ⟨y47, hy47, hb48⟩ := of_bind hb48
                      have hb48 := some_inj hb48
                      refine XL_takeC (bif (bif (bif y40.2 then (eqI y40.1 y35.1) else false) then y41.2 else false) then y42.2 else false) rfl rfl (by kernel_rfl) hc46 (X_of_Y0 rfl (E_move (.ow 864) rfl (by kernel_rfl))) ?_
                      refine XL_takeC (bif (bif (bif y40.2 then (eqI y40.1 y35.1) else false) then y41.2 else false) then y42.2 else false) rfl rfl (by kernel_rfl) hc46 (X_of_Y0 rfl (E_move (.ow 904) rfl (by kernel_rfl))) ?_
                      refine XL_takeC (bif (bif (bif y40.2 then (eqI y40.1 y35.1) else false) then y41.2 else false) then y42.2 else false) rfl rfl (by kernel_rfl) hc46 (X_of_Y1 rfl (Y1_callS (s_laws_sameInts hy47) cf_laws_sameInts rfl (by kernel_rfl) rfl rfl)) ?_
                      refine XL_cons rfl (X_of_Y0 rfl (Y0_pickTe (b := bif (bif (bif y40.2 then (eqI y40.1 y35.1) else false) then y41.2 else false) then y42.2 else false) (p := y47) rfl (by kernel_rfl) hc46 (by kernel_rfl) hb48)) ?_
                      refine XL_cons rfl (X_of_Y0 rfl (E_assign (Bo b48) rfl (by kernel_rfl))) ?_
                      refine XL_nil ?_
                      kernel_rfl
                    · have hb48 := some_inj (of_false hb48 hc46)
                      refine XL_skipT (bif (bif (bif y40.2 then (eqI y40.1 y35.1) else false) then y41.2 else false) then y42.2 else false) rfl rfl (by kernel_rfl) hc46 rfl ?_
                      refine XL_skipT (bif (bif (bif y40.2 then (eqI y40.1 y35.1) else false) then y41.2 else false) then y42.2 else false) rfl rfl (by kernel_rfl) hc46 rfl ?_
                      refine XL_skipT (bif (bif (bif y40.2 then (eqI y40.1 y35.1) else false) then y41.2 else false) then y42.2 else false) rfl rfl (by kernel_rfl) hc46 rfl ?_
                      refine XL_cons rfl (X_of_Y0 rfl (Y0_pickFe (b := bif (bif (bif y40.2 then (eqI y40.1 y35.1) else false) then y41.2 else false) then y42.2 else false) (p := false) rfl (by kernel_rfl) hc46 (by kernel_rfl) hb48)) ?_
                      refine XL_cons rfl (X_of_Y0 rfl (E_assign (Bo b48) rfl (by kernel_rfl))) ?_
                      refine XL_nil ?_
                      kernel_rfl
              · refine XL_skipT (y40.2) rfl rfl (by kernel_rfl) hc43 rfl ?_
                refine XL_skipT (y40.2) rfl rfl (by kernel_rfl) hc43 rfl ?_
                refine XL_skipT (y40.2) rfl rfl (by kernel_rfl) hc43 rfl ?_
                refine XL_cons rfl (X_of_Y0 rfl (Y0_pick0 (b := y40.2) (p := eqI y40.1 y35.1) (q := false) rfl (by kernel_rfl) hc43 (by kernel_rfl))) ?_
                refine XL_cons rfl (X_of_Y0 rfl (E_move (Bo (bif y40.2 then (eqI y40.1 y35.1) else false)) rfl (by kernel_rfl))) ?_
                refine XL_split (bif y40.2 then (eqI y40.1 y35.1) else false) (fun hc44 => ?_) (fun hc44 => ?_)
                · refine XL_takeC (bif y40.2 then (eqI y40.1 y35.1) else false) rfl rfl (by kernel_rfl) hc44 (X_of_Y0 rfl (E_move (Bo y41.2) rfl (by kernel_rfl))) ?_
                  refine XL_cons rfl (X_of_Y0 rfl (Y0_pick1 (b := bif y40.2 then (eqI y40.1 y35.1) else false) (p := y41.2) (q := false) rfl (by kernel_rfl) hc44 (by kernel_rfl))) ?_
                  refine XL_cons rfl (X_of_Y0 rfl (E_move (Bo (bif (bif y40.2 then (eqI y40.1 y35.1) else false) then y41.2 else false)) rfl (by kernel_rfl))) ?_
                  refine XL_split (bif (bif y40.2 then (eqI y40.1 y35.1) else false) then y41.2 else false) (fun hc45 => ?_) (fun hc45 => ?_)
                  · refine XL_takeC (bif (bif y40.2 then (eqI y40.1 y35.1) else false) then y41.2 else false) rfl rfl (by kernel_rfl) hc45 (X_of_Y0 rfl (E_move (Bo y42.2) rfl (by kernel_rfl))) ?_
                    refine XL_cons rfl (X_of_Y0 rfl (Y0_pick1 (b := bif (bif y40.2 then (eqI y40.1 y35.1) else false) then y41.2 else false) (p := y42.2) (q := false) rfl (by kernel_rfl) hc45 (by kernel_rfl))) ?_
                    refine XL_cons rfl (X_of_Y0 rfl (E_move (Bo (bif (bif (bif y40.2 then (eqI y40.1 y35.1) else false) then y41.2 else false) then y42.2 else false)) rfl (by kernel_rfl))) ?_
                    refine XL_split (bif (bif (bif y40.2 then (eqI y40.1 y35.1) else false) then y41.2 else false) then y42.2 else false) (fun hc46 => ?_) (fun hc46 => ?_)
                    · have hb48 := of_true hb48 hc46
                      obtain ⟨y47, hy47, hb48⟩ := of_bind hb48
                      have hb48 := some_inj hb48
                      refine XL_takeC (bif (bif (bif y40.2 then (eqI y40.1 y35.1) else false) then y41.2 else false) then y42.2 else false) rfl rfl (by kernel_rfl) hc46 (X_of_Y0 rfl (E_move (.ow 864) rfl (by kernel_rfl))) ?_
                      refine XL_takeC (bif (bif (bif y40.2 then (eqI y40.1 y35.1) else false) then y41.2 else false) then y42.2 else false) rfl rfl (by kernel_rfl) hc46 (X_of_Y0 rfl (E_move (.ow 904) rfl (by kernel_rfl))) ?_
                      refine XL_takeC (bif (bif (bif y40.2 then (eqI y40.1 y35.1) else false) then y41.2 else false) then y42.2 else false) rfl rfl (by kernel_rfl) hc46 (X_of_Y1 rfl (Y1_callS (s_laws_sameInts hy47) cf_laws_sameInts rfl (by kernel_rfl) rfl rfl)) ?_
                      refine XL_cons rfl (X_of_Y0 rfl (Y0_pickTe (b := bif (bif (bif y40.2 then (eqI y40.1 y35.1) else false) then y41.2 else false) then y42.2 else false) (p := y47) rfl (by kernel_rfl) hc46 (by kernel_rfl) hb48)) ?_
                      refine XL_cons rfl (X_of_Y0 rfl (E_assign (Bo b48) rfl (by kernel_rfl))) ?_
                      refine XL_nil ?_
                      kernel_rfl
                    · have hb48 := some_inj (of_false hb48 hc46)
                      refine XL_skipT (bif (bif (bif y40.2 then (eqI y40.1 y35.1) else false) then y41.2 else false) then y42.2 else false) rfl rfl (by kernel_rfl) hc46 rfl ?_
                      refine XL_skipT (bif (bif (bif y40.2 then (eqI y40.1 y35.1) else false) then y41.2 else false) then y42.2 else false) rfl rfl (by kernel_rfl) hc46 rfl ?_
                      refine XL_skipT (bif (bif (bif y40.2 then (eqI y40.1 y35.1) else false) then y41.2 else false) then y42.2 else false) rfl rfl (by kernel_rfl) hc46 rfl ?_
                      refine XL_cons rfl (X_of_Y0 rfl (Y0_pickFe (b := bif (bif (bif y40.2 then (eqI y40.1 y35.1) else false) then y41.2 else false) then y42.2 else false) (p := false) rfl (by kernel_rfl) hc46 (by kernel_rfl) hb48)) ?_
                      refine XL_cons rfl (X_of_Y0 rfl (E_assign (Bo b48) rfl (by kernel_rfl))) ?_
                      refine XL_nil ?_
                      kernel_rfl
                  · refine XL_skipT (bif (bif y40.2 then (eqI y40.1 y35.1) else false) then y41.2 else false) rfl rfl (by kernel_rfl) hc45 rfl ?_
                    refine XL_cons rfl (X_of_Y0 rfl (Y0_pick0 (b := bif (bif y40.2 then (eqI y40.1 y35.1) else false) then y41.2 else false) (p := y42.2) (q := false) rfl (by kernel_rfl) hc45 (by kernel_rfl))) ?_
                    refine XL_cons rfl (X_of_Y0 rfl (E_move (Bo (bif (bif (bif y40.2 then (eqI y40.1 y35.1) else false) then y41.2 else false) then y42.2 else false)) rfl (by kernel_rfl))) ?_
                    refine XL_split (bif (bif (bif y40.2 then (eqI y40.1 y35.1) else false) then y41.2 else false) then y42.2 else false) (fun hc46 => ?_) (fun hc46 => ?_)
                    · have hb48 := of_true hb48 hc46
                      obtain ⟨y47, hy47, hb48⟩ := of_bind hb48
                      have hb48 := some_inj hb48
                      refine XL_takeC (bif (bif (bif y40.2 then (eqI y40.1 y35.1) else false) then y41.2 else false) then y42.2 else false) rfl rfl (by kernel_rfl) hc46 (X_of_Y0 rfl (E_move (.ow 864) rfl (by kernel_rfl))) ?_
                      refine XL_takeC (bif (bif (bif y40.2 then (eqI y40.1 y35.1) else false) then y41.2 else false) then y42.2 else false) rfl rfl (by kernel_rfl) hc46 (X_of_Y0 rfl (E_move (.ow 904) rfl (by kernel_rfl))) ?_
                      refine XL_takeC (bif (bif (bif y40.2 then (eqI y40.1 y35.1) else false) then y41.2 else false) then y42.2 else false) rfl rfl (by kernel_rfl) hc46 (X_of_Y1 rfl (Y1_callS (s_laws_sameInts hy47) cf_laws_sameInts rfl (by kernel_rfl) rfl rfl)) ?_
                      refine XL_cons rfl (X_of_Y0 rfl (Y0_pickTe (b := bif (bif (bif y40.2 then (eqI y40.1 y35.1) else false) then y41.2 else false) then y42.2 else false) (p := y47) rfl (by kernel_rfl) hc46 (by kernel_rfl) hb48)) ?_
                      refine XL_cons rfl (X_of_Y0 rfl (E_assign (Bo b48) rfl (by kernel_rfl))) ?_
                      refine XL_nil ?_
                      kernel_rfl
                    · have hb48 := some_inj (of_false hb48 hc46)
                      refine XL_skipT (bif (bif (bif y40.2 then (eqI y40.1 y35.1) else false) then y41.2 else false) then y42.2 else false) rfl rfl (by kernel_rfl) hc46 rfl ?_
                      refine XL_skipT (bif (bif (bif y40.2 then (eqI y40.1 y35.1) else false) then y41.2 else false) then y42.2 else false) rfl rfl (by kernel_rfl) hc46 rfl ?_
                      refine XL_skipT (bif (bif (bif y40.2 then (eqI y40.1 y35.1) else false) then y41.2 else false) then y42.2 else false) rfl rfl (by kernel_rfl) hc46 rfl ?_
                      refine XL_cons rfl (X_of_Y0 rfl (Y0_pickFe (b := bif (bif (bif y40.2 then (eqI y40.1 y35.1) else false) then y41.2 else false) then y42.2 else false) (p := false) rfl (by kernel_rfl) hc46 (by kernel_rfl) hb48)) ?_
                      refine XL_cons rfl (X_of_Y0 rfl (E_assign (Bo b48) rfl (by kernel_rfl))) ?_
                      refine XL_nil ?_
                      kernel_rfl
                · refine XL_skipT (bif y40.2 then (eqI y40.1 y35.1) else false) rfl rfl (by kernel_rfl) hc44 rfl ?_
                  refine XL_cons rfl (X_of_Y0 rfl (Y0_pick0 (b := bif y40.2 then (eqI y40.1 y35.1) else false) (p := y41.2) (q := false) rfl (by kernel_rfl) hc44 (by kernel_rfl))) ?_
                  refine XL_cons rfl (X_of_Y0 rfl (E_move (Bo (bif (bif y40.2 then (eqI y40.1 y35.1) else false) then y41.2 else false)) rfl (by kernel_rfl))) ?_
                  refine XL_split (bif (bif y40.2 then (eqI y40.1 y35.1) else false) then y41.2 else false) (fun hc45 => ?_) (fun hc45 => ?_)
                  · refine XL_takeC (bif (bif y40.2 then (eqI y40.1 y35.1) else false) then y41.2 else false) rfl rfl (by kernel_rfl) hc45 (X_of_Y0 rfl (E_move (Bo y42.2) rfl (by kernel_rfl))) ?_
                    refine XL_cons rfl (X_of_Y0 rfl (Y0_pick1 (b := bif (bif y40.2 then (eqI y40.1 y35.1) else false) then y41.2 else false) (p := y42.2) (q := false) rfl (by kernel_rfl) hc45 (by kernel_rfl))) ?_
                    refine XL_cons rfl (X_of_Y0 rfl (E_move (Bo (bif (bif (bif y40.2 then (eqI y40.1 y35.1) else false) then y41.2 else false) then y42.2 else false)) rfl (by kernel_rfl))) ?_
                    refine XL_split (bif (bif (bif y40.2 then (eqI y40.1 y35.1) else false) then y41.2 else false) then y42.2 else false) (fun hc46 => ?_) (fun hc46 => ?_)
                    · have hb48 := of_true hb48 hc46
                      obtain ⟨y47, hy47, hb48⟩ := of_bind hb48
                      have hb48 := some_inj hb48
                      refine XL_takeC (bif (bif (bif y40.2 then (eqI y40.1 y35.1) else false) then y41.2 else false) then y42.2 else false) rfl rfl (by kernel_rfl) hc46 (X_of_Y0 rfl (E_move (.ow 864) rfl (by kernel_rfl))) ?_
                      refine XL_takeC (bif (bif (bif y40.2 then (eqI y40.1 y35.1) else false) then y41.2 else false) then y42.2 else false) rfl rfl (by kernel_rfl) hc46 (X_of_Y0 rfl (E_move (.ow 904) rfl (by kernel_rfl))) ?_
                      refine XL_takeC (bif (bif (bif y40.2 then (eqI y40.1 y35.1) else false) then y41.2 else false) then y42.2 else false) rfl rfl (by kernel_rfl) hc46 (X_of_Y1 rfl (Y1_callS (s_laws_sameInts hy47) cf_laws_sameInts rfl (by kernel_rfl) rfl rfl)) ?_
                      refine XL_cons rfl (X_of_Y0 rfl (Y0_pickTe (b := bif (bif (bif y40.2 then (eqI y40.1 y35.1) else false) then y41.2 else false) then y42.2 else false) (p := y47) rfl (by kernel_rfl) hc46 (by kernel_rfl) hb48)) ?_
                      refine XL_cons rfl (X_of_Y0 rfl (E_assign (Bo b48) rfl (by kernel_rfl))) ?_
                      refine XL_nil ?_
                      kernel_rfl
                    · have hb48 := some_inj (of_false hb48 hc46)
                      refine XL_skipT (bif (bif (bif y40.2 then (eqI y40.1 y35.1) else false) then y41.2 else false) then y42.2 else false) rfl rfl (by kernel_rfl) hc46 rfl ?_
                      refine XL_skipT (bif (bif (bif y40.2 then (eqI y40.1 y35.1) else false) then y41.2 else false) then y42.2 else false) rfl rfl (by kernel_rfl) hc46 rfl ?_
                      refine XL_skipT (bif (bif (bif y40.2 then (eqI y40.1 y35.1) else false) then y41.2 else false) then y42.2 else false) rfl rfl (by kernel_rfl) hc46 rfl ?_
                      refine XL_cons rfl (X_of_Y0 rfl (Y0_pickFe (b := bif (bif (bif y40.2 then (eqI y40.1 y35.1) else false) then y41.2 else false) then y42.2 else false) (p := false) rfl (by kernel_rfl) hc46 (by kernel_rfl) hb48)) ?_
                      refine XL_cons rfl (X_of_Y0 rfl (E_assign (Bo b48) rfl (by kernel_rfl))) ?_
                      refine XL_nil ?_
                      kernel_rfl
                  · refine XL_skipT (bif (bif y40.2 then (eqI y40.1 y35.1) else false) then y41.2 else false) rfl rfl (by kernel_rfl) hc45 rfl ?_
                    refine XL_cons rfl (X_of_Y0 rfl (Y0_pick0 (b := bif (bif y40.2 then (eqI y40.1 y35.1) else false) then y41.2 else false) (p := y42.2) (q := false) rfl (by kernel_rfl) hc45 (by kernel_rfl))) ?_
                    refine XL_cons rfl (X_of_Y0 rfl (E_move (Bo (bif (bif (bif y40.2 then (eqI y40.1 y35.1) else false) then y41.2 else false) then y42.2 else false)) rfl (by kernel_rfl))) ?_
                    refine XL_split (bif (bif (bif y40.2 then (eqI y40.1 y35.1) else false) then y41.2 else false) then y42.2 else false) (fun hc46 => ?_) (fun hc46 => ?_)
                    · have hb48 := of_true hb48 hc46
                      obtain ⟨y47, hy47, hb48⟩ := of_bind hb48
                      have hb48 := some_inj hb48
                      refine XL_takeC (bif (bif (bif y40.2 then (eqI y40.1 y35.1) else false) then y41.2 else false) then y42.2 else false) rfl rfl (by kernel_rfl) hc46 (X_of_Y0 rfl (E_move (.ow 864) rfl (by kernel_rfl))) ?_
                      refine XL_takeC (bif (bif (bif y40.2 then (eqI y40.1 y35.1) else false) then y41.2 else false) then y42.2 else false) rfl rfl (by kernel_rfl) hc46 (X_of_Y0 rfl (E_move (.ow 904) rfl (by kernel_rfl))) ?_
                      refine XL_takeC (bif (bif (bif y40.2 then (eqI y40.1 y35.1) else false) then y41.2 else false) then y42.2 else false) rfl rfl (by kernel_rfl) hc46 (X_of_Y1 rfl (Y1_callS (s_laws_sameInts hy47) cf_laws_sameInts rfl (by kernel_rfl) rfl rfl)) ?_
                      refine XL_cons rfl (X_of_Y0 rfl (Y0_pickTe (b := bif (bif (bif y40.2 then (eqI y40.1 y35.1) else false) then y41.2 else false) then y42.2 else false) (p := y47) rfl (by kernel_rfl) hc46 (by kernel_rfl) hb48)) ?_
                      refine XL_cons rfl (X_of_Y0 rfl (E_assign (Bo b48) rfl (by kernel_rfl))) ?_
                      refine XL_nil ?_
                      kernel_rfl
                    · have hb48 := some_inj (of_false hb48 hc46)
                      refine XL_skipT (bif (bif (bif y40.2 then (eqI y40.1 y35.1) else false) then y41.2 else false) then y42.2 else false) rfl rfl (by kernel_rfl) hc46 rfl ?_
                      refine XL_skipT (bif (bif (bif y40.2 then (eqI y40.1 y35.1) else false) then y41.2 else false) then y42.2 else false) rfl rfl (by kernel_rfl) hc46 rfl ?_
                      refine XL_skipT (bif (bif (bif y40.2 then (eqI y40.1 y35.1) else false) then y41.2 else false) then y42.2 else false) rfl rfl (by kernel_rfl) hc46 rfl ?_
                      refine XL_cons rfl (X_of_Y0 rfl (Y0_pickFe (b := bif (bif (bif y40.2 then (eqI y40.1 y35.1) else false) then y41.2 else false) then y42.2 else false) (p := false) rfl (by kernel_rfl) hc46 (by kernel_rfl) hb48)) ?_
                      refine XL_cons rfl (X_of_Y0 rfl (E_assign (Bo b48) rfl (by kernel_rfl))) ?_
                      refine XL_nil ?_
                      kernel_rfl
            refine V_ret ?_
            obtain rfl := some_inj h
            show Post _ _ _ _ _
            exact ⟨.inr rfl, rfl, rfl, rfl⟩
          · have h := of_false h hc39
            refine V_skip ?_
            show V _ _ _ _
            refine V_sreg [false, false, false, false, true, false, false, false, false, false, false, false, false, false, false, false, false, false, false, false, false, false, false, false, false, false, false, false, false, false, false, false, false, false, false, false, false, false, false, false, false, false, false, false, false, false, false, false, false, false, false, false, false, false, false, false, false, false, false, false, false, false, false, false, false, false, false, false, false, false, false, false, false, false, false, false, false, false, false, false, false, false, false, false, false, false, false, false, false, false, false, false, false, false, false, false, false, false, false, false, false, false, false, false, false, false, false, false, false, false, false, false, false, false, false, false, false, false, false, false, false, false, false, false, false, false, false, false, false, false, false, false, false] [] (s1 := ⟨[.bot, .bot, .bot, .bot, Bo true, .bot, .bot, .bot, .bot, .bot, .bot, .bot, .bot, .bot, .bot, .bot, .bot, .bot, .bot, .bot, .bot, .bot, .bot, .bot, .bot, .bot, .bot, .bot, .bot, .bot, .bot, .bot, .bot, .bot, .bot, .bot, .bot, .bot, .bot, .bot, .bot, .bot, .bot, .bot, .bot, .bot, .bot, .bot, .bot, .bot, .bot, .bot, .bot, .bot, .bot, .bot, .bot, .bot, .bot, .bot, .bot, .bot, .bot, .bot, .bot, .bot, .bot, .bot, .bot, .bot, .bot, .bot, .bot, .bot, .bot, .bot, .bot, .bot, .bot, .bot, .bot, .bot, .bot, .bot, .bot, .bot, .bot, .bot, .bot, .bot, .bot, .bot, .bot, .bot, .bot, .bot, .bot, .bot, .bot, .bot, .bot, .bot, .bot, .bot, .bot, .bot, .bot, .bot, .bot, .bot, .bot, .bot, .bot, .bot, .bot, .bot, .bot, .bot, .bot, .bot, .bot, .bot, .bot, .bot, .bot, .bot, .bot, .bot, .bot, .bot, .bot, .bot, .bot], []⟩) ?_ ?_
            · refine XL_cons rfl (X_of_Y0 rfl (E_assign (Bo true) rfl (by kernel_rfl))) ?_
              refine XL_nil ?_
              kernel_rfl
            refine V_ret ?_
            obtain rfl := some_inj h
            show Post _ _ _ _ _
            exact ⟨.inr rfl, rfl, rfl, rfl⟩
end Go.Proofs.Ytaegamgeljpboaa
