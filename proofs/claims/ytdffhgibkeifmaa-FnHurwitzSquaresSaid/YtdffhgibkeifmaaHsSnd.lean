/-
  The functions of the program compute what the plain functions say: more of them.
  Conditions: none.
-/
import Derived.Test.YtdffhgibkeifmaaHsSnd1
namespace Go.Proofs.Ytdffhgibkeifmaa
open Go.RowKit
set_option linter.unusedVariables false
set_option linter.unusedSimpArgs false
theorem cf_laws_FnHurwitzSquares : ∀ args w, (callFunc 6 args).run Try.prog w = .ok (.enter 6 args) w := run_callFunc Try.func6 (by kernel_rfl) (by kernel_rfl)
set_option maxRecDepth 100000 in
set_option maxHeartbeats 400000 in
theorem s_laws_FnHurwitzSquares {code1 : List Int} {more2 : List Int} {r : Bool} (h : r_laws_FnHurwitzSquares code1 more2 = some r) : CallS Try.prog 6 [.c (.sl (code1.map c5)), .c (.sl (more2.map c5))] (Bo r) [] := by
  refine CallS_of_text (rs := [.t 4]) (vs := [.tmp 4]) Try.func6 rfl rfl (.cons rfl FitsL.nil) (by decide) 69 rfl ?_
  unfold r_laws_FnHurwitzSquares at h
  show V _ _ ⟨[.c (.sl (code1.map c5)), .c (.sl (more2.map c5)), .bot, .bot, .bot, .bot, .bot, .bot, .bot, .bot, .bot, .bot, .bot, .bot, .bot, .bot, .bot, .bot, .bot, .bot, .bot, .bot, .bot, .bot, .bot, .bot, .bot, .bot, .bot, .bot, .bot, .bot, .bot, .bot, .bot, .bot, .bot, .bot, .bot, .bot, .bot, .bot, .bot, .bot, .bot, .bot, .bot, .bot, .bot, .bot, .bot, .bot, .bot, .bot, .bot, .bot, .bot, .bot, .bot, .bot, .bot, .bot, .bot, .bot, .bot, .bot, .bot, .bot, .bot], []⟩ _
  refine V_sreg [true, true, false, false, false, false, false, false, false, false, false, false, false, false, false, false, false, false, false, false, false, false, false, false, false, false, false, false, false, false, false, false, false, false, false, false, false, false, false, false, false, false, false, false, false, false, false, false, false, false, false, false, false, false, false, false, false, false, false, false, false, false, false, false, false, false, false, false, false] [] (s1 := ⟨[.c (.sl (code1.map c5)), .c (.sl (more2.map c5)), .bot, .bot, .bot, .bot, .bot, .bot, .bot, .bot, .bot, .bot, .bot, .bot, .bot, .bot, .bot, .bot, .bot, .bot, .bot, .bot, .bot, .bot, .bot, .bot, .bot, .bot, .bot, .bot, .bot, .bot, .bot, .bot, .bot, .bot, .bot, .bot, .bot, .bot, .bot, .bot, .bot, .bot, .bot, .bot, .bot, .bot, .bot, .bot, .bot, .bot, .bot, .bot, .bot, .bot, .bot, .bot, .bot, .bot, .bot, .bot, .bot, .bot, .bot, .bot, .bot, .bot, .bot], []⟩) ?_ ?_
  · refine XL_cons rfl (X_of_Y0 rfl (E_assign (Bo false) rfl (by kernel_rfl))) ?_
    refine XL_nil ?_
    kernel_rfl
  refine V_seq ?_
  obtain ⟨y3, hy3, h⟩ := of_bind h
  refine V_sreg [true, true, false, false, false, false, false, false, false, false, false, false, false, false, false, false, true, false, false, false, false, false, false, false, false, false, false, false, false, false, false, false, false, false, false, false, false, false, false, false, false, false, false, false, false, false, false, false, false, false, false, false, false, false, false, false, false, false, false, false, false, false, false, false, false, false, false, false, false] [] (s1 := ⟨[.c (.sl (code1.map c5)), .c (.sl (more2.map c5)), .bot, .bot, .bot, .bot, .bot, .bot, .bot, .bot, .bot, .bot, .bot, .bot, .bot, .bot, Bo y3, .bot, .bot, .bot, .bot, .bot, .bot, .bot, .bot, .bot, .bot, .bot, .bot, .bot, .bot, .bot, .bot, .bot, .bot, .bot, .bot, .bot, .bot, .bot, .bot, .bot, .bot, .bot, .bot, .bot, .bot, .bot, .bot, .bot, .bot, .bot, .bot, .bot, .bot, .bot, .bot, .bot, .bot, .bot, .bot, .bot, .bot, .bot, .bot, .bot, .bot, .bot, .bot], []⟩) ?_ ?_
  · refine XL_cons rfl (X_of_Y0 rfl (E_move (.c (.sl (code1.map c5))) rfl (by kernel_rfl))) ?_
    refine XL_cons rfl (X_of_Y0 rfl (E_move (.c (.sl (more2.map c5))) rfl (by kernel_rfl))) ?_
    refine XL_cons rfl (X_of_Y1 rfl (Y1_call (s_laws_big hy3) cf_laws_big rfl (by kernel_rfl))) ?_
    refine XL_nil ?_
    kernel_rfl
  refine V_cond rfl (fun hc4 => ?_) (fun hc4 => ?_)
  · have h := of_true h hc4
    refine V_sreg [false, false, false, false, true, false, false, false, false, false, false, false, false, false, false, false, false, false, false, false, false, false, false, false, false, false, false, false, false, false, false, false, false, false, false, false, false, false, false, false, false, false, false, false, false, false, false, false, false, false, false, false, false, false, false, false, false, false, false, false, false, false, false, false, false, false, false, false, false] [] (s1 := ⟨[.bot, .bot, .bot, .bot, Bo true, .bot, .bot, .bot, .bot, .bot, .bot, .bot, .bot, .bot, .bot, .bot, .bot, .bot, .bot, .bot, .bot, .bot, .bot, .bot, .bot, .bot, .bot, .bot, .bot, .bot, .bot, .bot, .bot, .bot, .bot, .bot, .bot, .bot, .bot, .bot, .bot, .bot, .bot, .bot, .bot, .bot, .bot, .bot, .bot, .bot, .bot, .bot, .bot, .bot, .bot, .bot, .bot, .bot, .bot, .bot, .bot, .bot, .bot, .bot, .bot, .bot, .bot, .bot, .bot], []⟩) ?_ ?_
    · refine XL_cons rfl (X_of_Y0 rfl (E_assign (Bo true) rfl (by kernel_rfl))) ?_
      refine XL_nil ?_
      kernel_rfl
    refine V_ret ?_
    obtain rfl := some_inj h
    show Post _ _ _ _ _
    exact ⟨.inr rfl, rfl, rfl, rfl⟩
  · have h := of_false h hc4
    refine V_skip ?_
    show V _ _ _ _
    obtain ⟨y5, hy5, h⟩ := of_bind h
    obtain ⟨y6, hy6, h⟩ := of_bind h
    obtain ⟨vn7, hvn7, h⟩ := of_sI h
    refine V_sreg [false, false, false, false, false, true, false, false, false, false, false, false, false, false, false, false, false, false, false, false, false, false, false, false, false, false, false, false, false, false, false, false, false, false, false, false, false, false, false, false, false, false, false, false, false, false, false, false, false, false, false, false, false, false, false, false, false, false, false, false, false, false, false, false, false, false, false, false, false] [] (s1 := ⟨[.bot, .bot, .bot, .bot, .bot, I vn7, .bot, .bot, .bot, .bot, .bot, .bot, .bot, .bot, .bot, .bot, .bot, .bot, .bot, .bot, .bot, .bot, .bot, .bot, .bot, .bot, .bot, .bot, .bot, .bot, .bot, .bot, .bot, .bot, .bot, .bot, .bot, .bot, .bot, .bot, .bot, .bot, .bot, .bot, .bot, .bot, .bot, .bot, .bot, .bot, .bot, .bot, .bot, .bot, .bot, .bot, .bot, .bot, .bot, .bot, .bot, .bot, .bot, .bot, .bot, .bot, .bot, .bot, .bot], []⟩) ?_ ?_
    · refine XL_cons rfl (X_of_Y0 rfl (E_move (.c (.sl (code1.map c5))) rfl (by kernel_rfl))) ?_
      refine XL_cons rfl (X_of_Y1 rfl (Y1_call (s_laws_numberOf hy5) cf_laws_numberOf rfl (by kernel_rfl))) ?_
      refine XL_cons rfl (X_of_Y0 rfl (E_move (.c (.sl (more2.map c5))) rfl (by kernel_rfl))) ?_
      refine XL_cons rfl (X_of_Y1 rfl (Y1_call (s_laws_numberOf hy6) cf_laws_numberOf rfl (by kernel_rfl))) ?_
      refine XL_cons rfl (X_of_Y0 rfl (Y0_mul64 (a := 7) (b := y6) rfl (by kernel_rfl) (by kernel_rfl))) ?_
      refine XL_cons rfl (X_of_Y0 rfl (Y0_add64 (a := y5) (b := w64 (7 * y6)) rfl (by kernel_rfl) (by kernel_rfl))) ?_
      refine XL_cons rfl (X_of_Y0 rfl (Y0_rem (k := .i64) (a := w64 (y5 + (w64 (7 * y6)))) (b := 500) rfl (by kernel_rfl) (by kernel_rfl) (by decide))) ?_
      refine XL_cons rfl (X_of_Y0 rfl (Y0_add64 (a := 1) (b := Int.tmod (w64 (y5 + (w64 (7 * y6)))) 500) rfl (by kernel_rfl) (by kernel_rfl))) ?_
      refine XL_cons rfl (X_of_Y0 rfl (E_assign (I (w64 (1 + (Int.tmod (w64 (y5 + (w64 (7 * y6)))) 500)))) rfl (by kernel_rfl))) ?_
      refine XL_nil ?_
      subst hvn7
      kernel_rfl
    obtain ⟨y8, hy8, h⟩ := of_bind h
    refine V_sreg [false, false, false, false, false, true, true, true, false, false, false, false, false, false, false, false, false, false, false, false, false, false, false, false, false, false, false, false, false, false, false, false, false, false, false, false, false, false, false, false, false, false, false, false, false, false, false, false, false, false, false, false, false, false, false, false, false, false, false, false, false, false, false, false, false, false, false, false, false] [] (s1 := ⟨[.bot, .bot, .bot, .bot, .bot, I vn7, I y8.1, Bo y8.2, .bot, .bot, .bot, .bot, .bot, .bot, .bot, .bot, .bot, .bot, .bot, .bot, .bot, .bot, .bot, .bot, .bot, .bot, .bot, .bot, .bot, .bot, .bot, .bot, .bot, .bot, .bot, .bot, .bot, .bot, .bot, .bot, .bot, .bot, .bot, .bot, .bot, .bot, .bot, .bot, .bot, .bot, .bot, .bot, .bot, .bot, .bot, .bot, .bot, .bot, .bot, .bot, .bot, .bot, .bot, .bot, .bot, .bot, .bot, .bot, .bot], []⟩) ?_ ?_
    · refine XL_cons rfl (X_of_Y0 rfl (E_move (I vn7) rfl (by kernel_rfl))) ?_
      refine XL_cons rfl (X_of_Y1 rfl (Y1_call (s_impl_CountThree hy8) cf_impl_CountThree rfl (by kernel_rfl))) ?_
      refine XL_cons rfl (X_of_Y0 rfl (E_move (.tc (I y8.1) (.tc (Bo y8.2) .tn)) rfl (by kernel_rfl))) ?_
      refine XL_cons rfl (X_of_Y0 rfl (E_ext (n := 0) (I y8.1) (.tc (Bo y8.2) .tn) (I y8.1) rfl (by kernel_rfl) (by kernel_rfl) (by intro hh; cases hh))) ?_
      refine XL_cons rfl (X_of_Y0 rfl (E_ext (n := 1) (I y8.1) (.tc (Bo y8.2) .tn) (Bo y8.2) rfl (by kernel_rfl) (by kernel_rfl) (by intro hh; cases hh))) ?_
      refine XL_cons rfl (X_of_Y0 rfl (E_assign (I y8.1) rfl (by kernel_rfl))) ?_
      refine XL_cons rfl (X_of_Y0 rfl (E_assign (Bo y8.2) rfl (by kernel_rfl))) ?_
      refine XL_nil ?_
      kernel_rfl
    obtain ⟨y9, hy9, h⟩ := of_bind h
    refine V_sreg [false, false, false, false, false, true, true, true, true, true, false, false, false, false, false, false, false, false, false, false, false, false, false, false, false, false, false, false, false, false, false, false, false, false, false, false, false, false, false, false, false, false, false, false, false, false, false, false, false, false, false, false, false, false, false, false, false, false, false, false, false, false, false, false, false, false, false, false, false] [] (s1 := ⟨[.bot, .bot, .bot, .bot, .bot, I vn7, I y8.1, Bo y8.2, I y9.1, Bo y9.2, .bot, .bot, .bot, .bot, .bot, .bot, .bot, .bot, .bot, .bot, .bot, .bot, .bot, .bot, .bot, .bot, .bot, .bot, .bot, .bot, .bot, .bot, .bot, .bot, .bot, .bot, .bot, .bot, .bot, .bot, .bot, .bot, .bot, .bot, .bot, .bot, .bot, .bot, .bot, .bot, .bot, .bot, .bot, .bot, .bot, .bot, .bot, .bot, .bot, .bot, .bot, .bot, .bot, .bot, .bot, .bot, .bot, .bot, .bot], []⟩) ?_ ?_
    · refine XL_cons rfl (X_of_Y0 rfl (E_move (I vn7) rfl (by kernel_rfl))) ?_
      refine XL_cons rfl (X_of_Y1 rfl (Y1_call (s_spec_CountThree hy9) cf_spec_CountThree rfl (by kernel_rfl))) ?_
      refine XL_cons rfl (X_of_Y0 rfl (E_move (.tc (I y9.1) (.tc (Bo y9.2) .tn)) rfl (by kernel_rfl))) ?_
      refine XL_cons rfl (X_of_Y0 rfl (E_ext (n := 0) (I y9.1) (.tc (Bo y9.2) .tn) (I y9.1) rfl (by kernel_rfl) (by kernel_rfl) (by intro hh; cases hh))) ?_
      refine XL_cons rfl (X_of_Y0 rfl (E_ext (n := 1) (I y9.1) (.tc (Bo y9.2) .tn) (Bo y9.2) rfl (by kernel_rfl) (by kernel_rfl) (by intro hh; cases hh))) ?_
      refine XL_cons rfl (X_of_Y0 rfl (E_assign (I y9.1) rfl (by kernel_rfl))) ?_
      refine XL_cons rfl (X_of_Y0 rfl (E_assign (Bo y9.2) rfl (by kernel_rfl))) ?_
      refine XL_nil ?_
      kernel_rfl
    obtain ⟨y10, hy10, h⟩ := of_bind h
    refine V_sreg [false, false, false, false, false, true, true, true, true, true, true, true, false, false, false, false, false, false, false, false, false, false, false, false, false, false, false, false, false, false, false, false, false, false, false, false, false, false, false, false, false, false, false, false, false, false, false, false, false, false, false, false, false, false, false, false, false, false, false, false, false, false, false, false, false, false, false, false, false] [] (s1 := ⟨[.bot, .bot, .bot, .bot, .bot, I vn7, I y8.1, Bo y8.2, I y9.1, Bo y9.2, I y10.1, Bo y10.2, .bot, .bot, .bot, .bot, .bot, .bot, .bot, .bot, .bot, .bot, .bot, .bot, .bot, .bot, .bot, .bot, .bot, .bot, .bot, .bot, .bot, .bot, .bot, .bot, .bot, .bot, .bot, .bot, .bot, .bot, .bot, .bot, .bot, .bot, .bot, .bot, .bot, .bot, .bot, .bot, .bot, .bot, .bot, .bot, .bot, .bot, .bot, .bot, .bot, .bot, .bot, .bot, .bot, .bot, .bot, .bot, .bot], []⟩) ?_ ?_
    · refine XL_cons rfl (X_of_Y0 rfl (E_move (I vn7) rfl (by kernel_rfl))) ?_
      refine XL_cons rfl (X_of_Y0 rfl (Y0_mul64 (a := 4) (b := vn7) rfl (by kernel_rfl) (by kernel_rfl))) ?_
      refine XL_cons rfl (X_of_Y1 rfl (Y1_call (s_impl_HurwitzNumber hy10) cf_impl_HurwitzNumber rfl (by kernel_rfl))) ?_
      refine XL_cons rfl (X_of_Y0 rfl (E_move (.tc (I y10.1) (.tc (Bo y10.2) .tn)) rfl (by kernel_rfl))) ?_
      refine XL_cons rfl (X_of_Y0 rfl (E_ext (n := 0) (I y10.1) (.tc (Bo y10.2) .tn) (I y10.1) rfl (by kernel_rfl) (by kernel_rfl) (by intro hh; cases hh))) ?_
      refine XL_cons rfl (X_of_Y0 rfl (E_ext (n := 1) (I y10.1) (.tc (Bo y10.2) .tn) (Bo y10.2) rfl (by kernel_rfl) (by kernel_rfl) (by intro hh; cases hh))) ?_
      refine XL_cons rfl (X_of_Y0 rfl (E_assign (I y10.1) rfl (by kernel_rfl))) ?_
      refine XL_cons rfl (X_of_Y0 rfl (E_assign (Bo y10.2) rfl (by kernel_rfl))) ?_
      refine XL_nil ?_
      kernel_rfl
    obtain ⟨y11, hy11, h⟩ := of_bind h
    refine V_sreg [false, false, false, false, false, false, true, true, true, true, true, true, true, true, false, false, false, false, false, false, false, false, false, false, false, false, false, false, false, false, false, false, false, false, false, false, false, false, false, false, false, false, false, false, false, false, false, false, false, false, false, false, false, false, false, false, false, false, false, false, false, false, false, false, false, false, false, false, false] [] (s1 := ⟨[.bot, .bot, .bot, .bot, .bot, .bot, I y8.1, Bo y8.2, I y9.1, Bo y9.2, I y10.1, Bo y10.2, I y11.1, Bo y11.2, .bot, .bot, .bot, .bot, .bot, .bot, .bot, .bot, .bot, .bot, .bot, .bot, .bot, .bot, .bot, .bot, .bot, .bot, .bot, .bot, .bot, .bot, .bot, .bot, .bot, .bot, .bot, .bot, .bot, .bot, .bot, .bot, .bot, .bot, .bot, .bot, .bot, .bot, .bot, .bot, .bot, .bot, .bot, .bot, .bot, .bot, .bot, .bot, .bot, .bot, .bot, .bot, .bot, .bot, .bot], []⟩) ?_ ?_
    · refine XL_cons rfl (X_of_Y0 rfl (E_move (I vn7) rfl (by kernel_rfl))) ?_
      refine XL_cons rfl (X_of_Y1 rfl (Y1_call (s_impl_HurwitzNumber hy11) cf_impl_HurwitzNumber rfl (by kernel_rfl))) ?_
      refine XL_cons rfl (X_of_Y0 rfl (E_move (.tc (I y11.1) (.tc (Bo y11.2) .tn)) rfl (by kernel_rfl))) ?_
      refine XL_cons rfl (X_of_Y0 rfl (E_ext (n := 0) (I y11.1) (.tc (Bo y11.2) .tn) (I y11.1) rfl (by kernel_rfl) (by kernel_rfl) (by intro hh; cases hh))) ?_
      refine XL_cons rfl (X_of_Y0 rfl (E_ext (n := 1) (I y11.1) (.tc (Bo y11.2) .tn) (Bo y11.2) rfl (by kernel_rfl) (by kernel_rfl) (by intro hh; cases hh))) ?_
      refine XL_cons rfl (X_of_Y0 rfl (E_assign (I y11.1) rfl (by kernel_rfl))) ?_
      refine XL_cons rfl (X_of_Y0 rfl (E_assign (Bo y11.2) rfl (by kernel_rfl))) ?_
      refine XL_nil ?_
      kernel_rfl
    obtain ⟨t17, ht17, h⟩ := of_bind h
    have ht17 := some_inj ht17
    refine V_sreg [false, false, false, false, true, false, false, false, false, false, false, false, false, false, false, false, false, false, false, false, false, false, false, false, false, false, false, false, false, false, false, false, false, false, false, false, false, false, false, false, false, false, false, false, false, false, false, false, false, false, false, false, false, false, false, false, false, false, false, false, false, false, false, false, false, false, false, false, false] [] (s1 := ⟨[.bot, .bot, .bot, .bot, Bo t17, .bot, .bot, .bot, .bot, .bot, .bot, .bot, .bot, .bot, .bot, .bot, .bot, .bot, .bot, .bot, .bot, .bot, .bot, .bot, .bot, .bot, .bot, .bot, .bot, .bot, .bot, .bot, .bot, .bot, .bot, .bot, .bot, .bot, .bot, .bot, .bot, .bot, .bot, .bot, .bot, .bot, .bot, .bot, .bot, .bot, .bot, .bot, .bot, .bot, .bot, .bot, .bot, .bot, .bot, .bot, .bot, .bot, .bot, .bot, .bot, .bot, .bot, .bot, .bot], []⟩) ?_ ?_
    · refine XL_cons rfl (X_of_Y0 rfl (E_move (Bo y8.2) rfl (by kernel_rfl))) ?_
      refine XL_cons rfl (X_of_Y0 rfl (E_move (Bo y8.2) rfl (by kernel_rfl))) ?_
      refine XL_split y8.2 (fun hc12 => ?_) (fun hc12 => ?_)
      · refine XL_takeC (y8.2) rfl rfl (by kernel_rfl) hc12 (X_of_Y0 rfl (E_move (Bo y9.2) rfl (by kernel_rfl))) ?_
        refine XL_cons rfl (X_of_Y0 rfl (Y0_pick1 (b := y8.2) (p := y9.2) (q := false) rfl (by kernel_rfl) hc12 (by kernel_rfl))) ?_
        refine XL_cons rfl (X_of_Y0 rfl (E_move (Bo (bif y8.2 then y9.2 else false)) rfl (by kernel_rfl))) ?_
        refine XL_split (bif y8.2 then y9.2 else false) (fun hc13 => ?_) (fun hc13 => ?_)
        · refine XL_takeC (bif y8.2 then y9.2 else false) rfl rfl (by kernel_rfl) hc13 (X_of_Y0 rfl (E_move (I y8.1) rfl (by kernel_rfl))) ?_
          refine XL_takeC (bif y8.2 then y9.2 else false) rfl rfl (by kernel_rfl) hc13 (X_of_Y0 rfl (E_move (I y9.1) rfl (by kernel_rfl))) ?_
          refine XL_takeC (bif y8.2 then y9.2 else false) rfl rfl (by kernel_rfl) hc13 (X_of_Y0 rfl (Y0_eqw (k := .i64) (a := y8.1) (b := y9.1) rfl (by kernel_rfl) (by kernel_rfl))) ?_
          refine XL_cons rfl (X_of_Y0 rfl (Y0_pick1 (b := bif y8.2 then y9.2 else false) (p := eqI y8.1 y9.1) (q := false) rfl (by kernel_rfl) hc13 (by kernel_rfl))) ?_
          refine XL_cons rfl (X_of_Y0 rfl (E_move (Bo (bif (bif y8.2 then y9.2 else false) then (eqI y8.1 y9.1) else false)) rfl (by kernel_rfl))) ?_
          refine XL_split (bif (bif y8.2 then y9.2 else false) then (eqI y8.1 y9.1) else false) (fun hc14 => ?_) (fun hc14 => ?_)
          · refine XL_takeC (bif (bif y8.2 then y9.2 else false) then (eqI y8.1 y9.1) else false) rfl rfl (by kernel_rfl) hc14 (X_of_Y0 rfl (E_move (Bo y10.2) rfl (by kernel_rfl))) ?_
            refine XL_cons rfl (X_of_Y0 rfl (Y0_pick1 (b := bif (bif y8.2 then y9.2 else false) then (eqI y8.1 y9.1) else false) (p := y10.2) (q := false) rfl (by kernel_rfl) hc14 (by kernel_rfl))) ?_
            refine XL_cons rfl (X_of_Y0 rfl (E_move (Bo (bif (bif (bif y8.2 then y9.2 else false) then (eqI y8.1 y9.1) else false) then y10.2 else false)) rfl (by kernel_rfl))) ?_
            refine XL_split (bif (bif (bif y8.2 then y9.2 else false) then (eqI y8.1 y9.1) else false) then y10.2 else false) (fun hc15 => ?_) (fun hc15 => ?_)
            · refine XL_takeC (bif (bif (bif y8.2 then y9.2 else false) then (eqI y8.1 y9.1) else false) then y10.2 else false) rfl rfl (by kernel_rfl) hc15 (X_of_Y0 rfl (E_move (Bo y11.2) rfl (by kernel_rfl))) ?_
              refine XL_cons rfl (X_of_Y0 rfl (Y0_pick1 (b := bif (bif (bif y8.2 then y9.2 else false) then (eqI y8.1 y9.1) else false) then y10.2 else false) (p := y11.2) (q := false) rfl (by kernel_rfl) hc15 (by kernel_rfl))) ?_
              refine XL_cons rfl (X_of_Y0 rfl (E_move (Bo (bif (bif (bif (bif y8.2 then y9.2 else false) then (eqI y8.1 y9.1) else false) then y10.2 else false) then y11.2 else false)) rfl (by kernel_rfl))) ?_
              refine XL_split (bif (bif (bif (bif y8.2 then y9.2 else false) then (eqI y8.1 y9.1) else false) then y10.2 else false) then y11.2 else false) (fun hc16 => ?_) (fun hc16 => ?_)
              · refine XL_takeC (bif (bif (bif (bif y8.2 then y9.2 else false) then (eqI y8.1 y9.1) else false) then y10.2 else false) then y11.2 else false) rfl rfl (by kernel_rfl) hc16 (X_of_Y0 rfl (E_move (I y8.1) rfl (by kernel_rfl))) ?_
                refine XL_takeC (bif (bif (bif (bif y8.2 then y9.2 else false) then (eqI y8.1 y9.1) else false) then y10.2 else false) then y11.2 else false) rfl rfl (by kernel_rfl) hc16 (X_of_Y0 rfl (E_move (I y10.1) rfl (by kernel_rfl))) ?_
                refine XL_takeC (bif (bif (bif (bif y8.2 then y9.2 else false) then (eqI y8.1 y9.1) else false) then y10.2 else false) then y11.2 else false) rfl rfl (by kernel_rfl) hc16 (X_of_Y0 rfl (E_move (I y11.1) rfl (by kernel_rfl))) ?_
                refine XL_takeC (bif (bif (bif (bif y8.2 then y9.2 else false) then (eqI y8.1 y9.1) else false) then y10.2 else false) then y11.2 else false) rfl rfl (by kernel_rfl) hc16 (X_of_Y0 rfl (Y0_mul64 (a := 2) (b := y11.1) rfl (by kernel_rfl) (by kernel_rfl))) ?_
                refine XL_takeC (bif (bif (bif (bif y8.2 then y9.2 else false) then (eqI y8.1 y9.1) else false) then y10.2 else false) then y11.2 else false) rfl rfl (by kernel_rfl) hc16 (X_of_Y0 rfl (Y0_sub64 (a := y10.1) (b := w64 (2 * y11.1)) rfl (by kernel_rfl) (by kernel_rfl))) ?_
                refine XL_takeC (bif (bif (bif (bif y8.2 then y9.2 else false) then (eqI y8.1 y9.1) else false) then y10.2 else false) then y11.2 else false) rfl rfl (by kernel_rfl) hc16 (X_of_Y0 rfl (Y0_eqw (k := .i64) (a := y8.1) (b := w64 (y10.1 - (w64 (2 * y11.1)))) rfl (by kernel_rfl) (by kernel_rfl))) ?_
                refine XL_cons rfl (X_of_Y0 rfl (Y0_pick1 (b := bif (bif (bif (bif y8.2 then y9.2 else false) then (eqI y8.1 y9.1) else false) then y10.2 else false) then y11.2 else false) (p := eqI y8.1 (w64 (y10.1 - (w64 (2 * y11.1))))) (q := false) rfl (by kernel_rfl) hc16 (by kernel_rfl))) ?_
                refine XL_cons rfl (X_of_Y0 rfl (E_assign (Bo (bif (bif (bif (bif (bif y8.2 then y9.2 else false) then (eqI y8.1 y9.1) else false) then y10.2 else false) then y11.2 else false) then (eqI y8.1 (w64 (y10.1 - (w64 (2 * y11.1))))) else false)) rfl (by kernel_rfl))) ?_
                refine XL_nil ?_
                subst ht17
                kernel_rfl
              · refine XL_skipT (bif (bif (bif (bif y8.2 then y9.2 else false) then (eqI y8.1 y9.1) else false) then y10.2 else false) then y11.2 else false) rfl rfl (by kernel_rfl) hc16 rfl ?_
                refine XL_skipT (bif (bif (bif (bif y8.2 then y9.2 else false) then (eqI y8.1 y9.1) else false) then y10.2 else false) then y11.2 else false) rfl rfl (by kernel_rfl) hc16 rfl ?_
                refine XL_skipT (bif (bif (bif (bif y8.2 then y9.2 else false) then (eqI y8.1 y9.1) else false) then y10.2 else false) then y11.2 else false) rfl rfl (by kernel_rfl) hc16 rfl ?_
                refine XL_skipT (bif (bif (bif (bif y8.2 then y9.2 else false) then (eqI y8.1 y9.1) else false) then y10.2 else false) then y11.2 else false) rfl rfl (by kernel_rfl) hc16 rfl ?_
                refine XL_skipT (bif (bif (bif (bif y8.2 then y9.2 else false) then (eqI y8.1 y9.1) else false) then y10.2 else false) then y11.2 else false) rfl rfl (by kernel_rfl) hc16 rfl ?_
                refine XL_skipT (bif (bif (bif (bif y8.2 then y9.2 else false) then (eqI y8.1 y9.1) else false) then y10.2 else false) then y11.2 else false) rfl rfl (by kernel_rfl) hc16 rfl ?_
                refine XL_cons rfl (X_of_Y0 rfl (Y0_pick0 (b := bif (bif (bif (bif y8.2 then y9.2 else false) then (eqI y8.1 y9.1) else false) then y10.2 else false) then y11.2 else false) (p := eqI y8.1 (w64 (y10.1 - (w64 (2 * y11.1))))) (q := false) rfl (by kernel_rfl) hc16 (by kernel_rfl))) ?_
                refine XL_cons rfl (X_of_Y0 rfl (E_assign (Bo (bif (bif (bif (bif (bif y8.2 then y9.2 else false) then (eqI y8.1 y9.1) else false) then y10.2 else false) then y11.2 else false) then (eqI y8.1 (w64 (y10.1 - (w64 (2 * y11.1))))) else false)) rfl (by kernel_rfl))) ?_
                refine XL_nil ?_
                subst ht17
                kernel_rfl
            · refine XL_skipT (bif (bif (bif y8.2 then y9.2 else false) then (eqI y8.1 y9.1) else false) then y10.2 else false) rfl rfl (by kernel_rfl) hc15 rfl ?_
              refine XL_cons rfl (X_of_Y0 rfl (Y0_pick0 (b := bif (bif (bif y8.2 then y9.2 else false) then (eqI y8.1 y9.1) else false) then y10.2 else false) (p := y11.2) (q := false) rfl (by kernel_rfl) hc15 (by kernel_rfl))) ?_
              refine XL_cons rfl (X_of_Y0 rfl (E_move (Bo (bif (bif (bif (bif y8.2 then y9.2 else false) then (eqI y8.1 y9.1) else false) then y10.2 else false) then y11.2 else false)) rfl (by kernel_rfl))) ?_
              refine XL_split (bif (bif (bif (bif y8.2 then y9.2 else false) then (eqI y8.1 y9.1) else false) then y10.2 else false) then y11.2 else false) (fun hc16 => ?_) (fun hc16 => ?_)
              · refine XL_takeC (bif (bif (bif (bif y8.2 then y9.2 else false) then (eqI y8.1 y9.1) else false) then y10.2 else false) then y11.2 else false) rfl rfl (by kernel_rfl) hc16 (X_of_Y0 rfl (E_move (I y8.1) rfl (by kernel_rfl))) ?_
                refine XL_takeC (bif (bif (bif (bif y8.2 then y9.2 else false) then (eqI y8.1 y9.1) else false) then y10.2 else false) then y11.2 else false) rfl rfl (by kernel_rfl) hc16 (X_of_Y0 rfl (E_move (I y10.1) rfl (by kernel_rfl))) ?_
                refine XL_takeC (bif (bif (bif (bif y8.2 then y9.2 else false) then (eqI y8.1 y9.1) else false) then y10.2 else false) then y11.2 else false) rfl rfl (by kernel_rfl) hc16 (X_of_Y0 rfl (E_move (I y11.1) rfl (by kernel_rfl))) ?_
                refine XL_takeC (bif (bif (bif (bif y8.2 then y9.2 else false) then (eqI y8.1 y9.1) else false) then y10.2 else false) then y11.2 else false) rfl rfl (by kernel_rfl) hc16 (X_of_Y0 rfl (Y0_mul64 (a := 2) (b := y11.1) rfl (by kernel_rfl) (by kernel_rfl))) ?_
                refine XL_takeC (bif (bif (bif (bif y8.2 then y9.2 else false) then (eqI y8.1 y9.1) else false) then y10.2 else false) then y11.2 else false) rfl rfl (by kernel_rfl) hc16 (X_of_Y0 rfl (Y0_sub64 (a := y10.1) (b := w64 (2 * y11.1)) rfl (by kernel_rfl) (by kernel_rfl))) ?_
                refine XL_takeC (bif (bif (bif (bif y8.2 then y9.2 else false) then (eqI y8.1 y9.1) else false) then y10.2 else false) then y11.2 else false) rfl rfl (by kernel_rfl) hc16 (X_of_Y0 rfl (Y0_eqw (k := .i64) (a := y8.1) (b := w64 (y10.1 - (w64 (2 * y11.1)))) rfl (by kernel_rfl) (by kernel_rfl))) ?_
                refine XL_cons rfl (X_of_Y0 rfl (Y0_pick1 (b := bif (bif (bif (bif y8.2 then y9.2 else false) then (eqI y8.1 y9.1) else false) then y10.2 else false) then y11.2 else false) (p := eqI y8.1 (w64 (y10.1 - (w64 (2 * y11.1))))) (q := false) rfl (by kernel_rfl) hc16 (by kernel_rfl))) ?_
                refine XL_cons rfl (X_of_Y0 rfl (E_assign (Bo (bif (bif (bif (bif (bif y8.2 then y9.2 else false) then (eqI y8.1 y9.1) else false) then y10.2 else false) then y11.2 else false) then (eqI y8.1 (w64 (y10.1 - (w64 (2 * y11.1))))) else false)) rfl (by kernel_rfl))) ?_
                refine XL_nil ?_
                subst ht17
                kernel_rfl
              · refine XL_skipT (bif (bif (bif (bif y8.2 then y9.2 else false) then (eqI y8.1 y9.1) else false) then y10.2 else false) then y11.2 else false) rfl rfl (by kernel_rfl) hc16 rfl ?_
                refine XL_skipT (bif (bif (bif (bif y8.2 then y9.2 else false) then (eqI y8.1 y9.1) else false) then y10.2 else false) then y11.2 else false) rfl rfl (by kernel_rfl) hc16 rfl ?_
                refine XL_skipT (bif (bif (bif (bif y8.2 then y9.2 else false) then (eqI y8.1 y9.1) else false) then y10.2 else false) then y11.2 else false) rfl rfl (by kernel_rfl) hc16 rfl ?_
                refine XL_skipT (bif (bif (bif (bif y8.2 then y9.2 else false) then (eqI y8.1 y9.1) else false) then y10.2 else false) then y11.2 else false) rfl rfl (by kernel_rfl) hc16 rfl ?_
                refine XL_skipT (bif (bif (bif (bif y8.2 then y9.2 else false) then (eqI y8.1 y9.1) else false) then y10.2 else false) then y11.2 else false) rfl rfl (by kernel_rfl) hc16 rfl ?_
                refine XL_skipT (bif (bif (bif (bif y8.2 then y9.2 else false) then (eqI y8.1 y9.1) else false) then y10.2 else false) then y11.2 else false) rfl rfl (by kernel_rfl) hc16 rfl ?_
                refine XL_cons rfl (X_of_Y0 rfl (Y0_pick0 (b := bif (bif (bif (bif y8.2 then y9.2 else false) then (eqI y8.1 y9.1) else false) then y10.2 else false) then y11.2 else false) (p := eqI y8.1 (w64 (y10.1 - (w64 (2 * y11.1))))) (q := false) rfl (by kernel_rfl) hc16 (by kernel_rfl))) ?_
                refine XL_cons rfl (X_of_Y0 rfl (E_assign (Bo (bif (bif (bif (bif (bif y8.2 then y9.2 else false) then (eqI y8.1 y9.1) else false) then y10.2 else false) then y11.2 else false) then (eqI y8.1 (w64 (y10.1 - (w64 (2 * y11.1))))) else false)) rfl (by kernel_rfl))) ?_
                refine XL_nil ?_
                subst ht17
                kernel_rfl
          · refine XL_skipT (bif (bif y8.2 then y9.2 else false) then (eqI y8.1 y9.1) else false) rfl rfl (by kernel_rfl) hc14 rfl ?_
            refine XL_cons rfl (X_of_Y0 rfl (Y0_pick0 (b := bif (bif y8.2 then y9.2 else false) then (eqI y8.1 y9.1) else false) (p := y10.2) (q := false) rfl (by kernel_rfl) hc14 (by kernel_rfl))) ?_
            refine XL_cons rfl (X_of_Y0 rfl (E_move (Bo (bif (bif (bif y8.2 then y9.2 else false) then (eqI y8.1 y9.1) else false) then y10.2 else false)) rfl (by kernel_rfl))) ?_
            refine XL_split (bif (bif (bif y8.2 then y9.2 else false) then (eqI y8.1 y9.1) else false) then y10.2 else false) (fun hc15 => ?_) (fun hc15 => ?_)
            · refine XL_takeC (bif (bif (bif y8.2 then y9.2 else false) then (eqI y8.1 y9.1) else false) then y10.2 else false) rfl rfl (by kernel_rfl) hc15 (X_of_Y0 rfl (E_move (Bo y11.2) rfl (by kernel_rfl))) ?_
              refine XL_cons rfl (X_of_Y0 rfl (Y0_pick1 (b := bif (bif (bif y8.2 then y9.2 else false) then (eqI y8.1 y9.1) else false) then y10.2 else false) (p := y11.2) (q := false) rfl (by kernel_rfl) hc15 (by kernel_rfl))) ?_
              refine XL_cons rfl (X_of_Y0 rfl (E_move (Bo (bif (bif (bif (bif y8.2 then y9.2 else false) then (eqI y8.1 y9.1) else false) then y10.2 else false) then y11.2 else false)) rfl (by kernel_rfl))) ?_
              refine XL_split (bif (bif (bif (bif y8.2 then y9.2 else false) then (eqI y8.1 y9.1) else false) then y10.2 else false) then y11.2 else false) (fun hc16 => ?_) (fun hc16 => ?_)
              · refine XL_takeC (bif (bif (bif (bif y8.2 then y9.2 else false) then (eqI y8.1 y9.1) else false) then y10.2 else false) then y11.2 else false) rfl rfl (by kernel_rfl) hc16 (X_of_Y0 rfl (E_move (I y8.1) rfl (by kernel_rfl))) ?_
                refine XL_takeC (bif (bif (bif (bif y8.2 then y9.2 else false) then (eqI y8.1 y9.1) else false) then y10.2 else false) then y11.2 else false) rfl rfl (by kernel_rfl) hc16 (X_of_Y0 rfl (E_move (I y10.1) rfl (by kernel_rfl))) ?_
                refine XL_takeC (bif (bif (bif (bif y8.2 then y9.2 else false) then (eqI y8.1 y9.1) else false) then y10.2 else false) then y11.2 else false) rfl rfl (by kernel_rfl) hc16 (X_of_Y0 rfl (E_move (I y11.1) rfl (by kernel_rfl))) ?_
                refine XL_takeC (bif (bif (bif (bif y8.2 then y9.2 else false) then (eqI y8.1 y9.1) else false) then y10.2 else false) then y11.2 else false) rfl rfl (by kernel_rfl) hc16 (X_of_Y0 rfl (Y0_mul64 (a := 2) (b := y11.1) rfl (by kernel_rfl) (by kernel_rfl))) ?_
                refine XL_takeC (bif (bif (bif (bif y8.2 then y9.2 else false) then (eqI y8.1 y9.1) else false) then y10.2 else false) then y11.2 else false) rfl rfl (by kernel_rfl) hc16 (X_of_Y0 rfl (Y0_sub64 (a := y10.1) (b := w64 (2 * y11.1)) rfl (by kernel_rfl) (by kernel_rfl))) ?_
                refine XL_takeC (bif (bif (bif (bif y8.2 then y9.2 else false) then (eqI y8.1 y9.1) else false) then y10.2 else false) then y11.2 else false) rfl rfl (by kernel_rfl) hc16 (X_of_Y0 rfl (Y0_eqw (k := .i64) (a := y8.1) (b := w64 (y10.1 - (w64 (2 * y11.1)))) rfl (by kernel_rfl) (by kernel_rfl))) ?_
                refine XL_cons rfl (X_of_Y0 rfl (Y0_pick1 (b := bif (bif (bif (bif y8.2 then y9.2 else false) then (eqI y8.1 y9.1) else false) then y10.2 else false) then y11.2 else false) (p := eqI y8.1 (w64 (y10.1 - (w64 (2 * y11.1))))) (q := false) rfl (by kernel_rfl) hc16 (by kernel_rfl))) ?_
                refine XL_cons rfl (X_of_Y0 rfl (E_assign (Bo (bif (bif (bif (bif (bif y8.2 then y9.2 else false) then (eqI y8.1 y9.1) else false) then y10.2 else false) then y11.2 else false) then (eqI y8.1 (w64 (y10.1 - (w64 (2 * y11.1))))) else false)) rfl (by kernel_rfl))) ?_
                refine XL_nil ?_
                subst ht17
                kernel_rfl
              · refine XL_skipT (bif (bif (bif (bif y8.2 then y9.2 else false) then (eqI y8.1 y9.1) else false) then y10.2 else false) then y11.2 else false) rfl rfl (by kernel_rfl) hc16 rfl ?_
                refine XL_skipT (bif (bif (bif (bif y8.2 then y9.2 else false) then (eqI y8.1 y9.1) else false) then y10.2 else false) then y11.2 else false) rfl rfl (by kernel_rfl) hc16 rfl ?_
                refine XL_skipT (bif (bif (bif (bif y8.2 then y9.2 else false) then (eqI y8.1 y9.1) else false) then y10.2 else false) then y11.2 else false) rfl rfl (by kernel_rfl) hc16 rfl ?_
                refine XL_skipT (bif (bif (bif (bif y8.2 then y9.2 else false) then (eqI y8.1 y9.1) else false) then y10.2 else false) then y11.2 else false) rfl rfl (by kernel_rfl) hc16 rfl ?_
                refine XL_skipT (bif (bif (bif (bif y8.2 then y9.2 else false) then (eqI y8.1 y9.1) else false) then y10.2 else false) then y11.2 else false) rfl rfl (by kernel_rfl) hc16 rfl ?_
                refine XL_skipT (bif (bif (bif (bif y8.2 then y9.2 else false) then (eqI y8.1 y9.1) else false) then y10.2 else false) then y11.2 else false) rfl rfl (by kernel_rfl) hc16 rfl ?_
                refine XL_cons rfl (X_of_Y0 rfl (Y0_pick0 (b := bif (bif (bif (bif y8.2 then y9.2 else false) then (eqI y8.1 y9.1) else false) then y10.2 else false) then y11.2 else false) (p := eqI y8.1 (w64 (y10.1 - (w64 (2 * y11.1))))) (q := false) rfl (by kernel_rfl) hc16 (by kernel_rfl))) ?_
                refine XL_cons rfl (X_of_Y0 rfl (E_assign (Bo (bif (bif (bif (bif (bif y8.2 then y9.2 else false) then (eqI y8.1 y9.1) else false) then y10.2 else false) then y11.2 else false) then (eqI y8.1 (w64 (y10.1 - (w64 (2 * y11.1))))) else false)) rfl (by kernel_rfl))) ?_
                refine XL_nil ?_
                subst ht17
                kernel_rfl
            · refine XL_skipT (bif (bif (bif y8.2 then y9.2 else false) then (eqI y8.1 y9.1) else false) then y10.2 else false) rfl rfl (by kernel_rfl) hc15 rfl ?_
              refine XL_cons rfl (X_of_Y0 rfl (Y0_pick0 (b := bif (bif (bif y8.2 then y9.2 else false) then (eqI y8.1 y9.1) else false) then y10.2 else false) (p := y11.2) (q := false) rfl (by kernel_rfl) hc15 (by kernel_rfl))) ?_
              refine XL_cons rfl (X_of_Y0 rfl (E_move (Bo (bif (bif (bif (bif y8.2 then y9.2 else false) then (eqI y8.1 y9.1) else false) then y10.2 else false) then y11.2 else false)) rfl (by kernel_rfl))) ?_
              refine XL_split (bif (bif (bif (bif y8.2 then y9.2 else false) then (eqI y8.1 y9.1) else false) then y10.2 else false) then y11.2 else false) (fun hc16 => ?_) (fun hc16 => ?_)
              · refine XL_takeC (bif (bif (bif (bif y8.2 then y9.2 else false) then (eqI y8.1 y9.1) else false) then y10.2 else false) then y11.2 else false) rfl rfl (by kernel_rfl) hc16 (X_of_Y0 rfl (E_move (I y8.1) rfl (by kernel_rfl))) ?_
                refine XL_takeC (bif (bif (bif (bif y8.2 then y9.2 else false) then (eqI y8.1 y9.1) else false) then y10.2 else false) then y11.2 else false) rfl rfl (by kernel_rfl) hc16 (X_of_Y0 rfl (E_move (I y10.1) rfl (by kernel_rfl))) ?_
                refine XL_takeC (bif (bif (bif (bif y8.2 then y9.2 else false) then (eqI y8.1 y9.1) else false) then y10.2 else false) then y11.2 else false) rfl rfl (by kernel_rfl) hc16 (X_of_Y0 rfl (E_move (I y11.1) rfl (by kernel_rfl))) ?_
                refine XL_takeC (bif (bif (bif (bif y8.2 then y9.2 else false) then (eqI y8.1 y9.1) else false) then y10.2 else false) then y11.2 else false) rfl rfl (by kernel_rfl) hc16 (X_of_Y0 rfl (Y0_mul64 (a := 2) (b := y11.1) rfl (by kernel_rfl) (by kernel_rfl))) ?_
                refine XL_takeC (bif (bif (bif (bif y8.2 then y9.2 else false) then (eqI y8.1 y9.1) else false) then y10.2 else false) then y11.2 else false) rfl rfl (by kernel_rfl) hc16 (X_of_Y0 rfl (Y0_sub64 (a := y10.1) (b := w64 (2 * y11.1)) rfl (by kernel_rfl) (by kernel_rfl))) ?_
                refine XL_takeC (bif (bif (bif (bif y8.2 then y9.2 else false) then (eqI y8.1 y9.1) else false) then y10.2 else false) then y11.2 else false) rfl rfl (by kernel_rfl) hc16 (X_of_Y0 rfl (Y0_eqw (k := .i64) (a := y8.1) (b := w64 (y10.1 - (w64 (2 * y11.1)))) rfl (by kernel_rfl) (by kernel_rfl))) ?_
                refine XL_cons rfl (X_of_Y0 rfl (Y0_pick1 (b := bif (bif (bif (bif y8.2 then y9.2 else false) then (eqI y8.1 y9.1) else false) then y10.2 else false) then y11.2 else false) (p := eqI y8.1 (w64 (y10.1 - (w64 (2 * y11.1))))) (q := false) rfl (by kernel_rfl) hc16 (by kernel_rfl))) ?_
                refine XL_cons rfl (X_of_Y0 rfl (E_assign (Bo (bif (bif (bif (bif (bif y8.2 then y9.2 else false) then (eqI y8.1 y9.1) else false) then y10.2 else false) then y11.2 else false) then (eqI y8.1 (w64 (y10.1 - (w64 (2 * y11.1))))) else false)) rfl (by kernel_rfl))) ?_
                refine XL_nil ?_
                subst ht17
                kernel_rfl
              · refine XL_skipT (bif (bif (bif (bif y8.2 then y9.2 else false) then (eqI y8.1 y9.1) else false) then y10.2 else false) then y11.2 else false) rfl rfl (by kernel_rfl) hc16 rfl ?_
                refine XL_skipT (bif (bif (bif (bif y8.2 then y9.2 else false) then (eqI y8.1 y9.1) else false) then y10.2 else false) then y11.2 else false) rfl rfl (by kernel_rfl) hc16 rfl ?_
                refine XL_skipT (bif (bif (bif (bif y8.2 then y9.2 else false) then (eqI y8.1 y9.1) else false) then y10.2 else false) then y11.2 else false) rfl rfl (by kernel_rfl) hc16 rfl ?_
                refine XL_skipT (bif (bif (bif (bif y8.2 then y9.2 else false) then (eqI y8.1 y9.1) else false) then y10.2 else false) then y11.2 else false) rfl rfl (by kernel_rfl) hc16 rfl ?_
                refine XL_skipT (bif (bif (bif (bif y8.2 then y9.2 else false) then (eqI y8.1 y9.1) else false) then y10.2 else false) then y11.2 else false) rfl rfl (by kernel_rfl) hc16 rfl ?_
                refine XL_skipT (bif (bif (bif (bif y8.2 then y9.2 else false) then (eqI y8.1 y9.1) else false) then y10.2 else false) then y11.2 else false) rfl rfl (by kernel_rfl) hc16 rfl ?_
                refine XL_cons rfl (X_of_Y0 rfl (Y0_pick0 (b := bif (bif (bif (bif y8.2 then y9.2 else false) then (eqI y8.1 y9.1) else false) then y10.2 else false) then y11.2 else false) (p := eqI y8.1 (w64 (y10.1 - (w64 (2 * y11.1))))) (q := false) rfl (by kernel_rfl) hc16 (by kernel_rfl))) ?_
                refine XL_cons rfl (X_of_Y0 rfl (E_assign (Bo (bif (bif (bif (bif (bif y8.2 then y9.2 else false) then (eqI y8.1 y9.1) else false) then y10.2 else false) then y11.2 else false) then (eqI y8.1 (w64 (y10.1 - (w64 (2 * y11.1))))) else false)) rfl (by kernel_rfl))) ?_
                refine XL_nil ?_
                subst ht17
                kernel_rfl
        · refine XL_skipT (bif y8.2 then y9.2 else false) rfl rfl (by kernel_rfl) hc13 rfl ?_
          refine XL_skipT (bif y8.2 then y9.2 else false) rfl rfl (by kernel_rfl) hc13 rfl ?_
          refine XL_skipT (bif y8.2 then y9.2 else false) rfl rfl (by kernel_rfl) hc13 rfl ?_
          refine XL_cons rfl (X_of_Y0 rfl (Y0_pick0 (b := bif y8.2 then y9.2 else false) (p := eqI y8.1 y9.1) (q := false) rfl (by kernel_rfl) hc13 (by kernel_rfl))) ?_
          refine XL_cons rfl (X_of_Y0 rfl (E_move (Bo (bif (bif y8.2 then y9.2 else false) then (eqI y8.1 y9.1) else false)) rfl (by kernel_rfl))) ?_
          refine XL_split (bif (bif y8.2 then y9.2 else false) then (eqI y8.1 y9.1) else false) (fun hc14 => ?_) (fun hc14 => ?_)
          · refine XL_takeC (bif (bif y8.2 then y9.2 else false) then (eqI y8.1 y9.1) else false) rfl rfl (by kernel_rfl) hc14 (X_of_Y0 rfl (E_move (Bo y10.2) rfl (by kernel_rfl))) ?_
            refine XL_cons rfl (X_of_Y0 rfl (Y0_pick1 (b := bif (bif y8.2 then y9.2 else false) then (eqI y8.1 y9.1) else false) (p := y10.2) (q := false) rfl (by kernel_rfl) hc14 (by kernel_rfl))) ?_
            refine XL_cons rfl (X_of_Y0 rfl (E_move (Bo (bif (bif (bif y8.2 then y9.2 else false) then (eqI y8.1 y9.1) else false) then y10.2 else false)) rfl (by kernel_rfl))) ?_
            refine XL_split (bif (bif (bif y8.2 then y9.2 else false) then (eqI y8.1 y9.1) else false) then y10.2 else false) (fun hc15 => ?_) (fun hc15 => ?_)
            · refine XL_takeC (bif (bif (bif y8.2 then y9.2 else false) then (eqI y8.1 y9.1) else false) then y10.2 else false) rfl rfl (by kernel_rfl) hc15 (X_of_Y0 rfl (E_move (Bo y11.2) rfl (by kernel_rfl))) ?_
              refine XL_cons rfl (X_of_Y0 rfl (Y0_pick1 (b := bif (bif (bif y8.2 then y9.2 else false) then (eqI y8.1 y9.1) else false) then y10.2 else false) (p := y11.2) (q := false) rfl (by kernel_rfl) hc15 (by kernel_rfl))) ?_
              refine XL_cons rfl (X_of_Y0 rfl (E_move (Bo (bif (bif (bif (bif y8.2 then y9.2 else false) then (eqI y8.1 y9.1) else false) then y10.2 else false) then y11.2 else false)) rfl (by kernel_rfl))) ?_
              refine XL_split (bif (bif (bif (bif y8.2 then y9.2 else false) then (eqI y8.1 y9.1) else false) then y10.2 else false) then y11.2 else false) (fun hc16 => ?_) (fun hc16 => ?_)
              · refine XL_takeC (bif (bif (bif (bif y8.2 then y9.2 else false) then (eqI y8.1 y9.1) else false) then y10.2 else false) then y11.2 else false) rfl rfl (by kernel_rfl) hc16 (X_of_Y0 rfl (E_move (I y8.1) rfl (by kernel_rfl))) ?_
                refine XL_takeC (bif (bif (bif (bif y8.2 then y9.2 else false) then (eqI y8.1 y9.1) else false) then y10.2 else false) then y11.2 else false) rfl rfl (by kernel_rfl) hc16 (X_of_Y0 rfl (E_move (I y10.1) rfl (by kernel_rfl))) ?_
                refine XL_takeC (bif (bif (bif (bif y8.2 then y9.2 else false) then (eqI y8.1 y9.1) else false) then y10.2 else false) then y11.2 else false) rfl rfl (by kernel_rfl) hc16 (X_of_Y0 rfl (E_move (I y11.1) rfl (by kernel_rfl))) ?_
                refine XL_takeC (bif (bif (bif (bif y8.2 then y9.2 else false) then (eqI y8.1 y9.1) else false) then y10.2 else false) then y11.2 else false) rfl rfl (by kernel_rfl) hc16 (X_of_Y0 rfl (Y0_mul64 (a := 2) (b := y11.1) rfl (by kernel_rfl) (by kernel_rfl))) ?_
                refine XL_takeC (bif (bif (bif (bif y8.2 then y9.2 else false) then (eqI y8.1 y9.1) else false) then y10.2 else false) then y11.2 else false) rfl rfl (by kernel_rfl) hc16 (X_of_Y0 rfl (Y0_sub64 (a := y10.1) (b := w64 (2 * y11.1)) rfl (by kernel_rfl) (by kernel_rfl))) ?_
                refine XL_takeC (bif (bif (bif (bif y8.2 then y9.2 else false) then (eqI y8.1 y9.1) else false) then y10.2 else false) then y11.2 else false) rfl rfl (by kernel_rfl) hc16 (X_of_Y0 rfl (Y0_eqw (k := .i64) (a := y8.1) (b := w64 (y10.1 - (w64 (2 * y11.1)))) rfl (by kernel_rfl) (by kernel_rfl))) ?_
                refine XL_cons rfl (X_of_Y0 rfl (Y0_pick1 (b := bif (bif (bif (bif y8.2 then y9.2 else false) then (eqI y8.1 y9.1) else false) then y10.2 else false) then y11.2 else false) (p := eqI y8.1 (w64 (y10.1 - (w64 (2 * y11.1))))) (q := false) rfl (by kernel_rfl) hc16 (by kernel_rfl))) ?_
                refine XL_cons rfl (X_of_Y0 rfl (E_assign (Bo (bif (bif (bif (bif (bif y8.2 then y9.2 else false) then (eqI y8.1 y9.1) else false) then y10.2 else false) then y11.2 else false) then (eqI y8.1 (w64 (y10.1 - (w64 (2 * y11.1))))) else false)) rfl (by kernel_rfl))) ?_
                refine XL_nil ?_
                subst ht17
                kernel_rfl
              · refine XL_skipT (bif (bif (bif (bif y8.2 then y9.2 else false) then (eqI y8.1 y9.1) else false) then y10.2 else false) then y11.2 else false) rfl rfl (by kernel_rfl) hc16 rfl ?_
                refine XL_skipT (bif (bif (bif (bif y8.2 then y9.2 else false) then (eqI y8.1 y9.1) else false) then y10.2 else false) then y11.2 else false) rfl rfl (by kernel_rfl) hc16 rfl ?_
                refine XL_skipT (bif (bif (bif (bif y8.2 then y9.2 else false) then (eqI y8.1 y9.1) else false) then y10.2 else false) then y11.2 else false) rfl rfl (by kernel_rfl) hc16 rfl ?_
                refine XL_skipT (bif (bif (bif (bif y8.2 then y9.2 else false) then (eqI y8.1 y9.1) else false) then y10.2 else false) then y11.2 else false) rfl rfl (by kernel_rfl) hc16 rfl ?_
                refine XL_skipT (bif (bif (bif (bif y8.2 then y9.2 else false) then (eqI y8.1 y9.1) else false) then y10.2 else false) then y11.2 else false) rfl rfl (by kernel_rfl) hc16 rfl ?_
                refine XL_skipT (bif (bif (bif (bif y8.2 then y9.2 else false) then (eqI y8.1 y9.1) else false) then y10.2 else false) then y11.2 else false) rfl rfl (by kernel_rfl) hc16 rfl ?_
                refine XL_cons rfl (X_of_Y0 rfl (Y0_pick0 (b := bif (bif (bif (bif y8.2 then y9.2 else false) then (eqI y8.1 y9.1) else false) then y10.2 else false) then y11.2 else false) (p := eqI y8.1 (w64 (y10.1 - (w64 (2 * y11.1))))) (q := false) rfl (by kernel_rfl) hc16 (by kernel_rfl))) ?_
                refine XL_cons rfl (X_of_Y0 rfl (E_assign (Bo (bif (bif (bif (bif (bif y8.2 then y9.2 else false) then (eqI y8.1 y9.1) else false) then y10.2 else false) then y11.2 else false) then (eqI y8.1 (w64 (y10.1 - (w64 (2 * y11.1))))) else false)) rfl (by kernel_rfl))) ?_
                refine XL_nil ?_
                subst ht17
                kernel_rfl
            · refine XL_skipT (bif (bif (bif y8.2 then y9.2 else false) then (eqI y8.1 y9.1) else false) then y10.2 else false) rfl rfl (by kernel_rfl) hc15 rfl ?_
              refine XL_cons rfl (X_of_Y0 rfl (Y0_pick0 (b := bif (bif (bif y8.2 then y9.2 else false) then (eqI y8.1 y9.1) else false) then y10.2 else false) (p := y11.2) (q := false) rfl (by kernel_rfl) hc15 (by kernel_rfl))) ?_
              refine XL_cons rfl (X_of_Y0 rfl (E_move (Bo (bif (bif (bif (bif y8.2 then y9.2 else false) then (eqI y8.1 y9.1) else false) then y10.2 else false) then y11.2 else false)) rfl (by kernel_rfl))) ?_
              refine XL_split (bif (bif (bif (bif y8.2 then y9.2 else false) then (eqI y8.1 y9.1) else false) then y10.2 else false) then y11.2 else false) (fun hc16 => ?_) (fun hc16 => ?_)
              · refine XL_takeC (bif (bif (bif (bif y8.2 then y9.2 else false) then (eqI y8.1 y9.1) else false) then y10.2 else false) then y11.2 else false) rfl rfl (by kernel_rfl) hc16 (X_of_Y0 rfl (E_move (I y8.1) rfl (by kernel_rfl))) ?_
                refine XL_takeC (bif (bif (bif (bif y8.2 then y9.2 else false) then (eqI y8.1 y9.1) else false) then y10.2 else false) then y11.2 else false) rfl rfl (by kernel_rfl) hc16 (X_of_Y0 rfl (E_move (I y10.1) rfl (by kernel_rfl))) ?_
                refine XL_takeC (bif (bif (bif (bif y8.2 then y9.2 else false) then (eqI y8.1 y9.1) else false) then y10.2 else false) then y11.2 else false) rfl rfl (by kernel_rfl) hc16 (X_of_Y0 rfl (E_move (I y11.1) rfl (by kernel_rfl))) ?_
                refine XL_takeC (bif (bif (bif (bif y8.2 then y9.2 else false) then (eqI y8.1 y9.1) else false) then y10.2 else false) then y11.2 else false) rfl rfl (by kernel_rfl) hc16 (X_of_Y0 rfl (Y0_mul64 (a := 2) (b := y11.1) rfl (by kernel_rfl) (by kernel_rfl))) ?_
                refine XL_takeC (bif (bif (bif (bif y8.2 then y9.2 else false) then (eqI y8.1 y9.1) else false) then y10.2 else false) then y11.2 else false) rfl rfl (by kernel_rfl) hc16 (X_of_Y0 rfl (Y0_sub64 (a := y10.1) (b := w64 (2 * y11.1)) rfl (by kernel_rfl) (by kernel_rfl))) ?_
                refine XL_takeC (bif (bif (bif (bif y8.2 then y9.2 else false) then (eqI y8.1 y9.1) else false) then y10.2 else false) then y11.2 else false) rfl rfl (by kernel_rfl) hc16 (X_of_Y0 rfl (Y0_eqw (k := .i64) (a := y8.1) (b := w64 (y10.1 - (w64 (2 * y11.1)))) rfl (by kernel_rfl) (by kernel_rfl))) ?_
                refine XL_cons rfl (X_of_Y0 rfl (Y0_pick1 (b := bif (bif (bif (bif y8.2 then y9.2 else false) then (eqI y8.1 y9.1) else false) then y10.2 else false) then y11.2 else false) (p := eqI y8.1 (w64 (y10.1 - (w64 (2 * y11.1))))) (q := false) rfl (by kernel_rfl) hc16 (by kernel_rfl))) ?_
                refine XL_cons rfl (X_of_Y0 rfl (E_assign (Bo (bif (bif (bif (bif (bif y8.2 then y9.2 else false) then (eqI y8.1 y9.1) else false) then y10.2 else false) then y11.2 else false) then (eqI y8.1 (w64 (y10.1 - (w64 (2 * y11.1))))) else false)) rfl (by kernel_rfl))) ?_
                refine XL_nil ?_
                subst ht17
                kernel_rfl
              · refine XL_skipT (bif (bif (bif (bif y8.2 then y9.2 else false) then (eqI y8.1 y9.1) else false) then y10.2 else false) then y11.2 else false) rfl rfl (by kernel_rfl) hc16 rfl ?_
                refine XL_skipT (bif (bif (bif (bif y8.2 then y9.2 else false) then (eqI y8.1 y9.1) else false) then y10.2 else false) then y11.2 else false) rfl rfl (by kernel_rfl) hc16 rfl ?_
                refine XL_skipT (bif (bif (bif (bif y8.2 then y9.2 else false) then (eqI y8.1 y9.1) else false) then y10.2 else false) then y11.2 else false) rfl rfl (by kernel_rfl) hc16 rfl ?_
                refine XL_skipT (bif (bif (bif (bif y8.2 then y9.2 else false) then (eqI y8.1 y9.1) else false) then y10.2 else false) then y11.2 else false) rfl rfl (by kernel_rfl) hc16 rfl ?_
                refine XL_skipT (bif (bif (bif (bif y8.2 then y9.2 else false) then (eqI y8.1 y9.1) else false) then y10.2 else false) then y11.2 else false) rfl rfl (by kernel_rfl) hc16 rfl ?_
                refine XL_skipT (bif (bif (bif (bif y8.2 then y9.2 else false) then (eqI y8.1 y9.1) else false) then y10.2 else false) then y11.2 else false) rfl rfl (by kernel_rfl) hc16 rfl ?_
                refine XL_cons rfl (X_of_Y0 rfl (Y0_pick0 (b := bif (bif (bif (bif y8.2 then y9.2 else false) then (eqI y8.1 y9.1) else false) then y10.2 else false) then y11.2 else false) (p := eqI y8.1 (w64 (y10.1 - (w64 (2 * y11.1))))) (q := false) rfl (by kernel_rfl) hc16 (by kernel_rfl))) ?_
                refine XL_cons rfl (X_of_Y0 rfl (E_assign (Bo (bif (bif (bif (bif (bif y8.2 then y9.2 else false) then (eqI y8.1 y9.1) else false) then y10.2 else false) then y11.2 else false) then (eqI y8.1 (w64 (y10.1 - (w64 (2 * y11.1))))) else false)) rfl (by kernel_rfl))) ?_
                refine XL_nil ?_
                subst ht17
                kernel_rfl
          · refine XL_skipT (bif (bif y8.2 then y9.2 else false) then (eqI y8.1 y9.1) else false) rfl rfl (by kernel_rfl) hc14 rfl ?_
            refine XL_cons rfl (X_of_Y0 rfl (Y0_pick0 (b := bif (bif y8.2 then y9.2 else false) then (eqI y8.1 y9.1) else false) (p := y10.2) (q := false) rfl (by kernel_rfl) hc14 (by kernel_rfl))) ?_
            refine XL_cons rfl (X_of_Y0 rfl (E_move (Bo (bif (bif (bif y8.2 then y9.2 else false) then (eqI y8.1 y9.1) else false) then y10.2 else false)) rfl (by kernel_rfl))) ?_
            refine XL_split (bif (bif (bif y8.2 then y9.2 else false) then (eqI y8.1 y9.1) else false) then y10.2 else false) (fun hc15 => ?_) (fun hc15 => ?_)
            · refine XL_takeC (bif (bif (bif y8.2 then y9.2 else false) then (eqI y8.1 y9.1) else false) then y10.2 else false) rfl rfl (by kernel_rfl) hc15 (X_of_Y0 rfl (E_move (Bo y11.2) rfl (by kernel_rfl))) ?_
              refine XL_cons rfl (X_of_Y0 rfl (Y0_pick1 (b := bif (bif (bif y8.2 then y9.2 else false) then (eqI y8.1 y9.1) else false) then y10.2 else false) (p := y11.2) (q := false) rfl (by kernel_rfl) hc15 (by kernel_rfl))) ?_
              refine XL_cons rfl (X_of_Y0 rfl (E_move (Bo (bif (bif (bif (bif y8.2 then y9.2 else false) then (eqI y8.1 y9.1) else false) then y10.2 else false) then y11.2 else false)) rfl (by kernel_rfl))) ?_
              refine XL_split (bif (bif (bif (bif y8.2 then y9.2 else false) then (eqI y8.1 y9.1) else false) then y10.2 else false) then y11.2 else false) (fun hc16 => ?_) (fun hc16 => ?_)
              · refine XL_takeC (bif (bif (bif (bif y8.2 then y9.2 else false) then (eqI y8.1 y9.1) else false) then y10.2 else false) then y11.2 else false) rfl rfl (by kernel_rfl) hc16 (X_of_Y0 rfl (E_move (I y8.1) rfl (by kernel_rfl))) ?_
                refine XL_takeC (bif (bif (bif (bif y8.2 then y9.2 else false) then (eqI y8.1 y9.1) else false) then y10.2 else false) then y11.2 else false) rfl rfl (by kernel_rfl) hc16 (X_of_Y0 rfl (E_move (I y10.1) rfl (by kernel_rfl))) ?_
                refine XL_takeC (bif (bif (bif (bif y8.2 then y9.2 else false) then (eqI y8.1 y9.1) else false) then y10.2 else false) then y11.2 else false) rfl rfl (by kernel_rfl) hc16 (X_of_Y0 rfl (E_move (I y11.1) rfl (by kernel_rfl))) ?_
                refine XL_takeC (bif (bif (bif (bif y8.2 then y9.2 else false) then (eqI y8.1 y9.1) else false) then y10.2 else false) then y11.2 else false) rfl rfl (by kernel_rfl) hc16 (X_of_Y0 rfl (Y0_mul64 (a := 2) (b := y11.1) rfl (by kernel_rfl) (by kernel_rfl))) ?_
                refine XL_takeC (bif (bif (bif (bif y8.2 then y9.2 else false) then (eqI y8.1 y9.1) else false) then y10.2 else false) then y11.2 else false) rfl rfl (by kernel_rfl) hc16 (X_of_Y0 rfl (Y0_sub64 (a := y10.1) (b := w64 (2 * y11.1)) rfl (by kernel_rfl) (by kernel_rfl))) ?_
                refine XL_takeC (bif (bif (bif (bif y8.2 then y9.2 else false) then (eqI y8.1 y9.1) else false) then y10.2 else false) then y11.2 else false) rfl rfl (by kernel_rfl) hc16 (X_of_Y0 rfl (Y0_eqw (k := .i64) (a := y8.1) (b := w64 (y10.1 - (w64 (2 * y11.1)))) rfl (by kernel_rfl) (by kernel_rfl))) ?_
                refine XL_cons rfl (X_of_Y0 rfl (Y0_pick1 (b := bif (bif (bif (bif y8.2 then y9.2 else false) then (eqI y8.1 y9.1) else false) then y10.2 else false) then y11.2 else false) (p := eqI y8.1 (w64 (y10.1 - (w64 (2 * y11.1))))) (q := false) rfl (by kernel_rfl) hc16 (by kernel_rfl))) ?_
                refine XL_cons rfl (X_of_Y0 rfl (E_assign (Bo (bif (bif (bif (bif (bif y8.2 then y9.2 else false) then (eqI y8.1 y9.1) else false) then y10.2 else false) then y11.2 else false) then (eqI y8.1 (w64 (y10.1 - (w64 (2 * y11.1))))) else false)) rfl (by kernel_rfl))) ?_
                refine XL_nil ?_
                subst ht17
                kernel_rfl
              · refine XL_skipT (bif (bif (bif (bif y8.2 then y9.2 else false) then (eqI y8.1 y9.1) else false) then y10.2 else false) then y11.2 else false) rfl rfl (by kernel_rfl) hc16 rfl ?_
                refine XL_skipT (bif (bif (bif (bif y8.2 then y9.2 else false) then (eqI y8.1 y9.1) else false) then y10.2 else false) then y11.2 else false) rfl rfl (by kernel_rfl) hc16 rfl ?_
                refine XL_skipT (bif (bif (bif (bif y8.2 then y9.2 else false) then (eqI y8.1 y9.1) else false) then y10.2 else false) then y11.2 else false) rfl rfl (by kernel_rfl) hc16 rfl ?_
                refine XL_skipT (bif (bif (bif (bif y8.2 then y9.2 else false) then (eqI y8.1 y9.1) else false) then y10.2 else false) then y11.2 else false) rfl rfl (by kernel_rfl) hc16 rfl ?_
                refine XL_skipT (bif (bif (bif (bif y8.2 then y9.2 else false) then (eqI y8.1 y9.1) else false) then y10.2 else false) then y11.2 else false) rfl rfl (by kernel_rfl) hc16 rfl ?_
                refine XL_skipT (bif (bif (bif (bif y8.2 then y9.2 else false) then (eqI y8.1 y9.1) else false) then y10.2 else false) then y11.2 else false) rfl rfl (by kernel_rfl) hc16 rfl ?_
                refine XL_cons rfl (X_of_Y0 rfl (Y0_pick0 (b := bif (bif (bif (bif y8.2 then y9.2 else false) then (eqI y8.1 y9.1) else false) then y10.2 else false) then y11.2 else false) (p := eqI y8.1 (w64 (y10.1 - (w64 (2 * y11.1))))) (q := false) rfl (by kernel_rfl) hc16 (by kernel_rfl))) ?_
                refine XL_cons rfl (X_of_Y0 rfl (E_assign (Bo (bif (bif (bif (bif (bif y8.2 then y9.2 else false) then (eqI y8.1 y9.1) else false) then y10.2 else false) then y11.2 else false) then (eqI y8.1 (w64 (y10.1 - (w64 (2 * y11.1))))) else false)) rfl (by kernel_rfl))) ?_
                refine XL_nil ?_
                subst ht17
                kernel_rfl
            · refine XL_skipT (bif (bif (bif y8.2 then y9.2 else false) then (eqI y8.1 y9.1) else false) then y10.2 else false) rfl rfl (by kernel_rfl) hc15 rfl ?_
              refine XL_cons rfl (X_of_Y0 rfl (Y0_pick0 (b := bif (bif (bif y8.2 then y9.2 else false) then (eqI y8.1 y9.1) else false) then y10.2 else false) (p := y11.2) (q := false) rfl (by kernel_rfl) hc15 (by kernel_rfl))) ?_
              refine XL_cons rfl (X_of_Y0 rfl (E_move (Bo (bif (bif (bif (bif y8.2 then y9.2 else false) then (eqI y8.1 y9.1) else false) then y10.2 else false) then y11.2 else false)) rfl (by kernel_rfl))) ?_
              refine XL_split (bif (bif (bif (bif y8.2 then y9.2 else false) then (eqI y8.1 y9.1) else false) then y10.2 else false) then y11.2 else false) (fun hc16 => ?_) (fun hc16 => ?_)
              · refine XL_takeC (bif (bif (bif (bif y8.2 then y9.2 else false) then (eqI y8.1 y9.1) else false) then y10.2 else false) then y11.2 else false) rfl rfl (by kernel_rfl) hc16 (X_of_Y0 rfl (E_move (I y8.1) rfl (by kernel_rfl))) ?_
                refine XL_takeC (bif (bif (bif (bif y8.2 then y9.2 else false) then (eqI y8.1 y9.1) else false) then y10.2 else false) then y11.2 else false) rfl rfl (by kernel_rfl) hc16 (X_of_Y0 rfl (E_move (I y10.1) rfl (by kernel_rfl))) ?_
                refine XL_takeC (bif (bif (bif (bif y8.2 then y9.2 else false) then (eqI y8.1 y9.1) else false) then y10.2 else false) then y11.2 else false) rfl rfl (by kernel_rfl) hc16 (X_of_Y0 rfl (E_move (I y11.1) rfl (by kernel_rfl))) ?_
                refine XL_takeC (bif (bif (bif (bif y8.2 then y9.2 else false) then (eqI y8.1 y9.1) else false) then y10.2 else false) then y11.2 else false) rfl rfl (by kernel_rfl) hc16 (X_of_Y0 rfl (Y0_mul64 (a := 2) (b := y11.1) rfl (by kernel_rfl) (by kernel_rfl))) ?_
                refine XL_takeC (bif (bif (bif (bif y8.2 then y9.2 else false) then (eqI y8.1 y9.1) else false) then y10.2 else false) then y11.2 else false) rfl rfl (by kernel_rfl) hc16 (X_of_Y0 rfl (Y0_sub64 (a := y10.1) (b := w64 (2 * y11.1)) rfl (by kernel_rfl) (by kernel_rfl))) ?_
                refine XL_takeC (bif (bif (bif (bif y8.2 then y9.2 else false) then (eqI y8.1 y9.1) else false) then y10.2 else false) then y11.2 else false) rfl rfl (by kernel_rfl) hc16 (X_of_Y0 rfl (Y0_eqw (k := .i64) (a := y8.1) (b := w64 (y10.1 - (w64 (2 * y11.1)))) rfl (by kernel_rfl) (by kernel_rfl))) ?_
                refine XL_cons rfl (X_of_Y0 rfl (Y0_pick1 (b := bif (bif (bif (bif y8.2 then y9.2 else false) then (eqI y8.1 y9.1) else false) then y10.2 else false) then y11.2 else false) (p := eqI y8.1 (w64 (y10.1 - (w64 (2 * y11.1))))) (q := false) rfl (by kernel_rfl) hc16 (by kernel_rfl))) ?_
                refine XL_cons rfl (X_of_Y0 rfl (E_assign (Bo (bif (bif (bif (bif (bif y8.2 then y9.2 else false) then (eqI y8.1 y9.1) else false) then y10.2 else false) then y11.2 else false) then (eqI y8.1 (w64 (y10.1 - (w64 (2 * y11.1))))) else false)) rfl (by kernel_rfl))) ?_
                refine XL_nil ?_
                subst ht17
                kernel_rfl
              · refine XL_skipT (bif (bif (bif (bif y8.2 then y9.2 else false) then (eqI y8.1 y9.1) else false) then y10.2 else false) then y11.2 else false) rfl rfl (by kernel_rfl) hc16 rfl ?_
                refine XL_skipT (bif (bif (bif (bif y8.2 then y9.2 else false) then (eqI y8.1 y9.1) else false) then y10.2 else false) then y11.2 else false) rfl rfl (by kernel_rfl) hc16 rfl ?_
                refine XL_skipT (bif (bif (bif (bif y8.2 then y9.2 else false) then (eqI y8.1 y9.1) else false) then y10.2 else false) then y11.2 else false) rfl rfl (by kernel_rfl) hc16 rfl ?_
                refine XL_skipT (bif (bif (bif (bif y8.2 then y9.2 else false) then (eqI y8.1 y9.1) else false) then y10.2 else false) then y11.2 else false) rfl rfl (by kernel_rfl) hc16 rfl ?_
                refine XL_skipT (bif (bif (bif (bif y8.2 then y9.2 else false) then (eqI y8.1 y9.1) else false) then y10.2 else false) then y11.2 else false) rfl rfl (by kernel_rfl) hc16 rfl ?_
                refine XL_skipT (bif (bif (bif (bif y8.2 then y9.2 else false) then (eqI y8.1 y9.1) else false) then y10.2 else false) then y11.2 else false) rfl rfl (by kernel_rfl) hc16 rfl ?_
                refine XL_cons rfl (X_of_Y0 rfl (Y0_pick0 (b := bif (bif (bif (bif y8.2 then y9.2 else false) then (eqI y8.1 y9.1) else false) then y10.2 else false) then y11.2 else false) (p := eqI y8.1 (w64 (y10.1 - (w64 (2 * y11.1))))) (q := false) rfl (by kernel_rfl) hc16 (by kernel_rfl))) ?_
                refine XL_cons rfl (X_of_Y0 rfl (E_assign (Bo (bif (bif (bif (bif (bif y8.2 then y9.2 else false) then (eqI y8.1 y9.1) else false) then y10.2 else false) then y11.2 else false) then (eqI y8.1 (w64 (y10.1 - (w64 (2 * y11.1))))) else false)) rfl (by kernel_rfl))) ?_
                refine XL_nil ?_
                subst ht17
                kernel_rfl
      · refine XL_skipT (y8.2) rfl rfl (by kernel_rfl) hc12 rfl ?_
        refine XL_cons rfl (X_of_Y0 rfl (Y0_pick0 (b := y8.2) (p := y9.2) (q := false) rfl (by kernel_rfl) hc12 (by kernel_rfl))) ?_
        refine XL_cons rfl (X_of_Y0 rfl (E_move (Bo (bif y8.2 then y9.2 else false)) rfl (by kernel_rfl))) ?_
        refine XL_split (bif y8.2 then y9.2 else false) (fun hc13 => ?_) (fun hc13 => ?_)
        · refine XL_takeC (bif y8.2 then y9.2 else false) rfl rfl (by kernel_rfl) hc13 (X_of_Y0 rfl (E_move (I y8.1) rfl (by kernel_rfl))) ?_
          refine XL_takeC (bif y8.2 then y9.2 else false) rfl rfl (by kernel_rfl) hc13 (X_of_Y0 rfl (E_move (I y9.1) rfl (by kernel_rfl))) ?_
          refine XL_takeC (bif y8.2 then y9.2 else false) rfl rfl (by kernel_rfl) hc13 (X_of_Y0 rfl (Y0_eqw (k := .i64) (a := y8.1) (b := y9.1) rfl (by kernel_rfl) (by kernel_rfl))) ?_
          refine XL_cons rfl (X_of_Y0 rfl (Y0_pick1 (b := bif y8.2 then y9.2 else false) (p := eqI y8.1 y9.1) (q := false) rfl (by kernel_rfl) hc13 (by kernel_rfl))) ?_
          refine XL_cons rfl (X_of_Y0 rfl (E_move (Bo (bif (bif y8.2 then y9.2 else false) then (eqI y8.1 y9.1) else false)) rfl (by kernel_rfl))) ?_
          refine XL_split (bif (bif y8.2 then y9.2 else false) then (eqI y8.1 y9.1) else false) (fun hc14 => ?_) (fun hc14 => ?_)
          · refine XL_takeC (bif (bif y8.2 then y9.2 else false) then (eqI y8.1 y9.1) else false) rfl rfl (by kernel_rfl) hc14 (X_of_Y0 rfl (E_move (Bo y10.2) rfl (by kernel_rfl))) ?_
            refine XL_cons rfl (X_of_Y0 rfl (Y0_pick1 (b := bif (bif y8.2 then y9.2 else false) then (eqI y8.1 y9.1) else false) (p := y10.2) (q := false) rfl (by kernel_rfl) hc14 (by kernel_rfl))) ?_
            refine XL_cons rfl (X_of_Y0 rfl (E_move (Bo (bif (bif (bif y8.2 then y9.2 else false) then (eqI y8.1 y9.1) else false) then y10.2 else false)) rfl (by kernel_rfl))) ?_
            refine XL_split (bif (bif (bif y8.2 then y9.2 else false) then (eqI y8.1 y9.1) else false) then y10.2 else false) (fun hc15 => ?_) (fun hc15 => ?_)
            · refine XL_takeC (bif (bif (bif y8.2 then y9.2 else false) then (eqI y8.1 y9.1) else false) then y10.2 else false) rfl rfl (by kernel_rfl) hc15 (X_of_Y0 rfl (E_move (Bo y11.2) rfl (by kernel_rfl))) ?_
              refine XL_cons rfl (X_of_Y0 rfl (Y0_pick1 (b := bif (bif (bif y8.2 then y9.2 else false) then (eqI y8.1 y9.1) else false) then y10.2 else false) (p := y11.2) (q := false) rfl (by kernel_rfl) hc15 (by kernel_rfl))) ?_
              refine XL_cons rfl (X_of_Y0 rfl (E_move (Bo (bif (bif (bif (bif y8.2 then y9.2 else false) then (eqI y8.1 y9.1) else false) then y10.2 else false) then y11.2 else false)) rfl (by kernel_rfl))) ?_
              refine XL_split (bif (bif (bif (bif y8.2 then y9.2 else false) then (eqI y8.1 y9.1) else false) then y10.2 else false) then y11.2 else false) (fun hc16 => ?_) (fun hc16 => ?_)
              · refine XL_takeC (bif (bif (bif (bif y8.2 then y9.2 else false) then (eqI y8.1 y9.1) else false) then y10.2 else false) then y11.2 else false) rfl rfl (by kernel_rfl) hc16 (X_of_Y0 rfl (E_move (I y8.1) rfl (by kernel_rfl))) ?_
                refine XL_takeC (bif (bif (bif (bif y8.2 then y9.2 else false) then (eqI y8.1 y9.1) else false) then y10.2 else false) then y11.2 else false) rfl rfl (by kernel_rfl) hc16 (X_of_Y0 rfl (E_move (I y10.1) rfl (by kernel_rfl))) ?_
                refine XL_takeC (bif (bif (bif (bif y8.2 then y9.2 else false) then (eqI y8.1 y9.1) else false) then y10.2 else false) then y11.2 else false) rfl rfl (by kernel_rfl) hc16 (X_of_Y0 rfl (E_move (I y11.1) rfl (by kernel_rfl))) ?_
                refine XL_takeC (bif (bif (bif (bif y8.2 then y9.2 else false) then (eqI y8.1 y9.1) else false) then y10.2 else false) then y11.2 else false) rfl rfl (by kernel_rfl) hc16 (X_of_Y0 rfl (Y0_mul64 (a := 2) (b := y11.1) rfl (by kernel_rfl) (by kernel_rfl))) ?_
                refine XL_takeC (bif (bif (bif (bif y8.2 then y9.2 else false) then (eqI y8.1 y9.1) else false) then y10.2 else false) then y11.2 else false) rfl rfl (by kernel_rfl) hc16 (X_of_Y0 rfl (Y0_sub64 (a := y10.1) (b := w64 (2 * y11.1)) rfl (by kernel_rfl) (by kernel_rfl))) ?_
                refine XL_takeC (bif (bif (bif (bif y8.2 then y9.2 else false) then (eqI y8.1 y9.1) else false) then y10.2 else false) then y11.2 else false) rfl rfl (by kernel_rfl) hc16 (X_of_Y0 rfl (Y0_eqw (k := .i64) (a := y8.1) (b := w64 (y10.1 - (w64 (2 * y11.1)))) rfl (by kernel_rfl) (by kernel_rfl))) ?_
                refine XL_cons rfl (X_of_Y0 rfl (Y0_pick1 (b := bif (bif (bif (bif y8.2 then y9.2 else false) then (eqI y8.1 y9.1) else false) then y10.2 else false) then y11.2 else false) (p := eqI y8.1 (w64 (y10.1 - (w64 (2 * y11.1))))) (q := false) rfl (by kernel_rfl) hc16 (by kernel_rfl))) ?_
                refine XL_cons rfl (X_of_Y0 rfl (E_assign (Bo (bif (bif (bif (bif (bif y8.2 then y9.2 else false) then (eqI y8.1 y9.1) else false) then y10.2 else false) then y11.2 else false) then (eqI y8.1 (w64 (y10.1 - (w64 (2 * y11.1))))) else false)) rfl (by kernel_rfl))) ?_
                refine XL_nil ?_
                subst ht17
                kernel_rfl
              · refine XL_skipT (bif (bif (bif (bif y8.2 then y9.2 else false) then (eqI y8.1 y9.1) else false) then y10.2 else false) then y11.2 else false) rfl rfl (by kernel_rfl) hc16 rfl ?_
                refine XL_skipT (bif (bif (bif (bif y8.2 then y9.2 else false) then (eqI y8.1 y9.1) else false) then y10.2 else false) then y11.2 else false) rfl rfl (by kernel_rfl) hc16 rfl ?_
                refine XL_skipT (bif (bif (bif (bif y8.2 then y9.2 else false) then (eqI y8.1 y9.1) else false) then y10.2 else false) then y11.2 else false) rfl rfl (by kernel_rfl) hc16 rfl ?_
                refine XL_skipT (bif (bif (bif (bif y8.2 then y9.2 else false) then (eqI y8.1 y9.1) else false) then y10.2 else false) then y11.2 else false) rfl rfl (by kernel_rfl) hc16 rfl ?_
                refine XL_skipT (bif (bif (bif (bif y8.2 then y9.2 else false) then (eqI y8.1 y9.1) else false) then y10.2 else false) then y11.2 else false) rfl rfl (by kernel_rfl) hc16 rfl ?_
                refine XL_skipT (bif (bif (bif (bif y8.2 then y9.2 else false) then (eqI y8.1 y9.1) else false) then y10.2 else false) then y11.2 else false) rfl rfl (by kernel_rfl) hc16 rfl ?_
                refine XL_cons rfl (X_of_Y0 rfl (Y0_pick0 (b := bif (bif (bif (bif y8.2 then y9.2 else false) then (eqI y8.1 y9.1) else false) then y10.2 else false) then y11.2 else false) (p := eqI y8.1 (w64 (y10.1 - (w64 (2 * y11.1))))) (q := false) rfl (by kernel_rfl) hc16 (by kernel_rfl))) ?_
                refine XL_cons rfl (X_of_Y0 rfl (E_assign (Bo (bif (bif (bif (bif (bif y8.2 then y9.2 else false) then (eqI y8.1 y9.1) else false) then y10.2 else false) then y11.2 else false) then (eqI y8.1 (w64 (y10.1 - (w64 (2 * y11.1))))) else false)) rfl (by kernel_rfl))) ?_
                refine XL_nil ?_
                subst ht17
                kernel_rfl
            · refine XL_skipT (bif (bif (bif y8.2 then y9.2 else false) then (eqI y8.1 y9.1) else false) then y10.2 else false) rfl rfl (by kernel_rfl) hc15 rfl ?_
              refine XL_cons rfl (X_of_Y0 rfl (Y0_pick0 (b := bif (bif (bif y8.2 then y9.2 else false) then (eqI y8.1 y9.1) else false) then y10.2 else false) (p := y11.2) (q := false) rfl (by kernel_rfl) hc15 (by kernel_rfl))) ?_
              refine XL_cons rfl (X_of_Y0 rfl (E_move (Bo (bif (bif (bif (bif y8.2 then y9.2 else false) then (eqI y8.1 y9.1) else false) then y10.2 else false) then y11.2 else false)) rfl (by kernel_rfl))) ?_
              refine XL_split (bif (bif (bif (bif y8.2 then y9.2 else false) then (eqI y8.1 y9.1) else false) then y10.2 else false) then y11.2 else false) (fun hc16 => ?_) (fun hc16 => ?_)
              · refine XL_takeC (bif (bif (bif (bif y8.2 then y9.2 else false) then (eqI y8.1 y9.1) else false) then y10.2 else false) then y11.2 else false) rfl rfl (by kernel_rfl) hc16 (X_of_Y0 rfl (E_move (I y8.1) rfl (by kernel_rfl))) ?_
                refine XL_takeC (bif (bif (bif (bif y8.2 then y9.2 else false) then (eqI y8.1 y9.1) else false) then y10.2 else false) then y11.2 else false) rfl rfl (by kernel_rfl) hc16 (X_of_Y0 rfl (E_move (I y10.1) rfl (by kernel_rfl))) ?_
                refine XL_takeC (bif (bif (bif (bif y8.2 then y9.2 else false) then (eqI y8.1 y9.1) else false) then y10.2 else false) then y11.2 else false) rfl rfl (by kernel_rfl) hc16 (X_of_Y0 rfl (E_move (I y11.1) rfl (by kernel_rfl))) ?_
                refine XL_takeC (bif (bif (bif (bif y8.2 then y9.2 else false) then (eqI y8.1 y9.1) else false) then y10.2 else false) then y11.2 else false) rfl rfl (by kernel_rfl) hc16 (X_of_Y0 rfl (Y0_mul64 (a := 2) (b := y11.1) rfl (by kernel_rfl) (by kernel_rfl))) ?_
                refine XL_takeC (bif (bif (bif (bif y8.2 then y9.2 else false) then (eqI y8.1 y9.1) else false) then y10.2 else false) then y11.2 else false) rfl rfl (by kernel_rfl) hc16 (X_of_Y0 rfl (Y0_sub64 (a := y10.1) (b := w64 (2 * y11.1)) rfl (by kernel_rfl) (by kernel_rfl))) ?_
                refine XL_takeC (bif (bif (bif (bif y8.2 then y9.2 else false) then (eqI y8.1 y9.1) else false) then y10.2 else false) then y11.2 else false) rfl rfl (by kernel_rfl) hc16 (X_of_Y0 rfl (Y0_eqw (k := .i64) (a := y8.1) (b := w64 (y10.1 - (w64 (2 * y11.1)))) rfl (by kernel_rfl) (by kernel_rfl))) ?_
                refine XL_cons rfl (X_of_Y0 rfl (Y0_pick1 (b := bif (bif (bif (bif y8.2 then y9.2 else false) then (eqI y8.1 y9.1) else false) then y10.2 else false) then y11.2 else false) (p := eqI y8.1 (w64 (y10.1 - (w64 (2 * y11.1))))) (q := false) rfl (by kernel_rfl) hc16 (by kernel_rfl))) ?_
                refine XL_cons rfl (X_of_Y0 rfl (E_assign (Bo (bif (bif (bif (bif (bif y8.2 then y9.2 else false) then (eqI y8.1 y9.1) else false) then y10.2 else false) then y11.2 else false) then (eqI y8.1 (w64 (y10.1 - (w64 (2 * y11.1))))) else false)) rfl (by kernel_rfl))) ?_
                refine XL_nil ?_
                subst ht17
                kernel_rfl
              · refine XL_skipT (bif (bif (bif (bif y8.2 then y9.2 else false) then (eqI y8.1 y9.1) else false) then y10.2 else false) then y11.2 else false) rfl rfl (by kernel_rfl) hc16 rfl ?_
                refine XL_skipT (bif (bif (bif (bif y8.2 then y9.2 else false) then (eqI y8.1 y9.1) else false) then y10.2 else false) then y11.2 else false) rfl rfl (by kernel_rfl) hc16 rfl ?_
                refine XL_skipT (bif (bif (bif (bif y8.2 then y9.2 else false) then (eqI y8.1 y9.1) else false) then y10.2 else false) then y11.2 else false) rfl rfl (by kernel_rfl) hc16 rfl ?_
                refine XL_skipT (bif (bif (bif (bif y8.2 then y9.2 else false) then (eqI y8.1 y9.1) else false) then y10.2 else false) then y11.2 else false) rfl rfl (by kernel_rfl) hc16 rfl ?_
                refine XL_skipT (bif (bif (bif (bif y8.2 then y9.2 else false) then (eqI y8.1 y9.1) else false) then y10.2 else false) then y11.2 else false) rfl rfl (by kernel_rfl) hc16 rfl ?_
                refine XL_skipT (bif (bif (bif (bif y8.2 then y9.2 else false) then (eqI y8.1 y9.1) else false) then y10.2 else false) then y11.2 else false) rfl rfl (by kernel_rfl) hc16 rfl ?_
                refine XL_cons rfl (X_of_Y0 rfl (Y0_pick0 (b := bif (bif (bif (bif y8.2 then y9.2 else false) then (eqI y8.1 y9.1) else false) then y10.2 else false) then y11.2 else false) (p := eqI y8.1 (w64 (y10.1 - (w64 (2 * y11.1))))) (q := false) rfl (by kernel_rfl) hc16 (by kernel_rfl))) ?_
                refine XL_cons rfl (X_of_Y0 rfl (E_assign (Bo (bif (bif (bif (bif (bif y8.2 then y9.2 else false) then (eqI y8.1 y9.1) else false) then y10.2 else false) then y11.2 else false) then (eqI y8.1 (w64 (y10.1 - (w64 (2 * y11.1))))) else false)) rfl (by kernel_rfl))) ?_
                refine XL_nil ?_
                subst ht17
                kernel_rfl
          · refine XL_skipT (bif (bif y8.2 then y9.2 else false) then (eqI y8.1 y9.1) else false) rfl rfl (by kernel_rfl) hc14 rfl ?_
            refine XL_cons rfl (X_of_Y0 rfl (Y0_pick0 (b := bif (bif y8.2 then y9.2 else false) then (eqI y8.1 y9.1) else false) (p := y10.2) (q := false) rfl (by kernel_rfl) hc14 (by kernel_rfl))) ?_
            refine XL_cons rfl (X_of_Y0 rfl (E_move (Bo (bif (bif (bif y8.2 then y9.2 else false) then (eqI y8.1 y9.1) else false) then y10.2 else false)) rfl (by kernel_rfl))) ?_
            refine XL_split (bif (bif (bif y8.2 then y9.2 else false) then (eqI y8.1 y9.1) else false) then y10.2 else false) (fun hc15 => ?_) (fun hc15 => ?_)
            · refine XL_takeC (bif (bif (bif y8.2 then y9.2 else false) then (eqI y8.1 y9.1) else false) then y10.2 else false) rfl rfl (by kernel_rfl) hc15 (X_of_Y0 rfl (E_move (Bo y11.2) rfl (by kernel_rfl))) ?_
              refine XL_cons rfl (X_of_Y0 rfl (Y0_pick1 (b := bif (bif (bif y8.2 then y9.2 else false) then (eqI y8.1 y9.1) else false) then y10.2 else false) (p := y11.2) (q := false) rfl (by kernel_rfl) hc15 (by kernel_rfl))) ?_
              refine XL_cons rfl (X_of_Y0 rfl (E_move (Bo (bif (bif (bif (bif y8.2 then y9.2 else false) then (eqI y8.1 y9.1) else false) then y10.2 else false) then y11.2 else false)) rfl (by kernel_rfl))) ?_
              refine XL_split (bif (bif (bif (bif y8.2 then y9.2 else false) then (eqI y8.1 y9.1) else false) then y10.2 else false) then y11.2 else false) (fun hc16 => ?_) (fun hc16 => ?_)
              · refine XL_takeC (bif (bif (bif (bif y8.2 then y9.2 else false) then (eqI y8.1 y9.1) else false) then y10.2 else false) then y11.2 else false) rfl rfl (by kernel_rfl) hc16 (X_of_Y0 rfl (E_move (I y8.1) rfl (by kernel_rfl))) ?_
                refine XL_takeC (bif (bif (bif (bif y8.2 then y9.2 else false) then (eqI y8.1 y9.1) else false) then y10.2 else false) then y11.2 else false) rfl rfl (by kernel_rfl) hc16 (X_of_Y0 rfl (E_move (I y10.1) rfl (by kernel_rfl))) ?_
                refine XL_takeC (bif (bif (bif (bif y8.2 then y9.2 else false) then (eqI y8.1 y9.1) else false) then y10.2 else false) then y11.2 else false) rfl rfl (by kernel_rfl) hc16 (X_of_Y0 rfl (E_move (I y11.1) rfl (by kernel_rfl))) ?_
                refine XL_takeC (bif (bif (bif (bif y8.2 then y9.2 else false) then (eqI y8.1 y9.1) else false) then y10.2 else false) then y11.2 else false) rfl rfl (by kernel_rfl) hc16 (X_of_Y0 rfl (Y0_mul64 (a := 2) (b := y11.1) rfl (by kernel_rfl) (by kernel_rfl))) ?_
                refine XL_takeC (bif (bif (bif (bif y8.2 then y9.2 else false) then (eqI y8.1 y9.1) else false) then y10.2 else false) then y11.2 else false) rfl rfl (by kernel_rfl) hc16 (X_of_Y0 rfl (Y0_sub64 (a := y10.1) (b := w64 (2 * y11.1)) rfl (by kernel_rfl) (by kernel_rfl))) ?_
                refine XL_takeC (bif (bif (bif (bif y8.2 then y9.2 else false) then (eqI y8.1 y9.1) else false) then y10.2 else false) then y11.2 else false) rfl rfl (by kernel_rfl) hc16 (X_of_Y0 rfl (Y0_eqw (k := .i64) (a := y8.1) (b := w64 (y10.1 - (w64 (2 * y11.1)))) rfl (by kernel_rfl) (by kernel_rfl))) ?_
                refine XL_cons rfl (X_of_Y0 rfl (Y0_pick1 (b := bif (bif (bif (bif y8.2 then y9.2 else false) then (eqI y8.1 y9.1) else false) then y10.2 else false) then y11.2 else false) (p := eqI y8.1 (w64 (y10.1 - (w64 (2 * y11.1))))) (q := false) rfl (by kernel_rfl) hc16 (by kernel_rfl))) ?_
                refine XL_cons rfl (X_of_Y0 rfl (E_assign (Bo (bif (bif (bif (bif (bif y8.2 then y9.2 else false) then (eqI y8.1 y9.1) else false) then y10.2 else false) then y11.2 else false) then (eqI y8.1 (w64 (y10.1 - (w64 (2 * y11.1))))) else false)) rfl (by kernel_rfl))) ?_
                refine XL_nil ?_
                subst ht17
                kernel_rfl
              · refine XL_skipT (bif (bif (bif (bif y8.2 then y9.2 else false) then (eqI y8.1 y9.1) else false) then y10.2 else false) then y11.2 else false) rfl rfl (by kernel_rfl) hc16 rfl ?_
                refine XL_skipT (bif (bif (bif (bif y8.2 then y9.2 else false) then (eqI y8.1 y9.1) else false) then y10.2 else false) then y11.2 else false) rfl rfl (by kernel_rfl) hc16 rfl ?_
                refine XL_skipT (bif (bif (bif (bif y8.2 then y9.2 else false) then (eqI y8.1 y9.1) else false) then y10.2 else false) then y11.2 else false) rfl rfl (by kernel_rfl) hc16 rfl ?_
                refine XL_skipT (bif (bif (bif (bif y8.2 then y9.2 else false) then (eqI y8.1 y9.1) else false) then y10.2 else false) then y11.2 else false) rfl rfl (by kernel_rfl) hc16 rfl ?_
                refine XL_skipT (bif (bif (bif (bif y8.2 then y9.2 else false) then (eqI y8.1 y9.1) else false) then y10.2 else false) then y11.2 else false) rfl rfl (by kernel_rfl) hc16 rfl ?_
                refine XL_skipT (bif (bif (bif (bif y8.2 then y9.2 else false) then (eqI y8.1 y9.1) else false) then y10.2 else false) then y11.2 else false) rfl rfl (by kernel_rfl) hc16 rfl ?_
                refine XL_cons rfl (X_of_Y0 rfl (Y0_pick0 (b := bif (bif (bif (bif y8.2 then y9.2 else false) then (eqI y8.1 y9.1) else false) then y10.2 else false) then y11.2 else false) (p := eqI y8.1 (w64 (y10.1 - (w64 (2 * y11.1))))) (q := false) rfl (by kernel_rfl) hc16 (by kernel_rfl))) ?_
                refine XL_cons rfl (X_of_Y0 rfl (E_assign (Bo (bif (bif (bif (bif (bif y8.2 then y9.2 else false) then (eqI y8.1 y9.1) else false) then y10.2 else false) then y11.2 else false) then (eqI y8.1 (w64 (y10.1 - (w64 (2 * y11.1))))) else false)) rfl (by kernel_rfl))) ?_
                refine XL_nil ?_
                subst ht17
                kernel_rfl
            · refine XL_skipT (bif (bif (bif y8.2 then y9.2 else false) then (eqI y8.1 y9.1) else false) then y10.2 else false) rfl rfl (by kernel_rfl) hc15 rfl ?_
              refine XL_cons rfl (X_of_Y0 rfl (Y0_pick0 (b := bif (bif (bif y8.2 then y9.2 else false) then (eqI y8.1 y9.1) else false) then y10.2 else false) (p := y11.2) (q := false) rfl (by kernel_rfl) hc15 (by kernel_rfl))) ?_
              refine XL_cons rfl (X_of_Y0 rfl (E_move (Bo (bif (bif (bif (bif y8.2 then y9.2 else false) then (eqI y8.1 y9.1) else false) then y10.2 else false) then y11.2 else false)) rfl (by kernel_rfl))) ?_
              refine XL_split (bif (bif (bif (bif y8.2 then y9.2 else false) then (eqI y8.1 y9.1) else false) then y10.2 else false) then y11.2 else false) (fun hc16 => ?_) (fun hc16 => ?_)
              · refine XL_takeC (bif (bif (bif (bif y8.2 then y9.2 else false) then (eqI y8.1 y9.1) else false) then y10.2 else false) then y11.2 else false) rfl rfl (by kernel_rfl) hc16 (X_of_Y0 rfl (E_move (I y8.1) rfl (by kernel_rfl))) ?_
                refine XL_takeC (bif (bif (bif (bif y8.2 then y9.2 else false) then (eqI y8.1 y9.1) else false) then y10.2 else false) then y11.2 else false) rfl rfl (by kernel_rfl) hc16 (X_of_Y0 rfl (E_move (I y10.1) rfl (by kernel_rfl))) ?_
                refine XL_takeC (bif (bif (bif (bif y8.2 then y9.2 else false) then (eqI y8.1 y9.1) else false) then y10.2 else false) then y11.2 else false) rfl rfl (by kernel_rfl) hc16 (X_of_Y0 rfl (E_move (I y11.1) rfl (by kernel_rfl))) ?_
                refine XL_takeC (bif (bif (bif (bif y8.2 then y9.2 else false) then (eqI y8.1 y9.1) else false) then y10.2 else false) then y11.2 else false) rfl rfl (by kernel_rfl) hc16 (X_of_Y0 rfl (Y0_mul64 (a := 2) (b := y11.1) rfl (by kernel_rfl) (by kernel_rfl))) ?_
                refine XL_takeC (bif (bif (bif (bif y8.2 then y9.2 else false) then (eqI y8.1 y9.1) else false) then y10.2 else false) then y11.2 else false) rfl rfl (by kernel_rfl) hc16 (X_of_Y0 rfl (Y0_sub64 (a := y10.1) (b := w64 (2 * y11.1)) rfl (by kernel_rfl) (by kernel_rfl))) ?_
                refine XL_takeC (bif (bif (bif (bif y8.2 then y9.2 else false) then (eqI y8.1 y9.1) else false) then y10.2 else false) then y11.2 else false) rfl rfl (by kernel_rfl) hc16 (X_of_Y0 rfl (Y0_eqw (k := .i64) (a := y8.1) (b := w64 (y10.1 - (w64 (2 * y11.1)))) rfl (by kernel_rfl) (by kernel_rfl))) ?_
                refine XL_cons rfl (X_of_Y0 rfl (Y0_pick1 (b := bif (bif (bif (bif y8.2 then y9.2 else false) then (eqI y8.1 y9.1) else false) then y10.2 else false) then y11.2 else false) (p := eqI y8.1 (w64 (y10.1 - (w64 (2 * y11.1))))) (q := false) rfl (by kernel_rfl) hc16 (by kernel_rfl))) ?_
                refine XL_cons rfl (X_of_Y0 rfl (E_assign (Bo (bif (bif (bif (bif (bif y8.2 then y9.2 else false) then (eqI y8.1 y9.1) else false) then y10.2 else false) then y11.2 else false) then (eqI y8.1 (w64 (y10.1 - (w64 (2 * y11.1))))) else false)) rfl (by kernel_rfl))) ?_
                refine XL_nil ?_
                subst ht17
                kernel_rfl
              · refine XL_skipT (bif (bif (bif (bif y8.2 then y9.2 else false) then (eqI y8.1 y9.1) else false) then y10.2 else false) then y11.2 else false) rfl rfl (by kernel_rfl) hc16 rfl ?_
                refine XL_skipT (bif (bif (bif (bif y8.2 then y9.2 else false) then (eqI y8.1 y9.1) else false) then y10.2 else false) then y11.2 else false) rfl rfl (by kernel_rfl) hc16 rfl ?_
                refine XL_skipT (bif (bif (bif (bif y8.2 then y9.2 else false) then (eqI y8.1 y9.1) else false) then y10.2 else false) then y11.2 else false) rfl rfl (by kernel_rfl) hc16 rfl ?_
                refine XL_skipT (bif (bif (bif (bif y8.2 then y9.2 else false) then (eqI y8.1 y9.1) else false) then y10.2 else false) then y11.2 else false) rfl rfl (by kernel_rfl) hc16 rfl ?_
                refine XL_skipT (bif (bif (bif (bif y8.2 then y9.2 else false) then (eqI y8.1 y9.1) else false) then y10.2 else false) then y11.2 else false) rfl rfl (by kernel_rfl) hc16 rfl ?_
                refine XL_skipT (bif (bif (bif (bif y8.2 then y9.2 else false) then (eqI y8.1 y9.1) else false) then y10.2 else false) then y11.2 else false) rfl rfl (by kernel_rfl) hc16 rfl ?_
                refine XL_cons rfl (X_of_Y0 rfl (Y0_pick0 (b := bif (bif (bif (bif y8.2 then y9.2 else false) then (eqI y8.1 y9.1) else false) then y10.2 else false) then y11.2 else false) (p := eqI y8.1 (w64 (y10.1 - (w64 (2 * y11.1))))) (q := false) rfl (by kernel_rfl) hc16 (by kernel_rfl))) ?_
                refine XL_cons rfl (X_of_Y0 rfl (E_assign (Bo (bif (bif (bif (bif (bif y8.2 then y9.2 else false) then (eqI y8.1 y9.1) else false) then y10.2 else false) then y11.2 else false) then (eqI y8.1 (w64 (y10.1 - (w64 (2 * y11.1))))) else false)) rfl (by kernel_rfl))) ?_
                refine XL_nil ?_
                subst ht17
                kernel_rfl
        · refine XL_skipT (bif y8.2 then y9.2 else false) rfl rfl (by kernel_rfl) hc13 rfl ?_
          refine XL_skipT (bif y8.2 then y9.2 else false) rfl rfl (by kernel_rfl) hc13 rfl ?_
          refine XL_skipT (bif y8.2 then y9.2 else false) rfl rfl (by kernel_rfl) hc13 rfl ?_
          refine XL_cons rfl (X_of_Y0 rfl (Y0_pick0 (b := bif y8.2 then y9.2 else false) (p := eqI y8.1 y9.1) (q := false) rfl (by kernel_rfl) hc13 (by kernel_rfl))) ?_
          refine XL_cons rfl (X_of_Y0 rfl (E_move (Bo (bif (bif y8.2 then y9.2 else false) then (eqI y8.1 y9.1) else false)) rfl (by kernel_rfl))) ?_
          refine XL_split (bif (bif y8.2 then y9.2 else false) then (eqI y8.1 y9.1) else false) (fun hc14 => ?_) (fun hc14 => ?_)
          · refine XL_takeC (bif (bif y8.2 then y9.2 else false) then (eqI y8.1 y9.1) else false) rfl rfl (by kernel_rfl) hc14 (X_of_Y0 rfl (E_move (Bo y10.2) rfl (by kernel_rfl))) ?_
            refine XL_cons rfl (X_of_Y0 rfl (Y0_pick1 (b := bif (bif y8.2 then y9.2 else false) then (eqI y8.1 y9.1) else false) (p := y10.2) (q := false) rfl (by kernel_rfl) hc14 (by kernel_rfl))) ?_
            refine XL_cons rfl (X_of_Y0 rfl (E_move (Bo (bif (bif (bif y8.2 then y9.2 else false) then (eqI y8.1 y9.1) else false) then y10.2 else false)) rfl (by kernel_rfl))) ?_
            refine XL_split (bif (bif (bif y8.2 then y9.2 else false) then (eqI y8.1 y9.1) else false) then y10.2 else false) (fun hc15 => ?_) (fun hc15 => ?_)
            · refine XL_takeC (bif (bif (bif y8.2 then y9.2 else false) then (eqI y8.1 y9.1) else false) then y10.2 else false) rfl rfl (by kernel_rfl) hc15 (X_of_Y0 rfl (E_move (Bo y11.2) rfl (by kernel_rfl))) ?_
              refine XL_cons rfl (X_of_Y0 rfl (Y0_pick1 (b := bif (bif (bif y8.2 then y9.2 else false) then (eqI y8.1 y9.1) else false) then y10.2 else false) (p := y11.2) (q := false) rfl (by kernel_rfl) hc15 (by kernel_rfl))) ?_
              refine XL_cons rfl (X_of_Y0 rfl (E_move (Bo (bif (bif (bif (bif y8.2 then y9.2 else false) then (eqI y8.1 y9.1) else false) then y10.2 else false) then y11.2 else false)) rfl (by kernel_rfl))) ?_
              refine XL_split (bif (bif (bif (bif y8.2 then y9.2 else false) then (eqI y8.1 y9.1) else false) then y10.2 else false) then y11.2 else false) (fun hc16 => ?_) (fun hc16 => ?_)
              · refine XL_takeC (bif (bif (bif (bif y8.2 then y9.2 else false) then (eqI y8.1 y9.1) else false) then y10.2 else false) then y11.2 else false) rfl rfl (by kernel_rfl) hc16 (X_of_Y0 rfl (E_move (I y8.1) rfl (by kernel_rfl))) ?_
                refine XL_takeC (bif (bif (bif (bif y8.2 then y9.2 else false) then (eqI y8.1 y9.1) else false) then y10.2 else false) then y11.2 else false) rfl rfl (by kernel_rfl) hc16 (X_of_Y0 rfl (E_move (I y10.1) rfl (by kernel_rfl))) ?_
                refine XL_takeC (bif (bif (bif (bif y8.2 then y9.2 else false) then (eqI y8.1 y9.1) else false) then y10.2 else false) then y11.2 else false) rfl rfl (by kernel_rfl) hc16 (X_of_Y0 rfl (E_move (I y11.1) rfl (by kernel_rfl))) ?_
                refine XL_takeC (bif (bif (bif (bif y8.2 then y9.2 else false) then (eqI y8.1 y9.1) else false) then y10.2 else false) then y11.2 else false) rfl rfl (by kernel_rfl) hc16 (X_of_Y0 rfl (Y0_mul64 (a := 2) (b := y11.1) rfl (by kernel_rfl) (by kernel_rfl))) ?_
                refine XL_takeC (bif (bif (bif (bif y8.2 then y9.2 else false) then (eqI y8.1 y9.1) else false) then y10.2 else false) then y11.2 else false) rfl rfl (by kernel_rfl) hc16 (X_of_Y0 rfl (Y0_sub64 (a := y10.1) (b := w64 (2 * y11.1)) rfl (by kernel_rfl) (by kernel_rfl))) ?_
                refine XL_takeC (bif (bif (bif (bif y8.2 then y9.2 else false) then (eqI y8.1 y9.1) else false) then y10.2 else false) then y11.2 else false) rfl rfl (by kernel_rfl) hc16 (X_of_Y0 rfl (Y0_eqw (k := .i64) (a := y8.1) (b := w64 (y10.1 - (w64 (2 * y11.1)))) rfl (by kernel_rfl) (by kernel_rfl))) ?_
                refine XL_cons rfl (X_of_Y0 rfl (Y0_pick1 (b := bif (bif (bif (bif y8.2 then y9.2 else false) then (eqI y8.1 y9.1) else false) then y10.2 else false) then y11.2 else false) (p := eqI y8.1 (w64 (y10.1 - (w64 (2 * y11.1))))) (q := false) rfl (by kernel_rfl) hc16 (by kernel_rfl))) ?_
                refine XL_cons rfl (X_of_Y0 rfl (E_assign (Bo (bif (bif (bif (bif (bif y8.2 then y9.2 else false) then (eqI y8.1 y9.1) else false) then y10.2 else false) then y11.2 else false) then (eqI y8.1 (w64 (y10.1 - (w64 (2 * y11.1))))) else false)) rfl (by kernel_rfl))) ?_
                refine XL_nil ?_
                subst ht17
                kernel_rfl
              · refine XL_skipT (bif (bif (bif (bif y8.2 then y9.2 else false) then (eqI y8.1 y9.1) else false) then y10.2 else false) then y11.2 else false) rfl rfl (by kernel_rfl) hc16 rfl ?_
                refine XL_skipT (bif (bif (bif (bif y8.2 then y9.2 else false) then (eqI y8.1 y9.1) else false) then y10.2 else false) then y11.2 else false) rfl rfl (by kernel_rfl) hc16 rfl ?_
                refine XL_skipT (bif (bif (bif (bif y8.2 then y9.2 else false) then (eqI y8.1 y9.1) else false) then y10.2 else false) then y11.2 else false) rfl rfl (by kernel_rfl) hc16 rfl ?_
                refine XL_skipT (bif (bif (bif (bif y8.2 then y9.2 else false) then (eqI y8.1 y9.1) else false) then y10.2 else false) then y11.2 else false) rfl rfl (by kernel_rfl) hc16 rfl ?_
                refine XL_skipT (bif (bif (bif (bif y8.2 then y9.2 else false) then (eqI y8.1 y9.1) else false) then y10.2 else false) then y11.2 else false) rfl rfl (by kernel_rfl) hc16 rfl ?_
                refine XL_skipT (bif (bif (bif (bif y8.2 then y9.2 else false) then (eqI y8.1 y9.1) else false) then y10.2 else false) then y11.2 else false) rfl rfl (by kernel_rfl) hc16 rfl ?_
                refine XL_cons rfl (X_of_Y0 rfl (Y0_pick0 (b := bif (bif (bif (bif y8.2 then y9.2 else false) then (eqI y8.1 y9.1) else false) then y10.2 else false) then y11.2 else false) (p := eqI y8.1 (w64 (y10.1 - (w64 (2 * y11.1))))) (q := false) rfl (by kernel_rfl) hc16 (by kernel_rfl))) ?_
                refine XL_cons rfl (X_of_Y0 rfl (E_assign (Bo (bif (bif (bif (bif (bif y8.2 then y9.2 else false) then (eqI y8.1 y9.1) else false) then y10.2 else false) then y11.2 else false) then (eqI y8.1 (w64 (y10.1 - (w64 (2 * y11.1))))) else false)) rfl (by kernel_rfl))) ?_
                refine XL_nil ?_
                subst ht17
                kernel_rfl
            · refine XL_skipT (bif (bif (bif y8.2 then y9.2 else false) then (eqI y8.1 y9.1) else false) then y10.2 else false) rfl rfl (by kernel_rfl) hc15 rfl ?_
              refine XL_cons rfl (X_of_Y0 rfl (Y0_pick0 (b := bif (bif (bif y8.2 then y9.2 else false) then (eqI y8.1 y9.1) else false) then y10.2 else false) (p := y11.2) (q := false) rfl (by kernel_rfl) hc15 (by kernel_rfl))) ?_
              refine XL_cons rfl (X_of_Y0 rfl (E_move (Bo (bif (bif (bif (bif y8.2 then y9.2 else false) then (eqI y8.1 y9.1) else false) then y10.2 else false) then y11.2 else false)) rfl (by kernel_rfl))) ?_
              refine XL_split (bif (bif (bif (bif y8.2 then y9.2 else false) then (eqI y8.1 y9.1) else false) then y10.2 else false) then y11.2 else false) (fun hc16 => ?_) (fun hc16 => ?_)
              · refine XL_takeC (bif (bif (bif (bif y8.2 then y9.2 else false) then (eqI y8.1 y9.1) else false) then y10.2 else false) then y11.2 else false) rfl rfl (by kernel_rfl) hc16 (X_of_Y0 rfl (E_move (I y8.1) rfl (by kernel_rfl))) ?_
                refine XL_takeC (bif (bif (bif (bif y8.2 then y9.2 else false) then (eqI y8.1 y9.1) else false) then y10.2 else false) then y11.2 else false) rfl rfl (by kernel_rfl) hc16 (X_of_Y0 rfl (E_move (I y10.1) rfl (by kernel_rfl))) ?_
                refine XL_takeC (bif (bif (bif (bif y8.2 then y9.2 else false) then (eqI y8.1 y9.1) else false) then y10.2 else false) then y11.2 else false) rfl rfl (by kernel_rfl) hc16 (X_of_Y0 rfl (E_move (I y11.1) rfl (by kernel_rfl))) ?_
                refine XL_takeC (bif (bif (bif (bif y8.2 then y9.2 else false) then (eqI y8.1 y9.1) else false) then y10.2 else false) then y11.2 else false) rfl rfl (by kernel_rfl) hc16 (X_of_Y0 rfl (Y0_mul64 (a := 2) (b := y11.1) rfl (by kernel_rfl) (by kernel_rfl))) ?_
                refine XL_takeC (bif (bif (bif (bif y8.2 then y9.2 else false) then (eqI y8.1 y9.1) else false) then y10.2 else false) then y11.2 else false) rfl rfl (by kernel_rfl) hc16 (X_of_Y0 rfl (Y0_sub64 (a := y10.1) (b := w64 (2 * y11.1)) rfl (by kernel_rfl) (by kernel_rfl))) ?_
                refine XL_takeC (bif (bif (bif (bif y8.2 then y9.2 else false) then (eqI y8.1 y9.1) else false) then y10.2 else false) then y11.2 else false) rfl rfl (by kernel_rfl) hc16 (X_of_Y0 rfl (Y0_eqw (k := .i64) (a := y8.1) (b := w64 (y10.1 - (w64 (2 * y11.1)))) rfl (by kernel_rfl) (by kernel_rfl))) ?_
                refine XL_cons rfl (X_of_Y0 rfl (Y0_pick1 (b := bif (bif (bif (bif y8.2 then y9.2 else false) then (eqI y8.1 y9.1) else false) then y10.2 else false) then y11.2 else false) (p := eqI y8.1 (w64 (y10.1 - (w64 (2 * y11.1))))) (q := false) rfl (by kernel_rfl) hc16 (by kernel_rfl))) ?_
                refine XL_cons rfl (X_of_Y0 rfl (E_assign (Bo (bif (bif (bif (bif (bif y8.2 then y9.2 else false) then (eqI y8.1 y9.1) else false) then y10.2 else false) then y11.2 else false) then (eqI y8.1 (w64 (y10.1 - (w64 (2 * y11.1))))) else false)) rfl (by kernel_rfl))) ?_
                refine XL_nil ?_
                subst ht17
                kernel_rfl
              · refine XL_skipT (bif (bif (bif (bif y8.2 then y9.2 else false) then (eqI y8.1 y9.1) else false) then y10.2 else false) then y11.2 else false) rfl rfl (by kernel_rfl) hc16 rfl ?_
                refine XL_skipT (bif (bif (bif (bif y8.2 then y9.2 else false) then (eqI y8.1 y9.1) else false) then y10.2 else false) then y11.2 else false) rfl rfl (by kernel_rfl) hc16 rfl ?_
                refine XL_skipT (bif (bif (bif (bif y8.2 then y9.2 else false) then (eqI y8.1 y9.1) else false) then y10.2 else false) then y11.2 else false) rfl rfl (by kernel_rfl) hc16 rfl ?_
                refine XL_skipT (bif (bif (bif (bif y8.2 then y9.2 else false) then (eqI y8.1 y9.1) else false) then y10.2 else false) then y11.2 else false) rfl rfl (by kernel_rfl) hc16 rfl ?_
                refine XL_skipT (bif (bif (bif (bif y8.2 then y9.2 else false) then (eqI y8.1 y9.1) else false) then y10.2 else false) then y11.2 else false) rfl rfl (by kernel_rfl) hc16 rfl ?_
                refine XL_skipT (bif (bif (bif (bif y8.2 then y9.2 else false) then (eqI y8.1 y9.1) else false) then y10.2 else false) then y11.2 else false) rfl rfl (by kernel_rfl) hc16 rfl ?_
                refine XL_cons rfl (X_of_Y0 rfl (Y0_pick0 (b := bif (bif (bif (bif y8.2 then y9.2 else false) then (eqI y8.1 y9.1) else false) then y10.2 else false) then y11.2 else false) (p := eqI y8.1 (w64 (y10.1 - (w64 (2 * y11.1))))) (q := false) rfl (by kernel_rfl) hc16 (by kernel_rfl))) ?_
                refine XL_cons rfl (X_of_Y0 rfl (E_assign (Bo (bif (bif (bif (bif (bif y8.2 then y9.2 else false) then (eqI y8.1 y9.1) else false) then y10.2 else false) then y11.2 else false) then (eqI y8.1 (w64 (y10.1 - (w64 (2 * y11.1))))) else false)) rfl (by kernel_rfl))) ?_
                refine XL_nil ?_
                subst ht17
                kernel_rfl
          · refine XL_skipT (bif (bif y8.2 then y9.2 else false) then (eqI y8.1 y9.1) else false) rfl rfl (by kernel_rfl) hc14 rfl ?_
            refine XL_cons rfl (X_of_Y0 rfl (Y0_pick0 (b := bif (bif y8.2 then y9.2 else false) then (eqI y8.1 y9.1) else false) (p := y10.2) (q := false) rfl (by kernel_rfl) hc14 (by kernel_rfl))) ?_
            refine XL_cons rfl (X_of_Y0 rfl (E_move (Bo (bif (bif (bif y8.2 then y9.2 else false) then (eqI y8.1 y9.1) else false) then y10.2 else false)) rfl (by kernel_rfl))) ?_
            refine XL_split (bif (bif (bif y8.2 then y9.2 else false) then (eqI y8.1 y9.1) else false) then y10.2 else false) (fun hc15 => ?_) (fun hc15 => ?_)
            · refine XL_takeC (bif (bif (bif y8.2 then y9.2 else false) then (eqI y8.1 y9.1) else false) then y10.2 else false) rfl rfl (by kernel_rfl) hc15 (X_of_Y0 rfl (E_move (Bo y11.2) rfl (by kernel_rfl))) ?_
              refine XL_cons rfl (X_of_Y0 rfl (Y0_pick1 (b := bif (bif (bif y8.2 then y9.2 else false) then (eqI y8.1 y9.1) else false) then y10.2 else false) (p := y11.2) (q := false) rfl (by kernel_rfl) hc15 (by kernel_rfl))) ?_
              refine XL_cons rfl (X_of_Y0 rfl (E_move (Bo (bif (bif (bif (bif y8.2 then y9.2 else false) then (eqI y8.1 y9.1) else false) then y10.2 else false) then y11.2 else false)) rfl (by kernel_rfl))) ?_
              refine XL_split (bif (bif (bif (bif y8.2 then y9.2 else false) then (eqI y8.1 y9.1) else false) then y10.2 else false) then y11.2 else false) (fun hc16 => ?_) (fun hc16 => ?_)
              · refine XL_takeC (bif (bif (bif (bif y8.2 then y9.2 else false) then (eqI y8.1 y9.1) else false) then y10.2 else false) then y11.2 else false) rfl rfl (by kernel_rfl) hc16 (X_of_Y0 rfl (E_move (I y8.1) rfl (by kernel_rfl))) ?_
                refine XL_takeC (bif (bif (bif (bif y8.2 then y9.2 else false) then (eqI y8.1 y9.1) else false) then y10.2 else false) then y11.2 else false) rfl rfl (by kernel_rfl) hc16 (X_of_Y0 rfl (E_move (I y10.1) rfl (by kernel_rfl))) ?_
                refine XL_takeC (bif (bif (bif (bif y8.2 then y9.2 else false) then (eqI y8.1 y9.1) else false) then y10.2 else false) then y11.2 else false) rfl rfl (by kernel_rfl) hc16 (X_of_Y0 rfl (E_move (I y11.1) rfl (by kernel_rfl))) ?_
                refine XL_takeC (bif (bif (bif (bif y8.2 then y9.2 else false) then (eqI y8.1 y9.1) else false) then y10.2 else false) then y11.2 else false) rfl rfl (by kernel_rfl) hc16 (X_of_Y0 rfl (Y0_mul64 (a := 2) (b := y11.1) rfl (by kernel_rfl) (by kernel_rfl))) ?_
                refine XL_takeC (bif (bif (bif (bif y8.2 then y9.2 else false) then (eqI y8.1 y9.1) else false) then y10.2 else false) then y11.2 else false) rfl rfl (by kernel_rfl) hc16 (X_of_Y0 rfl (Y0_sub64 (a := y10.1) (b := w64 (2 * y11.1)) rfl (by kernel_rfl) (by kernel_rfl))) ?_
                refine XL_takeC (bif (bif (bif (bif y8.2 then y9.2 else false) then (eqI y8.1 y9.1) else false) then y10.2 else false) then y11.2 else false) rfl rfl (by kernel_rfl) hc16 (X_of_Y0 rfl (Y0_eqw (k := .i64) (a := y8.1) (b := w64 (y10.1 - (w64 (2 * y11.1)))) rfl (by kernel_rfl) (by kernel_rfl))) ?_
                refine XL_cons rfl (X_of_Y0 rfl (Y0_pick1 (b := bif (bif (bif (bif y8.2 then y9.2 else false) then (eqI y8.1 y9.1) else false) then y10.2 else false) then y11.2 else false) (p := eqI y8.1 (w64 (y10.1 - (w64 (2 * y11.1))))) (q := false) rfl (by kernel_rfl) hc16 (by kernel_rfl))) ?_
                refine XL_cons rfl (X_of_Y0 rfl (E_assign (Bo (bif (bif (bif (bif (bif y8.2 then y9.2 else false) then (eqI y8.1 y9.1) else false) then y10.2 else false) then y11.2 else false) then (eqI y8.1 (w64 (y10.1 - (w64 (2 * y11.1))))) else false)) rfl (by kernel_rfl))) ?_
                refine XL_nil ?_
                subst ht17
                kernel_rfl
              · refine XL_skipT (bif (bif (bif (bif y8.2 then y9.2 else false) then (eqI y8.1 y9.1) else false) then y10.2 else false) then y11.2 else false) rfl rfl (by kernel_rfl) hc16 rfl ?_
                refine XL_skipT (bif (bif (bif (bif y8.2 then y9.2 else false) then (eqI y8.1 y9.1) else false) then y10.2 else false) then y11.2 else false) rfl rfl (by kernel_rfl) hc16 rfl ?_
                refine XL_skipT (bif (bif (bif (bif y8.2 then y9.2 else false) then (eqI y8.1 y9.1) else false) then y10.2 else false) then y11.2 else false) rfl rfl (by kernel_rfl) hc16 rfl ?_
                refine XL_skipT (bif (bif (bif (bif y8.2 then y9.2 else false) then (eqI y8.1 y9.1) else false) then y10.2 else false) then y11.2 else false) rfl rfl (by kernel_rfl) hc16 rfl ?_
                refine XL_skipT (bif (bif (bif (bif y8.2 then y9.2 else false) then (eqI y8.1 y9.1) else false) then y10.2 else false) then y11.2 else false) rfl rfl (by kernel_rfl) hc16 rfl ?_
                refine XL_skipT (bif (bif (bif (bif y8.2 then y9.2 else false) then (eqI y8.1 y9.1) else false) then y10.2 else false) then y11.2 else false) rfl rfl (by kernel_rfl) hc16 rfl ?_
                refine XL_cons rfl (X_of_Y0 rfl (Y0_pick0 (b := bif (bif (bif (bif y8.2 then y9.2 else false) then (eqI y8.1 y9.1) else false) then y10.2 else false) then y11.2 else false) (p := eqI y8.1 (w64 (y10.1 - (w64 (2 * y11.1))))) (q := false) rfl (by kernel_rfl) hc16 (by kernel_rfl))) ?_
                refine XL_cons rfl (X_of_Y0 rfl (E_assign (Bo (bif (bif (bif (bif (bif y8.2 then y9.2 else false) then (eqI y8.1 y9.1) else false) then y10.2 else false) then y11.2 else false) then (eqI y8.1 (w64 (y10.1 - (w64 (2 * y11.1))))) else false)) rfl (by kernel_rfl))) ?_
                refine XL_nil ?_
                subst ht17
                kernel_rfl
            · refine XL_skipT (bif (bif (bif y8.2 then y9.2 else false) then (eqI y8.1 y9.1) else false) then y10.2 else false) rfl rfl (by kernel_rfl) hc15 rfl ?_
              refine XL_cons rfl (X_of_Y0 rfl (Y0_pick0 (b := bif (bif (bif y8.2 then y9.2 else false) then (eqI y8.1 y9.1) else false) then y10.2 else false) (p := y11.2) (q := false) rfl (by kernel_rfl) hc15 (by kernel_rfl))) ?_
              refine XL_cons rfl (X_of_Y0 rfl (E_move (Bo (bif (bif (bif (bif y8.2 then y9.2 else false) then (eqI y8.1 y9.1) else false) then y10.2 else false) then y11.2 else false)) rfl (by kernel_rfl))) ?_
              refine XL_split (bif (bif (bif (bif y8.2 then y9.2 else false) then (eqI y8.1 y9.1) else false) then y10.2 else false) then y11.2 else false) (fun hc16 => ?_) (fun hc16 => ?_)
              · refine XL_takeC (bif (bif (bif (bif y8.2 then y9.2 else false) then (eqI y8.1 y9.1) else false) then y10.2 else false) then y11.2 else false) rfl rfl (by kernel_rfl) hc16 (X_of_Y0 rfl (E_move (I y8.1) rfl (by kernel_rfl))) ?_
                refine XL_takeC (bif (bif (bif (bif y8.2 then y9.2 else false) then (eqI y8.1 y9.1) else false) then y10.2 else false) then y11.2 else false) rfl rfl (by kernel_rfl) hc16 (X_of_Y0 rfl (E_move (I y10.1) rfl (by kernel_rfl))) ?_
                refine XL_takeC (bif (bif (bif (bif y8.2 then y9.2 else false) then (eqI y8.1 y9.1) else false) then y10.2 else false) then y11.2 else false) rfl rfl (by kernel_rfl) hc16 (X_of_Y0 rfl (E_move (I y11.1) rfl (by kernel_rfl))) ?_
                refine XL_takeC (bif (bif (bif (bif y8.2 then y9.2 else false) then (eqI y8.1 y9.1) else false) then y10.2 else false) then y11.2 else false) rfl rfl (by kernel_rfl) hc16 (X_of_Y0 rfl (Y0_mul64 (a := 2) (b := y11.1) rfl (by kernel_rfl) (by kernel_rfl))) ?_
                refine XL_takeC (bif (bif (bif (bif y8.2 then y9.2 else false) then (eqI y8.1 y9.1) else false) then y10.2 else false) then y11.2 else false) rfl rfl (by kernel_rfl) hc16 (X_of_Y0 rfl (Y0_sub64 (a := y10.1) (b := w64 (2 * y11.1)) rfl (by kernel_rfl) (by kernel_rfl))) ?_
                refine XL_takeC (bif (bif (bif (bif y8.2 then y9.2 else false) then (eqI y8.1 y9.1) else false) then y10.2 else false) then y11.2 else false) rfl rfl (by kernel_rfl) hc16 (X_of_Y0 rfl (Y0_eqw (k := .i64) (a := y8.1) (b := w64 (y10.1 - (w64 (2 * y11.1)))) rfl (by kernel_rfl) (by kernel_rfl))) ?_
                refine XL_cons rfl (X_of_Y0 rfl (Y0_pick1 (b := bif (bif (bif (bif y8.2 then y9.2 else false) then (eqI y8.1 y9.1) else false) then y10.2 else false) then y11.2 else false) (p := eqI y8.1 (w64 (y10.1 - (w64 (2 * y11.1))))) (q := false) rfl (by kernel_rfl) hc16 (by kernel_rfl))) ?_
                refine XL_cons rfl (X_of_Y0 rfl (E_assign (Bo (bif (bif (bif (bif (bif y8.2 then y9.2 else false) then (eqI y8.1 y9.1) else false) then y10.2 else false) then y11.2 else false) then (eqI y8.1 (w64 (y10.1 - (w64 (2 * y11.1))))) else false)) rfl (by kernel_rfl))) ?_
                refine XL_nil ?_
                subst ht17
                kernel_rfl
              · refine XL_skipT (bif (bif (bif (bif y8.2 then y9.2 else false) then (eqI y8.1 y9.1) else false) then y10.2 else false) then y11.2 else false) rfl rfl (by kernel_rfl) hc16 rfl ?_
                refine XL_skipT (bif (bif (bif (bif y8.2 then y9.2 else false) then (eqI y8.1 y9.1) else false) then y10.2 else false) then y11.2 else false) rfl rfl (by kernel_rfl) hc16 rfl ?_
                refine XL_skipT (bif (bif (bif (bif y8.2 then y9.2 else false) then (eqI y8.1 y9.1) else false) then y10.2 else false) then y11.2 else false) rfl rfl (by kernel_rfl) hc16 rfl ?_
                refine XL_skipT (bif (bif (bif (bif y8.2 then y9.2 else false) then (eqI y8.1 y9.1) else false) then y10.2 else false) then y11.2 else false) rfl rfl (by kernel_rfl) hc16 rfl ?_
                refine XL_skipT (bif (bif (bif (bif y8.2 then y9.2 else false) then (eqI y8.1 y9.1) else false) then y10.2 else false) then y11.2 else false) rfl rfl (by kernel_rfl) hc16 rfl ?_
                refine XL_skipT (bif (bif (bif (bif y8.2 then y9.2 else false) then (eqI y8.1 y9.1) else false) then y10.2 else false) then y11.2 else false) rfl rfl (by kernel_rfl) hc16 rfl ?_
                refine XL_cons rfl (X_of_Y0 rfl (Y0_pick0 (b := bif (bif (bif (bif y8.2 then y9.2 else false) then (eqI y8.1 y9.1) else false) then y10.2 else false) then y11.2 else false) (p := eqI y8.1 (w64 (y10.1 - (w64 (2 * y11.1))))) (q := false) rfl (by kernel_rfl) hc16 (by kernel_rfl))) ?_
                refine XL_cons rfl (X_of_Y0 rfl (E_assign (Bo (bif (bif (bif (bif (bif y8.2 then y9.2 else false) then (eqI y8.1 y9.1) else false) then y10.2 else false) then y11.2 else false) then (eqI y8.1 (w64 (y10.1 - (w64 (2 * y11.1))))) else false)) rfl (by kernel_rfl))) ?_
                refine XL_nil ?_
                subst ht17
                kernel_rfl
    refine V_ret ?_
    obtain rfl := some_inj h
    show Post _ _ _ _ _
    exact ⟨.inr rfl, rfl, rfl, rfl⟩
end Go.Proofs.Ytdffhgibkeifmaa
