/-
  The functions of the program compute what the plain functions say: more of them.
  Conditions: none.
-/
import Derived.Test.YtmpnloechnfkjaaDoorRtSnd1
namespace Go.Proofs.YtmpnloechnfkjaaDoor
open Go.RowKit
set_option linter.unusedVariables false
set_option linter.unusedSimpArgs false
theorem cf_impl_factors : ∀ args w, (callFunc 128 args).run Tryd.prog w = .ok (.enter 128 args) w := run_callFunc Tryd.func128 (by kernel_rfl) (by kernel_rfl)
set_option maxRecDepth 100000 in
set_option maxHeartbeats 400000 in
theorem s_impl_factors {vn1 : Int} {r : List Int} (h : r_impl_factors vn1 = some r) : CallS Tryd.prog 128 [I vn1] (.ow 0) [(0, .arr 3 1 (r.map c3))] := by
  refine CallS_of_text (rs := [.t 2]) (vs := [.tmp 2]) Tryd.func128 rfl rfl (.cons rfl FitsL.nil) (by decide) 31 rfl ?_
  unfold r_impl_factors at h
  show V _ _ ⟨[I vn1, .bot, .bot, .bot, .bot, .bot, .bot, .bot, .bot, .bot, .bot, .bot, .bot, .bot, .bot, .bot, .bot, .bot, .bot, .bot, .bot, .bot, .bot, .bot, .bot, .bot, .bot, .bot, .bot, .bot, .bot], []⟩ _
  refine V_sreg [true, false, false, false, false, false, false, false, false, false, false, false, false, false, false, false, false, false, false, false, false, false, false, false, false, false, false, false, false, false, false] [] (s1 := ⟨[I vn1, .bot, .bot, .bot, .bot, .bot, .bot, .bot, .bot, .bot, .bot, .bot, .bot, .bot, .bot, .bot, .bot, .bot, .bot, .bot, .bot, .bot, .bot, .bot, .bot, .bot, .bot, .bot, .bot, .bot, .bot], []⟩) ?_ ?_
  · refine XL_cons rfl (X_of_Y1 rfl (Y1_nil (e := 3) 1 (by decide) (.inl rfl))) ?_
    refine XL_nil ?_
    kernel_rfl
  refine V_sreg [true, false, false, true, false, false, false, false, false, false, false, false, false, false, false, false, false, false, false, false, false, false, false, false, false, false, false, false, false, false, false] [40] (s1 := ⟨[I vn1, .bot, .bot, .ow 40, .bot, .bot, .bot, .bot, .bot, .bot, .bot, .bot, .bot, .bot, .bot, .bot, .bot, .bot, .bot, .bot, .bot, .bot, .bot, .bot, .bot, .bot, .bot, .bot, .bot, .bot, .bot], [(40, .arr 3 1 ((([] : List Int)).map c3))]⟩) ?_ ?_
  · refine XL_cons rfl (X_of_Y1 rfl (Y1_bslice0 Tryd.underlying43 sz3 (by decide) rfl rfl)) ?_
    refine XL_cons rfl (X_of_Y0 rfl (E_assign (.ow 40) rfl (by kernel_rfl))) ?_
    refine XL_nil ?_
    kernel_rfl
  refine V_seq ?_
  refine V_sreg [true, false, false, true, true, false, false, false, false, false, false, false, false, false, false, false, false, false, false, false, false, false, false, false, false, false, false, false, false, false, false] [40] (s1 := ⟨[I vn1, .bot, .bot, .ow 40, I 2, .bot, .bot, .bot, .bot, .bot, .bot, .bot, .bot, .bot, .bot, .bot, .bot, .bot, .bot, .bot, .bot, .bot, .bot, .bot, .bot, .bot, .bot, .bot, .bot, .bot, .bot], [(40, .arr 3 1 ((([] : List Int)).map c3))]⟩) ?_ ?_
  · refine XL_cons rfl (X_of_Y0 rfl (E_assign (I 2) rfl (by kernel_rfl))) ?_
    refine XL_nil ?_
    kernel_rfl
  obtain ⟨o6, hLo6, h⟩ := of_bind h
  refine V_toK [true, false, false, true, false, false, false, false, false, false, false, false, false, false, false, false, false, false, false, false, false, false, false, false, false, false, false, false, false, false, false] [40] (s1 := ⟨[I o6.1, .bot, .bot, .ow 40, .bot, .bot, .bot, .bot, .bot, .bot, .bot, .bot, .bot, .bot, .bot, .bot, .bot, .bot, .bot, .bot, .bot, .bot, .bot, .bot, .bot, .bot, .bot, .bot, .bot, .bot, .bot], [(40, .arr 3 1 (o6.2.map c3))]⟩) ?_ ?_
  · clear h
    refine V_block (V_loop (fun n s => ∃ (vn2 : Int) (p3 : Int) (l4 : List Int), s.keep [true, false, false, true, true, false, false, false, false, false, false, false, false, false, false, false, false, false, false, false, false, false, false, false, false, false, false, false, false, false, false] [40] = (⟨[I vn2, .bot, .bot, .ow 40, I p3, .bot, .bot, .bot, .bot, .bot, .bot, .bot, .bot, .bot, .bot, .bot, .bot, .bot, .bot, .bot, .bot, .bot, .bot, .bot, .bot, .bot, .bot, .bot, .bot, .bot, .bot], [(40, .arr 3 1 (l4.map c3))]⟩ : St) ∧ r_impl_factors_L5 n vn2 p3 l4 = some o6) FU ⟨_, _, _,  by rfl, hLo6⟩ ?_)
    clear hLo6
    rintro n s ⟨vn2, p3, l4, hs, h⟩
    refine V_keep _ _ hs ?_
    clear hs
    cases n with
    | zero => cases h
    | succ n =>
      rw [r_impl_factors_L5] at h
      refine V_seq ?_
      refine V_sreg [true, false, false, true, true, false, false, false, false, false, true, false, false, false, false, false, false, false, false, false, false, false, false, false, false, false, false, false, false, false, false] [40] (s1 := ⟨[I vn2, .bot, .bot, .ow 40, I p3, .bot, .bot, .bot, .bot, .bot, Bo (leI (w64 (p3 * p3)) vn2), .bot, .bot, .bot, .bot, .bot, .bot, .bot, .bot, .bot, .bot, .bot, .bot, .bot, .bot, .bot, .bot, .bot, .bot, .bot, .bot], [(40, .arr 3 1 (l4.map c3))]⟩) ?_ ?_
      · refine XL_cons rfl (X_of_Y0 rfl (E_move (I p3) rfl (by kernel_rfl))) ?_
        refine XL_cons rfl (X_of_Y0 rfl (E_move (I p3) rfl (by kernel_rfl))) ?_
        refine XL_cons rfl (X_of_Y0 rfl (Y0_mul64 (a := p3) (b := p3) rfl (by kernel_rfl) (by kernel_rfl))) ?_
        refine XL_cons rfl (X_of_Y0 rfl (E_move (I vn2) rfl (by kernel_rfl))) ?_
        refine XL_cons rfl (X_of_Y0 rfl (Y0_lew (k := .i64) (a := w64 (p3 * p3)) (b := vn2) rfl (by kernel_rfl) (by kernel_rfl))) ?_
        refine XL_nil ?_
        kernel_rfl
      refine V_cond rfl (fun hc7 => ?_) (fun hc7 => ?_)
      · have h := of_true h hc7
        refine V_skip ?_
        show V _ _ _ _
        refine V_seq ?_
        refine V_block ?_
        obtain ⟨o11, hLo11, h⟩ := of_bind h
        refine V_toK [true, false, false, true, true, false, false, false, false, false, false, false, false, false, false, false, false, false, false, false, false, false, false, false, false, false, false, false, false, false, false] [40] (s1 := ⟨[I o11.1, .bot, .bot, .ow 40, I p3, .bot, .bot, .bot, .bot, .bot, .bot, .bot, .bot, .bot, .bot, .bot, .bot, .bot, .bot, .bot, .bot, .bot, .bot, .bot, .bot, .bot, .bot, .bot, .bot, .bot, .bot], [(40, .arr 3 1 (o11.2.map c3))]⟩) ?_ ?_
        · clear h
          refine V_block (V_loop (fun n s => ∃ (vn8 : Int) (l9 : List Int), s.keep [true, false, false, true, true, false, false, false, false, false, false, false, false, false, false, false, false, false, false, false, false, false, false, false, false, false, false, false, false, false, false] [40] = (⟨[I vn8, .bot, .bot, .ow 40, I p3, .bot, .bot, .bot, .bot, .bot, .bot, .bot, .bot, .bot, .bot, .bot, .bot, .bot, .bot, .bot, .bot, .bot, .bot, .bot, .bot, .bot, .bot, .bot, .bot, .bot, .bot], [(40, .arr 3 1 (l9.map c3))]⟩ : St) ∧ r_impl_factors_L10 p3 n vn8 l9 = some o11) FU ⟨_, _,  by rfl, hLo11⟩ ?_)
          clear hLo11
          rintro n s ⟨vn8, l9, hs, h⟩
          refine V_keep _ _ hs ?_
          clear hs
          cases n with
          | zero => cases h
          | succ n =>
            rw [r_impl_factors_L10] at h
            refine V_seq ?_
            obtain ⟨z12, hz12, h⟩ := of_bind h
            refine V_sreg [true, false, false, true, true, false, false, false, false, false, false, false, false, false, false, false, true, false, false, false, false, false, false, false, false, false, false, false, false, false, false] [40] (s1 := ⟨[I vn8, .bot, .bot, .ow 40, I p3, .bot, .bot, .bot, .bot, .bot, .bot, .bot, .bot, .bot, .bot, .bot, Bo (eqI (Int.tmod vn8 p3) 0), .bot, .bot, .bot, .bot, .bot, .bot, .bot, .bot, .bot, .bot, .bot, .bot, .bot, .bot], [(40, .arr 3 1 (l9.map c3))]⟩) ?_ ?_
            · refine XL_cons rfl (X_of_Y0 rfl (E_move (I vn8) rfl (by kernel_rfl))) ?_
              refine XL_cons rfl (X_of_Y0 rfl (E_move (I p3) rfl (by kernel_rfl))) ?_
              refine XL_cons rfl (X_of_Y0 rfl (Y0_rem (k := .i64) (a := vn8) (b := p3) rfl (by kernel_rfl) (by kernel_rfl) (nz_some hz12))) ?_
              refine XL_cons rfl (X_of_Y0 rfl (Y0_eqw (k := .i64) (a := Int.tmod vn8 p3) (b := 0) rfl (by kernel_rfl) (by kernel_rfl))) ?_
              refine XL_nil ?_
              kernel_rfl
            refine V_cond rfl (fun hc13 => ?_) (fun hc13 => ?_)
            · have h := of_true h hc13
              refine V_skip ?_
              show V _ _ _ _
              refine V_block ?_
              obtain ⟨u14, hu14, h⟩ := of_bind h
              refine V_sreg [true, false, false, true, true, false, false, false, false, false, false, false, false, false, false, false, false, false, false, false, false, false, false, false, false, false, false, false, false, false, false] [40] (s1 := ⟨[I vn8, .bot, .bot, .ow 40, I p3, .bot, .bot, .bot, .bot, .bot, .bot, .bot, .bot, .bot, .bot, .bot, .bot, .bot, .bot, .bot, .bot, .bot, .bot, .bot, .bot, .bot, .bot, .bot, .bot, .bot, .bot], [(40, .arr 3 1 ((l9 ++ ([p3])).map c3))]⟩) ?_ ?_
              · refine XL_cons rfl (X_of_Y0 rfl (E_move (.ow 40) rfl (by kernel_rfl))) ?_
                refine XL_cons rfl (X_of_Y0 rfl (E_move (I p3) rfl (by kernel_rfl))) ?_
                refine XL_cons rfl (X_of_Y1 rfl (Y1_bslice (z := zv3) (els := [p3].map c3) Tryd.underlying43 iz3 rfl (by decide) rfl (by kernel_rfl) rfl (by simp [c3]) (by decide) (by decide))) ?_
                refine XL_cons rfl (X_appendM (c := c3) (xs := l9) (ys := [p3]) (id := 40) (z := zv3) rfl rfl Tryd.underlying43 izb3 rfl (by kernel_rfl) (by kernel_rfl) (by kernel_rfl) (fun _ => rfl) (by simp) (room_some hu14) (by decide)) ?_
                refine XL_cons rfl (X_of_Y0 rfl (E_assign (.ow 40) rfl (by kernel_rfl))) ?_
                refine XL_nil ?_
                kernel_rfl
              obtain ⟨z15, hz15, h⟩ := of_bind h
              obtain ⟨vn16, hvn16, h⟩ := of_sI h
              refine V_reg [true, false, false, true, true, false, false, false, false, false, false, false, false, false, false, false, false, false, false, false, false, false, false, false, false, false, false, false, false, false, false] [40] (s1 := ⟨[I vn16, .bot, .bot, .ow 40, I p3, .bot, .bot, .bot, .bot, .bot, .bot, .bot, .bot, .bot, .bot, .bot, .bot, .bot, .bot, .bot, .bot, .bot, .bot, .bot, .bot, .bot, .bot, .bot, .bot, .bot, .bot], [(40, .arr 3 1 ((l9 ++ ([p3])).map c3))]⟩) ?_ ?_
              · refine XL_cons rfl (X_of_Y0 rfl (E_move (I vn8) rfl (by kernel_rfl))) ?_
                refine XL_cons rfl (X_of_Y0 rfl (E_move (I p3) rfl (by kernel_rfl))) ?_
                refine XL_cons rfl (X_of_Y0 rfl (Y0_quo64 (a := vn8) (b := p3) rfl (by kernel_rfl) (by kernel_rfl) (nz_some hz15))) ?_
                refine XL_cons rfl (X_of_Y0 rfl (E_assign (I (w64 (Int.tdiv vn8 p3))) rfl (by kernel_rfl))) ?_
                refine XL_nil ?_
                subst hvn16
                kernel_rfl
              exact ⟨n, Nat.lt_succ_self n, _, _,  by rfl, h⟩
            · have h := of_false h hc13
              refine V_exit ?_
              obtain rfl := some_inj h
              show St.keep _ _ _ = _
              rfl
        show V _ _ _ _
        obtain ⟨p17, hp17, h⟩ := of_sI h
        refine V_reg [true, false, false, true, true, false, false, false, false, false, false, false, false, false, false, false, false, false, false, false, false, false, false, false, false, false, false, false, false, false, false] [40] (s1 := ⟨[I o11.1, .bot, .bot, .ow 40, I p17, .bot, .bot, .bot, .bot, .bot, .bot, .bot, .bot, .bot, .bot, .bot, .bot, .bot, .bot, .bot, .bot, .bot, .bot, .bot, .bot, .bot, .bot, .bot, .bot, .bot, .bot], [(40, .arr 3 1 (o11.2.map c3))]⟩) ?_ ?_
        · refine XL_cons rfl (X_of_Y0 rfl (E_move (I p3) rfl (by kernel_rfl))) ?_
          refine XL_cons rfl (X_of_Y0 rfl (Y0_add64 (a := p3) (b := 1) rfl (by kernel_rfl) (by kernel_rfl))) ?_
          refine XL_cons rfl (X_of_Y0 rfl (E_assign (I (w64 (p3 + 1))) rfl (by kernel_rfl))) ?_
          refine XL_nil ?_
          subst hp17
          kernel_rfl
        exact ⟨n, Nat.lt_succ_self n, _, _, _,  by rfl, h⟩
      · have h := of_false h hc7
        refine V_exit ?_
        obtain rfl := some_inj h
        show St.keep _ _ _ = _
        rfl
  show V _ _ _ _
  refine V_seq ?_
  refine V_sreg [true, false, false, true, false, false, false, false, false, false, false, false, false, false, false, false, false, false, false, false, false, false, false, false, false, true, false, false, false, false, false] [40] (s1 := ⟨[I o6.1, .bot, .bot, .ow 40, .bot, .bot, .bot, .bot, .bot, .bot, .bot, .bot, .bot, .bot, .bot, .bot, .bot, .bot, .bot, .bot, .bot, .bot, .bot, .bot, .bot, Bo (ltI 1 o6.1), .bot, .bot, .bot, .bot, .bot], [(40, .arr 3 1 (o6.2.map c3))]⟩) ?_ ?_
  · refine XL_cons rfl (X_of_Y0 rfl (E_move (I o6.1) rfl (by kernel_rfl))) ?_
    refine XL_cons rfl (X_of_Y0 rfl (Y0_gtw (k := .i64) (a := o6.1) (b := 1) rfl (by kernel_rfl) (by kernel_rfl))) ?_
    refine XL_nil ?_
    kernel_rfl
  refine V_cond rfl (fun hc18 => ?_) (fun hc18 => ?_)
  · have h := of_true h hc18
    obtain ⟨u19, hu19, h⟩ := of_bind h
    refine V_reg [false, false, false, true, false, false, false, false, false, false, false, false, false, false, false, false, false, false, false, false, false, false, false, false, false, false, false, false, false, false, false] [40] (s1 := ⟨[.bot, .bot, .bot, .ow 40, .bot, .bot, .bot, .bot, .bot, .bot, .bot, .bot, .bot, .bot, .bot, .bot, .bot, .bot, .bot, .bot, .bot, .bot, .bot, .bot, .bot, .bot, .bot, .bot, .bot, .bot, .bot], [(40, .arr 3 1 ((o6.2 ++ ([o6.1])).map c3))]⟩) ?_ ?_
    · refine XL_cons rfl (X_of_Y0 rfl (E_move (.ow 40) rfl (by kernel_rfl))) ?_
      refine XL_cons rfl (X_of_Y0 rfl (E_move (I o6.1) rfl (by kernel_rfl))) ?_
      refine XL_cons rfl (X_of_Y1 rfl (Y1_bslice (z := zv3) (els := [o6.1].map c3) Tryd.underlying43 iz3 rfl (by decide) rfl (by kernel_rfl) rfl (by simp [c3]) (by decide) (by decide))) ?_
      refine XL_cons rfl (X_appendM (c := c3) (xs := o6.2) (ys := [o6.1]) (id := 40) (z := zv3) rfl rfl Tryd.underlying43 izb3 rfl (by kernel_rfl) (by kernel_rfl) (by kernel_rfl) (fun _ => rfl) (by simp) (room_some hu19) (by decide)) ?_
      refine XL_cons rfl (X_of_Y0 rfl (E_assign (.ow 40) rfl (by kernel_rfl))) ?_
      refine XL_nil ?_
      kernel_rfl
    show V _ _ _ _
    refine V_sreg [false, false, true, false, false, false, false, false, false, false, false, false, false, false, false, false, false, false, false, false, false, false, false, false, false, false, false, false, false, false, false] [40] (s1 := ⟨[.bot, .bot, .ow 40, .bot, .bot, .bot, .bot, .bot, .bot, .bot, .bot, .bot, .bot, .bot, .bot, .bot, .bot, .bot, .bot, .bot, .bot, .bot, .bot, .bot, .bot, .bot, .bot, .bot, .bot, .bot, .bot], [(40, .arr 3 1 ((o6.2 ++ ([o6.1])).map c3))]⟩) ?_ ?_
    · refine XL_cons rfl (X_of_Y0 rfl (E_move (.ow 40) rfl (by kernel_rfl))) ?_
      refine XL_cons rfl (X_of_Y0 rfl (E_assign (.ow 40) rfl (by kernel_rfl))) ?_
      refine XL_nil ?_
      kernel_rfl
    refine V_ret ?_
    obtain rfl := some_inj h
    show Post _ _ _ _ _
    exact ⟨.inr rfl, rfl, rfl, rfl⟩
  · have h := of_false h hc18
    refine V_skip ?_
    show V _ _ _ _
    refine V_sreg [false, false, true, false, false, false, false, false, false, false, false, false, false, false, false, false, false, false, false, false, false, false, false, false, false, false, false, false, false, false, false] [40] (s1 := ⟨[.bot, .bot, .ow 40, .bot, .bot, .bot, .bot, .bot, .bot, .bot, .bot, .bot, .bot, .bot, .bot, .bot, .bot, .bot, .bot, .bot, .bot, .bot, .bot, .bot, .bot, .bot, .bot, .bot, .bot, .bot, .bot], [(40, .arr 3 1 (o6.2.map c3))]⟩) ?_ ?_
    · refine XL_cons rfl (X_of_Y0 rfl (E_move (.ow 40) rfl (by kernel_rfl))) ?_
      refine XL_cons rfl (X_of_Y0 rfl (E_assign (.ow 40) rfl (by kernel_rfl))) ?_
      refine XL_nil ?_
      kernel_rfl
    refine V_ret ?_
    obtain rfl := some_inj h
    show Post _ _ _ _ _
    exact ⟨.inr rfl, rfl, rfl, rfl⟩
theorem cf_impl_primesOf : ∀ args w, (callFunc 78 args).run Tryd.prog w = .ok (.enter 78 args) w := run_callFunc Tryd.func78 (by kernel_rfl) (by kernel_rfl)
set_option maxRecDepth 100000 in
set_option maxHeartbeats 400000 in
theorem s_impl_primesOf {vn1 : Int} {r : List Int} (h : r_impl_primesOf vn1 = some r) : CallS Tryd.prog 78 [I vn1] (.ow 0) [(0, .arr 3 1 (r.map c3))] := by
  refine CallS_of_text (rs := [.t 2]) (vs := [.tmp 2]) Tryd.func78 rfl rfl (.cons rfl FitsL.nil) (by decide) 33 rfl ?_
  unfold r_impl_primesOf at h
  show V _ _ ⟨[I vn1, .bot, .bot, .bot, .bot, .bot, .bot, .bot, .bot, .bot, .bot, .bot, .bot, .bot, .bot, .bot, .bot, .bot, .bot, .bot, .bot, .bot, .bot, .bot, .bot, .bot, .bot, .bot, .bot, .bot, .bot, .bot, .bot], []⟩ _
  refine V_sreg [true, false, false, false, false, false, false, false, false, false, false, false, false, false, false, false, false, false, false, false, false, false, false, false, false, false, false, false, false, false, false, false, false] [] (s1 := ⟨[I vn1, .bot, .bot, .bot, .bot, .bot, .bot, .bot, .bot, .bot, .bot, .bot, .bot, .bot, .bot, .bot, .bot, .bot, .bot, .bot, .bot, .bot, .bot, .bot, .bot, .bot, .bot, .bot, .bot, .bot, .bot, .bot, .bot], []⟩) ?_ ?_
  · refine XL_cons rfl (X_of_Y1 rfl (Y1_nil (e := 3) 1 (by decide) (.inl rfl))) ?_
    refine XL_nil ?_
    kernel_rfl
  refine V_sreg [true, false, false, true, false, false, false, false, false, false, false, false, false, false, false, false, false, false, false, false, false, false, false, false, false, false, false, false, false, false, false, false, false] [48] (s1 := ⟨[I vn1, .bot, .bot, .ow 48, .bot, .bot, .bot, .bot, .bot, .bot, .bot, .bot, .bot, .bot, .bot, .bot, .bot, .bot, .bot, .bot, .bot, .bot, .bot, .bot, .bot, .bot, .bot, .bot, .bot, .bot, .bot, .bot, .bot], [(48, .arr 3 1 ((([] : List Int)).map c3))]⟩) ?_ ?_
  · refine XL_cons rfl (X_of_Y1 rfl (Y1_bslice0 Tryd.underlying43 sz3 (by decide) rfl rfl)) ?_
    refine XL_cons rfl (X_of_Y0 rfl (E_assign (.ow 48) rfl (by kernel_rfl))) ?_
    refine XL_nil ?_
    kernel_rfl
  refine V_seq ?_
  obtain ⟨y2, hy2, h⟩ := of_bind h
  refine V_sreg [false, false, false, true, false, false, false, false, true, true, true, false, false, false, false, false, false, false, false, false, false, false, false, false, false, false, false, false, false, false, false, false, false] [64, 48] (s1 := ⟨[.bot, .bot, .bot, .ow 48, .bot, .bot, .bot, .bot, .ow 64, I ((y2.length : Int)), I 0, .bot, .bot, .bot, .bot, .bot, .bot, .bot, .bot, .bot, .bot, .bot, .bot, .bot, .bot, .bot, .bot, .bot, .bot, .bot, .bot, .bot, .bot], [(64, .arr 3 1 (y2.map c3)), (48, .arr 3 1 ((([] : List Int)).map c3))]⟩) ?_ ?_
  · refine XL_cons rfl (X_of_Y0 rfl (E_move (I vn1) rfl (by kernel_rfl))) ?_
    refine XL_cons rfl (X_of_Y1 rfl (Y1_call (s_impl_factors hy2) cf_impl_factors rfl (by kernel_rfl))) ?_
    refine XL_cons rfl (X_of_Y0 rfl (Y0_lenM (c := c3) (xs := y2) Tryd.underlying43 rfl (by kernel_rfl))) ?_
    refine XL_cons rfl (X_of_Y0 rfl (E_move (I 0) rfl (by kernel_rfl))) ?_
    refine XL_nil ?_
    kernel_rfl
  obtain ⟨o6, hLo6, h⟩ := of_bind h
  refine V_toK [false, false, false, true, false, false, false, false, false, false, false, false, false, false, false, false, false, false, false, false, false, false, false, false, false, false, false, false, false, false, false, false, false] [48] (s1 := ⟨[.bot, .bot, .bot, .ow 48, .bot, .bot, .bot, .bot, .bot, .bot, .bot, .bot, .bot, .bot, .bot, .bot, .bot, .bot, .bot, .bot, .bot, .bot, .bot, .bot, .bot, .bot, .bot, .bot, .bot, .bot, .bot, .bot, .bot], [(48, .arr 3 1 (o6.map c3))]⟩) ?_ ?_
  · clear h
    refine V_block (V_loop (fun n s => ∃ (t3 : Int) (l4 : List Int), s.keep [false, false, false, true, false, false, false, false, true, true, true, false, false, false, false, false, false, false, false, false, false, false, false, false, false, false, false, false, false, false, false, false, false] [64, 48] = (⟨[.bot, .bot, .bot, .ow 48, .bot, .bot, .bot, .bot, .ow 64, I ((y2.length : Int)), I t3, .bot, .bot, .bot, .bot, .bot, .bot, .bot, .bot, .bot, .bot, .bot, .bot, .bot, .bot, .bot, .bot, .bot, .bot, .bot, .bot, .bot, .bot], [(64, .arr 3 1 (y2.map c3)), (48, .arr 3 1 (l4.map c3))]⟩ : St) ∧ r_impl_primesOf_L5 y2 n t3 l4 = some o6) FU ⟨_, _,  by rfl, hLo6⟩ ?_)
    clear hLo6
    rintro n s ⟨t3, l4, hs, h⟩
    refine V_keep _ _ hs ?_
    clear hs
    cases n with
    | zero => cases h
    | succ n =>
      rw [r_impl_primesOf_L5] at h
      refine V_sreg [false, false, false, true, false, false, false, false, true, true, true, true, false, false, false, false, false, false, false, false, false, false, false, false, false, false, false, false, false, false, false, false, false] [64, 48] (s1 := ⟨[.bot, .bot, .bot, .ow 48, .bot, .bot, .bot, .bot, .ow 64, I ((y2.length : Int)), I t3, Bo (ltI t3 ((y2.length : Int))), .bot, .bot, .bot, .bot, .bot, .bot, .bot, .bot, .bot, .bot, .bot, .bot, .bot, .bot, .bot, .bot, .bot, .bot, .bot, .bot, .bot], [(64, .arr 3 1 (y2.map c3)), (48, .arr 3 1 (l4.map c3))]⟩) ?_ ?_
      · refine XL_cons rfl (X_of_Y0 rfl (Y0_ltw (k := .i64) (a := t3) (b := (y2.length : Int)) rfl (by kernel_rfl) (by kernel_rfl))) ?_
        refine XL_nil ?_
        kernel_rfl
      refine V_seq ?_
      refine V_cond rfl (fun hc7 => ?_) (fun hc7 => ?_)
      · have h := of_true h hc7
        refine V_skip ?_
        show V _ _ _ _
        refine V_seq ?_
        refine V_block ?_
        obtain ⟨e8, he8, h⟩ := of_bind h
        obtain ⟨e9, he9, h⟩ := of_bind h
        refine V_sreg [false, false, false, true, false, true, false, false, true, true, true, false, false, false, false, false, false, false, false, false, false, false, false, false, false, false, false, false, false, false, false, false, false] [64, 48] (s1 := ⟨[.bot, .bot, .bot, .ow 48, .bot, I e9, .bot, .bot, .ow 64, I ((y2.length : Int)), I t3, .bot, .bot, .bot, .bot, .bot, .bot, .bot, .bot, .bot, .bot, .bot, .bot, .bot, .bot, .bot, .bot, .bot, .bot, .bot, .bot, .bot, .bot], [(64, .arr 3 1 (y2.map c3)), (48, .arr 3 1 (l4.map c3))]⟩) ?_ ?_
        · refine XL_cons rfl (X_of_Y0 rfl (Y0_idxoM (c := c3) (xs := y2) (v := e8) (id := 64) (T := 3) (sz := 1) (n := t3) Tryd.underlying43 sz3 rfl (by kernel_rfl) (by kernel_rfl) (by kernel_rfl) he8)) ?_
          refine XL_cons rfl (X_of_Y0 rfl (Y0_loado1 (c := c3) (xs := y2) (v := e9) (id := 64) (sz := 1) (T := 3) (off := 0) (n := t3) (d := Ti e9) (ds := []) sc3 rfl (by kernel_rfl) (by kernel_rfl) he9 (by kernel_rfl))) ?_
          refine XL_cons rfl (X_of_Y0 rfl (E_assign (I e9) rfl (by kernel_rfl))) ?_
          refine XL_nil ?_
          kernel_rfl
        obtain ⟨b13, hb13, h⟩ := of_bind h
        refine V_sreg [false, false, false, true, false, true, false, false, true, true, true, false, false, false, false, false, false, false, false, false, false, false, false, false, false, false, true, false, false, false, false, false, false] [64, 48] (s1 := ⟨[.bot, .bot, .bot, .ow 48, .bot, I e9, .bot, .bot, .ow 64, I ((y2.length : Int)), I t3, .bot, .bot, .bot, .bot, .bot, .bot, .bot, .bot, .bot, .bot, .bot, .bot, .bot, .bot, .bot, Bo b13, .bot, .bot, .bot, .bot, .bot, .bot], [(64, .arr 3 1 (y2.map c3)), (48, .arr 3 1 (l4.map c3))]⟩) ?_ ?_
        · refine XL_cons rfl (X_of_Y0 rfl (E_move (.ow 48) rfl (by kernel_rfl))) ?_
          refine XL_cons rfl (X_of_Y0 rfl (Y0_lenM (c := c3) (xs := l4) Tryd.underlying43 rfl (by kernel_rfl))) ?_
          refine XL_cons rfl (X_of_Y0 rfl (Y0_eqw (k := .i64) (a := (l4.length : Int)) (b := 0) rfl (by kernel_rfl) (by kernel_rfl))) ?_
          refine XL_cons rfl (X_of_Y0 rfl (E_move (Bo (eqI ((l4.length : Int)) 0)) rfl (by kernel_rfl))) ?_
          refine XL_split (eqI ((l4.length : Int)) 0) (fun hc10 => ?_) (fun hc10 => ?_)
          · have hb13 := some_inj (of_true hb13 hc10)
            refine XL_skipF (eqI ((l4.length : Int)) 0) rfl rfl (by kernel_rfl) hc10 rfl ?_
            refine XL_skipF (eqI ((l4.length : Int)) 0) rfl rfl (by kernel_rfl) hc10 rfl ?_
            refine XL_skipF (eqI ((l4.length : Int)) 0) rfl rfl (by kernel_rfl) hc10 rfl ?_
            refine XL_skipF (eqI ((l4.length : Int)) 0) rfl rfl (by kernel_rfl) hc10 rfl ?_
            refine XL_skipF (eqI ((l4.length : Int)) 0) rfl rfl (by kernel_rfl) hc10 rfl ?_
            refine XL_skipF (eqI ((l4.length : Int)) 0) rfl rfl (by kernel_rfl) hc10 rfl ?_
            refine XL_skipF (eqI ((l4.length : Int)) 0) rfl rfl (by kernel_rfl) hc10 rfl ?_
            refine XL_skipF (eqI ((l4.length : Int)) 0) rfl rfl (by kernel_rfl) hc10 rfl ?_
            refine XL_cons rfl (X_of_Y0 rfl (Y0_pickTe (b := eqI ((l4.length : Int)) 0) (p := true) rfl (by kernel_rfl) hc10 (by kernel_rfl) hb13)) ?_
            refine XL_nil ?_
            kernel_rfl
          · have hb13 := of_false hb13 hc10
            obtain ⟨e11, he11, hb13⟩ := of_bind hb13
            obtain ⟨e12, he12, hb13⟩ := of_bind hb13
            have hb13 := some_inj hb13
            refine XL_takeC (eqI ((l4.length : Int)) 0) rfl rfl (by kernel_rfl) hc10 (X_of_Y0 rfl (E_move (.ow 48) rfl (by kernel_rfl))) ?_
            refine XL_takeC (eqI ((l4.length : Int)) 0) rfl rfl (by kernel_rfl) hc10 (X_of_Y0 rfl (E_move (.ow 48) rfl (by kernel_rfl))) ?_
            refine XL_takeC (eqI ((l4.length : Int)) 0) rfl rfl (by kernel_rfl) hc10 (X_of_Y0 rfl (Y0_lenM (c := c3) (xs := l4) Tryd.underlying43 rfl (by kernel_rfl))) ?_
            refine XL_takeC (eqI ((l4.length : Int)) 0) rfl rfl (by kernel_rfl) hc10 (X_of_Y0 rfl (Y0_sub64 (a := (l4.length : Int)) (b := 1) rfl (by kernel_rfl) (by kernel_rfl))) ?_
            refine XL_takeC (eqI ((l4.length : Int)) 0) rfl rfl (by kernel_rfl) hc10 (X_of_Y0 rfl (Y0_idxoM (c := c3) (xs := l4) (v := e11) (id := 48) (T := 3) (sz := 1) (n := w64 (((l4.length : Int)) - 1)) Tryd.underlying43 sz3 rfl (by kernel_rfl) (by kernel_rfl) (by kernel_rfl) he11)) ?_
            refine XL_takeC (eqI ((l4.length : Int)) 0) rfl rfl (by kernel_rfl) hc10 (X_of_Y0 rfl (Y0_loado1 (c := c3) (xs := l4) (v := e12) (id := 48) (sz := 1) (T := 3) (off := 0) (n := w64 (((l4.length : Int)) - 1)) (d := Ti e12) (ds := []) sc3 rfl (by kernel_rfl) (by kernel_rfl) he12 (by kernel_rfl))) ?_
            refine XL_takeC (eqI ((l4.length : Int)) 0) rfl rfl (by kernel_rfl) hc10 (X_of_Y0 rfl (E_move (I e9) rfl (by kernel_rfl))) ?_
            refine XL_takeC (eqI ((l4.length : Int)) 0) rfl rfl (by kernel_rfl) hc10 (X_of_Y0 rfl (Y0_new (k := .i64) (a := e12) (b := e9) rfl (by kernel_rfl) (by kernel_rfl))) ?_
            refine XL_cons rfl (X_of_Y0 rfl (Y0_pickFe (b := eqI ((l4.length : Int)) 0) (p := !eqI e12 e9) rfl (by kernel_rfl) hc10 (by kernel_rfl) hb13)) ?_
            refine XL_nil ?_
            kernel_rfl
        refine V_cond rfl (fun hc14 => ?_) (fun hc14 => ?_)
        · have h := of_true h hc14
          obtain ⟨u15, hu15, h⟩ := of_bind h
          refine V_reg [false, false, false, true, false, false, false, false, true, true, true, false, false, false, false, false, false, false, false, false, false, false, false, false, false, false, false, false, false, false, false, false, false] [64, 48] (s1 := ⟨[.bot, .bot, .bot, .ow 48, .bot, .bot, .bot, .bot, .ow 64, I ((y2.length : Int)), I t3, .bot, .bot, .bot, .bot, .bot, .bot, .bot, .bot, .bot, .bot, .bot, .bot, .bot, .bot, .bot, .bot, .bot, .bot, .bot, .bot, .bot, .bot], [(64, .arr 3 1 (y2.map c3)), (48, .arr 3 1 ((l4 ++ ([e9])).map c3))]⟩) ?_ ?_
          · refine XL_cons rfl (X_of_Y0 rfl (E_move (.ow 48) rfl (by kernel_rfl))) ?_
            refine XL_cons rfl (X_of_Y0 rfl (E_move (I e9) rfl (by kernel_rfl))) ?_
            refine XL_cons rfl (X_of_Y1 rfl (Y1_bslice (z := zv3) (els := [e9].map c3) Tryd.underlying43 iz3 rfl (by decide) rfl (by kernel_rfl) rfl (by simp [c3]) (by decide) (by decide))) ?_
            refine XL_cons rfl (X_appendM (c := c3) (xs := l4) (ys := [e9]) (id := 48) (z := zv3) rfl rfl Tryd.underlying43 izb3 rfl (by kernel_rfl) (by kernel_rfl) (by kernel_rfl) (fun _ => rfl) (by simp) (room_some hu15) (by decide)) ?_
            refine XL_cons rfl (X_of_Y0 rfl (E_assign (.ow 48) rfl (by kernel_rfl))) ?_
            refine XL_nil ?_
            kernel_rfl
          show V _ _ _ _
          obtain ⟨t16, ht16, h⟩ := of_sI h
          refine V_reg [false, false, false, true, false, false, false, false, true, true, true, false, false, false, false, false, false, false, false, false, false, false, false, false, false, false, false, false, false, false, false, false, false] [64, 48] (s1 := ⟨[.bot, .bot, .bot, .ow 48, .bot, .bot, .bot, .bot, .ow 64, I ((y2.length : Int)), I t16, .bot, .bot, .bot, .bot, .bot, .bot, .bot, .bot, .bot, .bot, .bot, .bot, .bot, .bot, .bot, .bot, .bot, .bot, .bot, .bot, .bot, .bot], [(64, .arr 3 1 (y2.map c3)), (48, .arr 3 1 ((l4 ++ ([e9])).map c3))]⟩) ?_ ?_
          · refine XL_cons rfl (X_of_Y0 rfl (Y0_add64 (a := t3) (b := 1) rfl (by kernel_rfl) (by kernel_rfl))) ?_
            refine XL_cons rfl (X_of_Y0 rfl (E_move (I (w64 (t3 + 1))) rfl (by kernel_rfl))) ?_
            refine XL_nil ?_
            subst ht16
            kernel_rfl
          exact ⟨n, Nat.lt_succ_self n, _, _,  by rfl, h⟩
        · have h := of_false h hc14
          refine V_skip ?_
          show V _ _ _ _
          obtain ⟨t17, ht17, h⟩ := of_sI h
          refine V_reg [false, false, false, true, false, false, false, false, true, true, true, false, false, false, false, false, false, false, false, false, false, false, false, false, false, false, false, false, false, false, false, false, false] [64, 48] (s1 := ⟨[.bot, .bot, .bot, .ow 48, .bot, .bot, .bot, .bot, .ow 64, I ((y2.length : Int)), I t17, .bot, .bot, .bot, .bot, .bot, .bot, .bot, .bot, .bot, .bot, .bot, .bot, .bot, .bot, .bot, .bot, .bot, .bot, .bot, .bot, .bot, .bot], [(64, .arr 3 1 (y2.map c3)), (48, .arr 3 1 (l4.map c3))]⟩) ?_ ?_
          · refine XL_cons rfl (X_of_Y0 rfl (Y0_add64 (a := t3) (b := 1) rfl (by kernel_rfl) (by kernel_rfl))) ?_
            refine XL_cons rfl (X_of_Y0 rfl (E_move (I (w64 (t3 + 1))) rfl (by kernel_rfl))) ?_
            refine XL_nil ?_
            subst ht17
            kernel_rfl
          exact ⟨n, Nat.lt_succ_self n, _, _,  by rfl, h⟩
      · have h := of_false h hc7
        refine V_exit ?_
        obtain rfl := some_inj h
        show St.keep _ _ _ = _
        rfl
  show V _ _ _ _
  refine V_sreg [false, false, true, false, false, false, false, false, false, false, false, false, false, false, false, false, false, false, false, false, false, false, false, false, false, false, false, false, false, false, false, false, false] [48] (s1 := ⟨[.bot, .bot, .ow 48, .bot, .bot, .bot, .bot, .bot, .bot, .bot, .bot, .bot, .bot, .bot, .bot, .bot, .bot, .bot, .bot, .bot, .bot, .bot, .bot, .bot, .bot, .bot, .bot, .bot, .bot, .bot, .bot, .bot, .bot], [(48, .arr 3 1 (o6.map c3))]⟩) ?_ ?_
  · refine XL_cons rfl (X_of_Y0 rfl (E_move (.ow 48) rfl (by kernel_rfl))) ?_
    refine XL_cons rfl (X_of_Y0 rfl (E_assign (.ow 48) rfl (by kernel_rfl))) ?_
    refine XL_nil ?_
    kernel_rfl
  refine V_ret ?_
  obtain rfl := some_inj h
  show Post _ _ _ _ _
  exact ⟨.inr rfl, rfl, rfl, rfl⟩
theorem cf_impl_exponent : ∀ args w, (callFunc 79 args).run Tryd.prog w = .ok (.enter 79 args) w := run_callFunc Tryd.func79 (by kernel_rfl) (by kernel_rfl)
set_option maxRecDepth 100000 in
set_option maxHeartbeats 400000 in
theorem s_impl_exponent {vn1 : Int} {p2 : Int} {r : Int} (h : r_impl_exponent vn1 p2 = some r) : CallS Tryd.prog 79 [I vn1, I p2] (I r) [] := by
  refine CallS_of_text (rs := [.t 4]) (vs := [.tmp 4]) Tryd.func79 rfl rfl (.cons rfl FitsL.nil) (by decide) 16 rfl ?_
  unfold r_impl_exponent at h
  show V _ _ ⟨[I vn1, I p2, .bot, .bot, .bot, .bot, .bot, .bot, .bot, .bot, .bot, .bot, .bot, .bot, .bot, .bot], []⟩ _
  refine V_sreg [true, true, false, false, false, false, false, false, false, false, false, false, false, false, false, false] [] (s1 := ⟨[I vn1, I p2, .bot, .bot, .bot, .bot, .bot, .bot, .bot, .bot, .bot, .bot, .bot, .bot, .bot, .bot], []⟩) ?_ ?_
  · refine XL_cons rfl (X_of_Y0 rfl (E_assign (I 0) rfl (by kernel_rfl))) ?_
    refine XL_nil ?_
    kernel_rfl
  refine V_sreg [true, true, false, false, false, true, false, false, false, false, false, false, false, false, false, false] [] (s1 := ⟨[I vn1, I p2, .bot, .bot, .bot, I 0, .bot, .bot, .bot, .bot, .bot, .bot, .bot, .bot, .bot, .bot], []⟩) ?_ ?_
  · refine XL_cons rfl (X_of_Y0 rfl (E_assign (I 0) rfl (by kernel_rfl))) ?_
    refine XL_nil ?_
    kernel_rfl
  refine V_seq ?_
  obtain ⟨o6, hLo6, h⟩ := of_bind h
  refine V_toK [false, false, false, false, false, true, false, false, false, false, false, false, false, false, false, false] [] (s1 := ⟨[.bot, .bot, .bot, .bot, .bot, I o6, .bot, .bot, .bot, .bot, .bot, .bot, .bot, .bot, .bot, .bot], []⟩) ?_ ?_
  · clear h
    refine V_block (V_loop (fun n s => ∃ (vn3 : Int) (k4 : Int), s.keep [true, true, false, false, false, true, false, false, false, false, false, false, false, false, false, false] [] = (⟨[I vn3, I p2, .bot, .bot, .bot, I k4, .bot, .bot, .bot, .bot, .bot, .bot, .bot, .bot, .bot, .bot], []⟩ : St) ∧ r_impl_exponent_L5 p2 n vn3 k4 = some o6) FU ⟨_, _,  by rfl, hLo6⟩ ?_)
    clear hLo6
    rintro n s ⟨vn3, k4, hs, h⟩
    refine V_keep _ _ hs ?_
    clear hs
    cases n with
    | zero => cases h
    | succ n =>
      rw [r_impl_exponent_L5] at h
      refine V_seq ?_
      obtain ⟨z7, hz7, h⟩ := of_bind h
      refine V_sreg [true, true, false, false, false, true, false, false, false, true, false, false, false, false, false, false] [] (s1 := ⟨[I vn3, I p2, .bot, .bot, .bot, I k4, .bot, .bot, .bot, Bo (eqI (Int.tmod vn3 p2) 0), .bot, .bot, .bot, .bot, .bot, .bot], []⟩) ?_ ?_
      · refine XL_cons rfl (X_of_Y0 rfl (E_move (I vn3) rfl (by kernel_rfl))) ?_
        refine XL_cons rfl (X_of_Y0 rfl (E_move (I p2) rfl (by kernel_rfl))) ?_
        refine XL_cons rfl (X_of_Y0 rfl (Y0_rem (k := .i64) (a := vn3) (b := p2) rfl (by kernel_rfl) (by kernel_rfl) (nz_some hz7))) ?_
        refine XL_cons rfl (X_of_Y0 rfl (Y0_eqw (k := .i64) (a := Int.tmod vn3 p2) (b := 0) rfl (by kernel_rfl) (by kernel_rfl))) ?_
        refine XL_nil ?_
        kernel_rfl
      refine V_cond rfl (fun hc8 => ?_) (fun hc8 => ?_)
      · have h := of_true h hc8
        refine V_skip ?_
        show V _ _ _ _
        refine V_seq ?_
        refine V_block ?_
        obtain ⟨k9, hk9, h⟩ := of_sI h
        refine V_reg [true, true, false, false, false, true, false, false, false, false, false, false, false, false, false, false] [] (s1 := ⟨[I vn3, I p2, .bot, .bot, .bot, I k9, .bot, .bot, .bot, .bot, .bot, .bot, .bot, .bot, .bot, .bot], []⟩) ?_ ?_
        · refine XL_cons rfl (X_of_Y0 rfl (E_move (I k4) rfl (by kernel_rfl))) ?_
          refine XL_cons rfl (X_of_Y0 rfl (Y0_add64 (a := k4) (b := 1) rfl (by kernel_rfl) (by kernel_rfl))) ?_
          refine XL_cons rfl (X_of_Y0 rfl (E_assign (I (w64 (k4 + 1))) rfl (by kernel_rfl))) ?_
          refine XL_nil ?_
          subst hk9
          kernel_rfl
        show V _ _ _ _
        obtain ⟨z10, hz10, h⟩ := of_bind h
        obtain ⟨vn11, hvn11, h⟩ := of_sI h
        refine V_reg [true, true, false, false, false, true, false, false, false, false, false, false, false, false, false, false] [] (s1 := ⟨[I vn11, I p2, .bot, .bot, .bot, I k9, .bot, .bot, .bot, .bot, .bot, .bot, .bot, .bot, .bot, .bot], []⟩) ?_ ?_
        · refine XL_cons rfl (X_of_Y0 rfl (E_move (I vn3) rfl (by kernel_rfl))) ?_
          refine XL_cons rfl (X_of_Y0 rfl (E_move (I p2) rfl (by kernel_rfl))) ?_
          refine XL_cons rfl (X_of_Y0 rfl (Y0_quo64 (a := vn3) (b := p2) rfl (by kernel_rfl) (by kernel_rfl) (nz_some hz10))) ?_
          refine XL_cons rfl (X_of_Y0 rfl (E_assign (I (w64 (Int.tdiv vn3 p2))) rfl (by kernel_rfl))) ?_
          refine XL_nil ?_
          subst hvn11
          kernel_rfl
        exact ⟨n, Nat.lt_succ_self n, _, _,  by rfl, h⟩
      · have h := of_false h hc8
        refine V_exit ?_
        obtain rfl := some_inj h
        show St.keep _ _ _ = _
        rfl
  show V _ _ _ _
  refine V_sreg [false, false, false, false, true, false, false, false, false, false, false, false, false, false, false, false] [] (s1 := ⟨[.bot, .bot, .bot, .bot, I o6, .bot, .bot, .bot, .bot, .bot, .bot, .bot, .bot, .bot, .bot, .bot], []⟩) ?_ ?_
  · refine XL_cons rfl (X_of_Y0 rfl (E_move (I o6) rfl (by kernel_rfl))) ?_
    refine XL_cons rfl (X_of_Y0 rfl (E_assign (I o6) rfl (by kernel_rfl))) ?_
    refine XL_nil ?_
    kernel_rfl
  refine V_ret ?_
  obtain rfl := some_inj h
  show Post _ _ _ _ _
  exact ⟨.inr rfl, rfl, rfl, rfl⟩
theorem cf_impl_ForbiddingPrime : ∀ args w, (callFunc 42 args).run Tryd.prog w = .ok (.enter 42 args) w := run_callFunc Tryd.func42 (by kernel_rfl) (by kernel_rfl)
set_option maxRecDepth 100000 in
set_option maxHeartbeats 400000 in
theorem s_impl_ForbiddingPrime {d1 : Int} {vn2 : Int} {r : (Int × Bool)} (h : r_impl_ForbiddingPrime d1 vn2 = some r) : CallS Tryd.prog 42 [I d1, I vn2] (.tc (I r.1) (.tc (Bo r.2) .tn)) [] := by
  refine CallS_of_text (rs := [.t 4, .t 5]) (vs := [.tmp 4, .tmp 5]) Tryd.func42 rfl rfl (.cons rfl (.cons rfl FitsL.nil)) (by decide) 37 rfl ?_
  unfold r_impl_ForbiddingPrime at h
  show V _ _ ⟨[I d1, I vn2, .bot, .bot, .bot, .bot, .bot, .bot, .bot, .bot, .bot, .bot, .bot, .bot, .bot, .bot, .bot, .bot, .bot, .bot, .bot, .bot, .bot, .bot, .bot, .bot, .bot, .bot, .bot, .bot, .bot, .bot, .bot, .bot, .bot, .bot, .bot], []⟩ _
  refine V_sreg [true, true, false, false, false, false, false, false, false, false, false, false, false, false, false, false, false, false, false, false, false, false, false, false, false, false, false, false, false, false, false, false, false, false, false, false, false] [] (s1 := ⟨[I d1, I vn2, .bot, .bot, .bot, .bot, .bot, .bot, .bot, .bot, .bot, .bot, .bot, .bot, .bot, .bot, .bot, .bot, .bot, .bot, .bot, .bot, .bot, .bot, .bot, .bot, .bot, .bot, .bot, .bot, .bot, .bot, .bot, .bot, .bot, .bot, .bot], []⟩) ?_ ?_
  · refine XL_cons rfl (X_of_Y0 rfl (E_assign (I 0) rfl (by kernel_rfl))) ?_
    refine XL_cons rfl (X_of_Y0 rfl (E_assign (Bo false) rfl (by kernel_rfl))) ?_
    refine XL_nil ?_
    kernel_rfl
  refine V_seq ?_
  obtain ⟨y3, hy3, h⟩ := of_bind h
  obtain ⟨b6, hb6, h⟩ := of_bind h
  refine V_sreg [true, true, false, false, false, false, false, false, false, false, false, false, false, false, false, true, false, false, false, false, false, false, false, false, false, false, false, false, false, false, false, false, false, false, false, false, false] [] (s1 := ⟨[I d1, I vn2, .bot, .bot, .bot, .bot, .bot, .bot, .bot, .bot, .bot, .bot, .bot, .bot, .bot, Bo b6, .bot, .bot, .bot, .bot, .bot, .bot, .bot, .bot, .bot, .bot, .bot, .bot, .bot, .bot, .bot, .bot, .bot, .bot, .bot, .bot, .bot], []⟩) ?_ ?_
  · refine XL_cons rfl (X_of_Y0 rfl (E_move (I d1) rfl (by kernel_rfl))) ?_
    refine XL_cons rfl (X_of_Y1 rfl (Y1_call (s_impl_isNegativeDisc hy3) cf_impl_isNegativeDisc rfl (by kernel_rfl))) ?_
    refine XL_cons rfl (X_of_Y0 rfl (Y0_not (b := y3) rfl (by kernel_rfl))) ?_
    refine XL_cons rfl (X_of_Y0 rfl (E_move (Bo (!y3)) rfl (by kernel_rfl))) ?_
    refine XL_split (!y3) (fun hc4 => ?_) (fun hc4 => ?_)
    · have hb6 := some_inj (of_true hb6 hc4)
      refine XL_skipF (!y3) rfl rfl (by kernel_rfl) hc4 rfl ?_
      refine XL_skipF (!y3) rfl rfl (by kernel_rfl) hc4 rfl ?_
      refine XL_skipF (!y3) rfl rfl (by kernel_rfl) hc4 rfl ?_
      refine XL_cons rfl (X_of_Y0 rfl (Y0_pickTe (b := !y3) (p := true) rfl (by kernel_rfl) hc4 (by kernel_rfl) hb6)) ?_
      refine XL_nil ?_
      kernel_rfl
    · have hb6 := of_false hb6 hc4
      obtain ⟨y5, hy5, hb6⟩ := of_bind hb6
      have hb6 := some_inj hb6
      refine XL_takeC (!y3) rfl rfl (by kernel_rfl) hc4 (X_of_Y0 rfl (E_move (I vn2) rfl (by kernel_rfl))) ?_
      refine XL_takeC (!y3) rfl rfl (by kernel_rfl) hc4 (X_of_Y1 rfl (Y1_call (s_impl_isShown hy5) cf_impl_isShown rfl (by kernel_rfl))) ?_
      refine XL_takeC (!y3) rfl rfl (by kernel_rfl) hc4 (X_of_Y0 rfl (Y0_not (b := y5) rfl (by kernel_rfl))) ?_
      refine XL_cons rfl (X_of_Y0 rfl (Y0_pickFe (b := !y3) (p := !y5) rfl (by kernel_rfl) hc4 (by kernel_rfl) hb6)) ?_
      refine XL_nil ?_
      kernel_rfl
  refine V_cond rfl (fun hc7 => ?_) (fun hc7 => ?_)
  · have h := of_true h hc7
    refine V_sreg [false, false, false, false, true, true, false, false, false, false, false, false, false, false, false, false, false, false, false, false, false, false, false, false, false, false, false, false, false, false, false, false, false, false, false, false, false] [] (s1 := ⟨[.bot, .bot, .bot, .bot, I 0, Bo false, .bot, .bot, .bot, .bot, .bot, .bot, .bot, .bot, .bot, .bot, .bot, .bot, .bot, .bot, .bot, .bot, .bot, .bot, .bot, .bot, .bot, .bot, .bot, .bot, .bot, .bot, .bot, .bot, .bot, .bot, .bot], []⟩) ?_ ?_
    · refine XL_cons rfl (X_of_Y0 rfl (E_assign (I 0) rfl (by kernel_rfl))) ?_
      refine XL_cons rfl (X_of_Y0 rfl (E_assign (Bo false) rfl (by kernel_rfl))) ?_
      refine XL_nil ?_
      kernel_rfl
    refine V_ret ?_
    obtain rfl := some_inj h
    show Post _ _ _ _ _
    exact ⟨.inr rfl, rfl, rfl, rfl⟩
  · have h := of_false h hc7
    refine V_skip ?_
    show V _ _ _ _
    refine V_seq ?_
    obtain ⟨y8, hy8, h⟩ := of_bind h
    refine V_sreg [true, true, false, false, false, false, false, false, false, false, false, false, false, false, false, false, false, true, true, true, false, false, false, false, false, false, false, false, false, false, false, false, false, false, false, false, false] [136] (s1 := ⟨[I d1, I vn2, .bot, .bot, .bot, .bot, .bot, .bot, .bot, .bot, .bot, .bot, .bot, .bot, .bot, .bot, .bot, .ow 136, I ((y8.length : Int)), I 0, .bot, .bot, .bot, .bot, .bot, .bot, .bot, .bot, .bot, .bot, .bot, .bot, .bot, .bot, .bot, .bot, .bot], [(136, .arr 3 1 (y8.map c3))]⟩) ?_ ?_
    · refine XL_cons rfl (X_of_Y0 rfl (E_move (I vn2) rfl (by kernel_rfl))) ?_
      refine XL_cons rfl (X_of_Y1 rfl (Y1_call (s_impl_primesOf hy8) cf_impl_primesOf rfl (by kernel_rfl))) ?_
      refine XL_cons rfl (X_of_Y0 rfl (Y0_lenM (c := c3) (xs := y8) Tryd.underlying43 rfl (by kernel_rfl))) ?_
      refine XL_cons rfl (X_of_Y0 rfl (E_move (I 0) rfl (by kernel_rfl))) ?_
      refine XL_nil ?_
      kernel_rfl
    obtain ⟨qo11, hLo11, hko11⟩ := of_bind h
    refine V_toS (q := qo11) (S := fun o11 => ⟨[.bot, .bot, .bot, .bot, .bot, .bot, .bot, .bot, .bot, .bot, .bot, .bot, .bot, .bot, .bot, .bot, .bot, .bot, .bot, .bot, .bot, .bot, .bot, .bot, .bot, .bot, .bot, .bot, .bot, .bot, .bot, .bot, .bot, .bot, .bot, .bot, .bot], []⟩) [false, false, false, false, false, false, false, false, false, false, false, false, false, false, false, false, false, false, false, false, false, false, false, false, false, false, false, false, false, false, false, false, false, false, false, false, false] [] ?_ ?_
    · refine V_block (V_loop (fun n s => ∃ (t9 : Int), s.keep [true, true, false, false, false, false, false, false, false, false, false, false, false, false, false, false, false, true, true, true, false, false, false, false, false, false, false, false, false, false, false, false, false, false, false, false, false] [136] = (⟨[I d1, I vn2, .bot, .bot, .bot, .bot, .bot, .bot, .bot, .bot, .bot, .bot, .bot, .bot, .bot, .bot, .bot, .ow 136, I ((y8.length : Int)), I t9, .bot, .bot, .bot, .bot, .bot, .bot, .bot, .bot, .bot, .bot, .bot, .bot, .bot, .bot, .bot, .bot, .bot], [(136, .arr 3 1 (y8.map c3))]⟩ : St) ∧ r_impl_ForbiddingPrime_L10 d1 vn2 y8 n t9 = some qo11) FU ⟨_,  by rfl, hLo11⟩ ?_)
      clear hLo11
      rintro n s ⟨t9, hs, h⟩
      refine V_keep _ _ hs ?_
      clear hs
      cases n with
      | zero => cases h
      | succ n =>
        rw [r_impl_ForbiddingPrime_L10] at h
        refine V_sreg [true, true, false, false, false, false, false, false, false, false, false, false, false, false, false, false, false, true, true, true, true, false, false, false, false, false, false, false, false, false, false, false, false, false, false, false, false] [136] (s1 := ⟨[I d1, I vn2, .bot, .bot, .bot, .bot, .bot, .bot, .bot, .bot, .bot, .bot, .bot, .bot, .bot, .bot, .bot, .ow 136, I ((y8.length : Int)), I t9, Bo (ltI t9 ((y8.length : Int))), .bot, .bot, .bot, .bot, .bot, .bot, .bot, .bot, .bot, .bot, .bot, .bot, .bot, .bot, .bot, .bot], [(136, .arr 3 1 (y8.map c3))]⟩) ?_ ?_
        · refine XL_cons rfl (X_of_Y0 rfl (Y0_ltw (k := .i64) (a := t9) (b := (y8.length : Int)) rfl (by kernel_rfl) (by kernel_rfl))) ?_
          refine XL_nil ?_
          kernel_rfl
        refine V_seq ?_
        refine V_cond rfl (fun hc12 => ?_) (fun hc12 => ?_)
        · have h := of_true h hc12
          refine V_skip ?_
          show V _ _ _ _
          refine V_seq ?_
          refine V_block ?_
          obtain ⟨e13, he13, h⟩ := of_bind h
          obtain ⟨e14, he14, h⟩ := of_bind h
          refine V_sreg [true, true, false, false, false, false, false, true, false, false, false, false, false, false, false, false, false, true, true, true, false, false, false, false, false, false, false, false, false, false, false, false, false, false, false, false, false] [136] (s1 := ⟨[I d1, I vn2, .bot, .bot, .bot, .bot, .bot, I e14, .bot, .bot, .bot, .bot, .bot, .bot, .bot, .bot, .bot, .ow 136, I ((y8.length : Int)), I t9, .bot, .bot, .bot, .bot, .bot, .bot, .bot, .bot, .bot, .bot, .bot, .bot, .bot, .bot, .bot, .bot, .bot], [(136, .arr 3 1 (y8.map c3))]⟩) ?_ ?_
          · refine XL_cons rfl (X_of_Y0 rfl (Y0_idxoM (c := c3) (xs := y8) (v := e13) (id := 136) (T := 3) (sz := 1) (n := t9) Tryd.underlying43 sz3 rfl (by kernel_rfl) (by kernel_rfl) (by kernel_rfl) he13)) ?_
            refine XL_cons rfl (X_of_Y0 rfl (Y0_loado1 (c := c3) (xs := y8) (v := e14) (id := 136) (sz := 1) (T := 3) (off := 0) (n := t9) (d := Ti e14) (ds := []) sc3 rfl (by kernel_rfl) (by kernel_rfl) he14 (by kernel_rfl))) ?_
            refine XL_cons rfl (X_of_Y0 rfl (E_assign (I e14) rfl (by kernel_rfl))) ?_
            refine XL_nil ?_
            kernel_rfl
          obtain ⟨y15, hy15, h⟩ := of_bind h
          obtain ⟨b18, hb18, h⟩ := of_bind h
          refine V_sreg [true, true, false, false, false, false, false, true, false, false, false, false, false, false, false, false, false, true, true, true, false, false, false, false, false, false, false, false, false, false, false, false, false, false, true, false, false] [136] (s1 := ⟨[I d1, I vn2, .bot, .bot, .bot, .bot, .bot, I e14, .bot, .bot, .bot, .bot, .bot, .bot, .bot, .bot, .bot, .ow 136, I ((y8.length : Int)), I t9, .bot, .bot, .bot, .bot, .bot, .bot, .bot, .bot, .bot, .bot, .bot, .bot, .bot, .bot, Bo b18, .bot, .bot], [(136, .arr 3 1 (y8.map c3))]⟩) ?_ ?_
          · refine XL_cons rfl (X_of_Y0 rfl (E_move (I vn2) rfl (by kernel_rfl))) ?_
            refine XL_cons rfl (X_of_Y0 rfl (E_move (I e14) rfl (by kernel_rfl))) ?_
            refine XL_cons rfl (X_of_Y1 rfl (Y1_call (s_impl_exponent hy15) cf_impl_exponent rfl (by kernel_rfl))) ?_
            refine XL_cons rfl (X_of_Y0 rfl (Y0_rem (k := .i64) (a := y15) (b := 2) rfl (by kernel_rfl) (by kernel_rfl) (by decide))) ?_
            refine XL_cons rfl (X_of_Y0 rfl (Y0_eqw (k := .i64) (a := Int.tmod y15 2) (b := 1) rfl (by kernel_rfl) (by kernel_rfl))) ?_
            refine XL_cons rfl (X_of_Y0 rfl (E_move (Bo (eqI (Int.tmod y15 2) 1)) rfl (by kernel_rfl))) ?_
            refine XL_split (eqI (Int.tmod y15 2) 1) (fun hc16 => ?_) (fun hc16 => ?_)
            · have hb18 := of_true hb18 hc16
              obtain ⟨y17, hy17, hb18⟩ := of_bind hb18
              have hb18 := some_inj hb18
              refine XL_takeC (eqI (Int.tmod y15 2) 1) rfl rfl (by kernel_rfl) hc16 (X_of_Y0 rfl (E_move (I d1) rfl (by kernel_rfl))) ?_
              refine XL_takeC (eqI (Int.tmod y15 2) 1) rfl rfl (by kernel_rfl) hc16 (X_of_Y0 rfl (E_move (I e14) rfl (by kernel_rfl))) ?_
              refine XL_takeC (eqI (Int.tmod y15 2) 1) rfl rfl (by kernel_rfl) hc16 (X_of_Y1 rfl (Y1_call (s_impl_rootsOfDiscriminant hy17) cf_impl_rootsOfDiscriminant rfl (by kernel_rfl))) ?_
              refine XL_takeC (eqI (Int.tmod y15 2) 1) rfl rfl (by kernel_rfl) hc16 (X_of_Y0 rfl (Y0_lenM (c := c3) (xs := y17) Tryd.underlying43 rfl (by kernel_rfl))) ?_
              refine XL_takeC (eqI (Int.tmod y15 2) 1) rfl rfl (by kernel_rfl) hc16 (X_of_Y0 rfl (Y0_eqw (k := .i64) (a := (y17.length : Int)) (b := 0) rfl (by kernel_rfl) (by kernel_rfl))) ?_
              refine XL_cons rfl (X_of_Y0 rfl (Y0_pickTe (b := eqI (Int.tmod y15 2) 1) (p := eqI ((y17.length : Int)) 0) rfl (by kernel_rfl) hc16 (by kernel_rfl) hb18)) ?_
              refine XL_nil ?_
              kernel_rfl
            · have hb18 := some_inj (of_false hb18 hc16)
              refine XL_skipT (eqI (Int.tmod y15 2) 1) rfl rfl (by kernel_rfl) hc16 rfl ?_
              refine XL_skipT (eqI (Int.tmod y15 2) 1) rfl rfl (by kernel_rfl) hc16 rfl ?_
              refine XL_skipT (eqI (Int.tmod y15 2) 1) rfl rfl (by kernel_rfl) hc16 rfl ?_
              refine XL_skipT (eqI (Int.tmod y15 2) 1) rfl rfl (by kernel_rfl) hc16 rfl ?_
              refine XL_skipT (eqI (Int.tmod y15 2) 1) rfl rfl (by kernel_rfl) hc16 rfl ?_
              refine XL_cons rfl (X_of_Y0 rfl (Y0_pickFe (b := eqI (Int.tmod y15 2) 1) (p := false) rfl (by kernel_rfl) hc16 (by kernel_rfl) hb18)) ?_
              refine XL_nil ?_
              kernel_rfl
          refine V_cond rfl (fun hc19 => ?_) (fun hc19 => ?_)
          · have h := of_true h hc19
            refine V_sreg [false, false, false, false, true, true, false, false, false, false, false, false, false, false, false, false, false, false, false, false, false, false, false, false, false, false, false, false, false, false, false, false, false, false, false, false, false] [] (s1 := ⟨[.bot, .bot, .bot, .bot, I e14, Bo true, .bot, .bot, .bot, .bot, .bot, .bot, .bot, .bot, .bot, .bot, .bot, .bot, .bot, .bot, .bot, .bot, .bot, .bot, .bot, .bot, .bot, .bot, .bot, .bot, .bot, .bot, .bot, .bot, .bot, .bot, .bot], []⟩) ?_ ?_
            · refine XL_cons rfl (X_of_Y0 rfl (E_move (I e14) rfl (by kernel_rfl))) ?_
              refine XL_cons rfl (X_of_Y0 rfl (E_assign (I e14) rfl (by kernel_rfl))) ?_
              refine XL_cons rfl (X_of_Y0 rfl (E_assign (Bo true) rfl (by kernel_rfl))) ?_
              refine XL_nil ?_
              kernel_rfl
            refine V_ret ?_
            obtain rfl := some_inj h
            have h := hko11
            obtain rfl := some_inj h
            show Post _ _ _ _ _
            exact ⟨.inr rfl, rfl, rfl, rfl⟩
          · have h := of_false h hc19
            refine V_skip ?_
            show V _ _ _ _
            obtain ⟨t20, ht20, h⟩ := of_sI h
            refine V_reg [true, true, false, false, false, false, false, false, false, false, false, false, false, false, false, false, false, true, true, true, false, false, false, false, false, false, false, false, false, false, false, false, false, false, false, false, false] [136] (s1 := ⟨[I d1, I vn2, .bot, .bot, .bot, .bot, .bot, .bot, .bot, .bot, .bot, .bot, .bot, .bot, .bot, .bot, .bot, .ow 136, I ((y8.length : Int)), I t20, .bot, .bot, .bot, .bot, .bot, .bot, .bot, .bot, .bot, .bot, .bot, .bot, .bot, .bot, .bot, .bot, .bot], [(136, .arr 3 1 (y8.map c3))]⟩) ?_ ?_
            · refine XL_cons rfl (X_of_Y0 rfl (Y0_add64 (a := t9) (b := 1) rfl (by kernel_rfl) (by kernel_rfl))) ?_
              refine XL_cons rfl (X_of_Y0 rfl (E_move (I (w64 (t9 + 1))) rfl (by kernel_rfl))) ?_
              refine XL_nil ?_
              subst ht20
              kernel_rfl
            exact ⟨n, Nat.lt_succ_self n, _,  by rfl, h⟩
        · have h := of_false h hc12
          refine V_exit ?_
          obtain rfl := some_inj h
          exact ⟨_, rfl, by rfl⟩
    rintro o11 rfl
    have h := hko11
    clear hko11
    show V _ _ _ _
    refine V_sreg [false, false, false, false, true, true, false, false, false, false, false, false, false, false, false, false, false, false, false, false, false, false, false, false, false, false, false, false, false, false, false, false, false, false, false, false, false] [] (s1 := ⟨[.bot, .bot, .bot, .bot, I 0, Bo false, .bot, .bot, .bot, .bot, .bot, .bot, .bot, .bot, .bot, .bot, .bot, .bot, .bot, .bot, .bot, .bot, .bot, .bot, .bot, .bot, .bot, .bot, .bot, .bot, .bot, .bot, .bot, .bot, .bot, .bot, .bot], []⟩) ?_ ?_
    · refine XL_cons rfl (X_of_Y0 rfl (E_assign (I 0) rfl (by kernel_rfl))) ?_
      refine XL_cons rfl (X_of_Y0 rfl (E_assign (Bo false) rfl (by kernel_rfl))) ?_
      refine XL_nil ?_
      kernel_rfl
    refine V_ret ?_
    obtain rfl := some_inj h
    show Post _ _ _ _ _
    exact ⟨.inr rfl, rfl, rfl, rfl⟩
theorem cf_impl_ObstructionCertificate : ∀ args w, (callFunc 18 args).run Tryd.prog w = .ok (.enter 18 args) w := run_callFunc Tryd.func18 (by kernel_rfl) (by kernel_rfl)
set_option maxRecDepth 100000 in
set_option maxHeartbeats 400000 in
theorem s_impl_ObstructionCertificate {d1 : Int} {vn2 : Int} {r : (ByteArray × Bool)} (h : r_impl_ObstructionCertificate d1 vn2 = some r) : CallS Tryd.prog 18 [I d1, I vn2] (.tc (.c (.v (.string r.1))) (.tc (Bo r.2) .tn)) [] := by
  refine CallS_of_text (rs := [.t 4, .t 5]) (vs := [.tmp 4, .tmp 5]) Tryd.func18 rfl rfl (.cons rfl (.cons rfl FitsL.nil)) (by decide) 28 rfl ?_
  unfold r_impl_ObstructionCertificate at h
  show V _ _ ⟨[I d1, I vn2, .bot, .bot, .bot, .bot, .bot, .bot, .bot, .bot, .bot, .bot, .bot, .bot, .bot, .bot, .bot, .bot, .bot, .bot, .bot, .bot, .bot, .bot, .bot, .bot, .bot, .bot], []⟩ _
  refine V_sreg [true, true, false, false, false, false, false, false, false, false, false, false, false, false, false, false, false, false, false, false, false, false, false, false, false, false, false, false] [] (s1 := ⟨[I d1, I vn2, .bot, .bot, .bot, .bot, .bot, .bot, .bot, .bot, .bot, .bot, .bot, .bot, .bot, .bot, .bot, .bot, .bot, .bot, .bot, .bot, .bot, .bot, .bot, .bot, .bot, .bot], []⟩) ?_ ?_
  · refine XL_cons rfl (X_of_Y0 rfl (E_assign (.c (.v (.string ((⟨#[]⟩ : ByteArray))))) rfl (by kernel_rfl))) ?_
    refine XL_cons rfl (X_of_Y0 rfl (E_assign (Bo false) rfl (by kernel_rfl))) ?_
    refine XL_nil ?_
    kernel_rfl
  obtain ⟨y3, hy3, h⟩ := of_bind h
  refine V_sreg [true, true, false, false, false, false, true, true, false, false, false, false, false, false, false, false, false, false, false, false, false, false, false, false, false, false, false, false] [] (s1 := ⟨[I d1, I vn2, .bot, .bot, .bot, .bot, I y3.1, Bo y3.2, .bot, .bot, .bot, .bot, .bot, .bot, .bot, .bot, .bot, .bot, .bot, .bot, .bot, .bot, .bot, .bot, .bot, .bot, .bot, .bot], []⟩) ?_ ?_
  · refine XL_cons rfl (X_of_Y0 rfl (E_move (I d1) rfl (by kernel_rfl))) ?_
    refine XL_cons rfl (X_of_Y0 rfl (E_move (I vn2) rfl (by kernel_rfl))) ?_
    refine XL_cons rfl (X_of_Y1 rfl (Y1_call (s_impl_ForbiddingPrime hy3) cf_impl_ForbiddingPrime rfl (by kernel_rfl))) ?_
    refine XL_cons rfl (X_of_Y0 rfl (E_move (.tc (I y3.1) (.tc (Bo y3.2) .tn)) rfl (by kernel_rfl))) ?_
    refine XL_cons rfl (X_of_Y0 rfl (E_ext (n := 0) (I y3.1) (.tc (Bo y3.2) .tn) (I y3.1) rfl (by kernel_rfl) (by kernel_rfl) (by intro hh; cases hh))) ?_
    refine XL_cons rfl (X_of_Y0 rfl (E_ext (n := 1) (I y3.1) (.tc (Bo y3.2) .tn) (Bo y3.2) rfl (by kernel_rfl) (by kernel_rfl) (by intro hh; cases hh))) ?_
    refine XL_cons rfl (X_of_Y0 rfl (E_assign (I y3.1) rfl (by kernel_rfl))) ?_
    refine XL_cons rfl (X_of_Y0 rfl (E_assign (Bo y3.2) rfl (by kernel_rfl))) ?_
    refine XL_nil ?_
    kernel_rfl
  refine V_seq ?_
  refine V_sreg [true, true, false, false, false, false, true, false, false, false, false, false, false, false, false, false, false, false, false, true, false, false, false, false, false, false, false, false] [] (s1 := ⟨[I d1, I vn2, .bot, .bot, .bot, .bot, I y3.1, .bot, .bot, .bot, .bot, .bot, .bot, .bot, .bot, .bot, .bot, .bot, .bot, Bo (bif (!y3.2) then true else (ltI 2500 y3.1)), .bot, .bot, .bot, .bot, .bot, .bot, .bot, .bot], []⟩) ?_ ?_
  · refine XL_cons rfl (X_of_Y0 rfl (E_move (Bo y3.2) rfl (by kernel_rfl))) ?_
    refine XL_cons rfl (X_of_Y0 rfl (Y0_not (b := y3.2) rfl (by kernel_rfl))) ?_
    refine XL_cons rfl (X_of_Y0 rfl (E_move (Bo (!y3.2)) rfl (by kernel_rfl))) ?_
    refine XL_split (!y3.2) (fun hc4 => ?_) (fun hc4 => ?_)
    · refine XL_skipF (!y3.2) rfl rfl (by kernel_rfl) hc4 rfl ?_
      refine XL_skipF (!y3.2) rfl rfl (by kernel_rfl) hc4 rfl ?_
      refine XL_cons rfl (X_of_Y0 rfl (Y0_pick1 (b := !y3.2) (p := true) (q := ltI 2500 y3.1) rfl (by kernel_rfl) hc4 (by kernel_rfl))) ?_
      refine XL_nil ?_
      kernel_rfl
    · refine XL_takeC (!y3.2) rfl rfl (by kernel_rfl) hc4 (X_of_Y0 rfl (E_move (I y3.1) rfl (by kernel_rfl))) ?_
      refine XL_takeC (!y3.2) rfl rfl (by kernel_rfl) hc4 (X_of_Y0 rfl (Y0_gtw (k := .i64) (a := y3.1) (b := 2500) rfl (by kernel_rfl) (by kernel_rfl))) ?_
      refine XL_cons rfl (X_of_Y0 rfl (Y0_pick0 (b := !y3.2) (p := true) (q := ltI 2500 y3.1) rfl (by kernel_rfl) hc4 (by kernel_rfl))) ?_
      refine XL_nil ?_
      kernel_rfl
  refine V_cond rfl (fun hc5 => ?_) (fun hc5 => ?_)
  · have h := of_true h hc5
    refine V_sreg [false, false, false, false, true, true, false, false, false, false, false, false, false, false, false, false, false, false, false, false, false, false, false, false, false, false, false, false] [] (s1 := ⟨[.bot, .bot, .bot, .bot, .c (.v (.string ((⟨#[]⟩ : ByteArray)))), Bo false, .bot, .bot, .bot, .bot, .bot, .bot, .bot, .bot, .bot, .bot, .bot, .bot, .bot, .bot, .bot, .bot, .bot, .bot, .bot, .bot, .bot, .bot], []⟩) ?_ ?_
    · refine XL_cons rfl (X_of_Y0 rfl (E_assign (.c (.v (.string ((⟨#[]⟩ : ByteArray))))) rfl (by kernel_rfl))) ?_
      refine XL_cons rfl (X_of_Y0 rfl (E_assign (Bo false) rfl (by kernel_rfl))) ?_
      refine XL_nil ?_
      kernel_rfl
    refine V_ret ?_
    obtain rfl := some_inj h
    show Post _ _ _ _ _
    exact ⟨.inr rfl, rfl, rfl, rfl⟩
  · have h := of_false h hc5
    refine V_skip ?_
    show V _ _ _ _
    obtain ⟨y6, hy6, h⟩ := of_bind h
    obtain ⟨y7, hy7, h⟩ := of_bind h
    obtain ⟨y8, hy8, h⟩ := of_bind h
    obtain ⟨y9, hy9, h⟩ := of_bind h
    refine V_sreg [false, false, false, false, true, true, false, false, false, false, false, false, false, false, false, false, false, false, false, false, false, false, false, false, false, false, false, false] [] (s1 := ⟨[.bot, .bot, .bot, .bot, .c (.v (.string y9)), Bo true, .bot, .bot, .bot, .bot, .bot, .bot, .bot, .bot, .bot, .bot, .bot, .bot, .bot, .bot, .bot, .bot, .bot, .bot, .bot, .bot, .bot, .bot], []⟩) ?_ ?_
    · refine XL_cons rfl (X_of_Y0 rfl (E_move (I d1) rfl (by kernel_rfl))) ?_
      refine XL_cons rfl (X_of_Y1 rfl (Y1_call (s_strconv_Itoa hy6) cf_strconv_Itoa rfl (by kernel_rfl))) ?_
      refine XL_cons rfl (X_of_Y0 rfl (E_move (I vn2) rfl (by kernel_rfl))) ?_
      refine XL_cons rfl (X_of_Y1 rfl (Y1_call (s_strconv_Itoa hy7) cf_strconv_Itoa rfl (by kernel_rfl))) ?_
      refine XL_cons rfl (X_of_Y0 rfl (E_move (I y3.1) rfl (by kernel_rfl))) ?_
      refine XL_cons rfl (X_of_Y1 rfl (Y1_call (s_strconv_Itoa hy8) cf_strconv_Itoa rfl (by kernel_rfl))) ?_
      refine XL_cons rfl (X_of_Y1 rfl (Y1_bslice (z := zv9) (els := [y6, y7, y8].map c9) Tryd.underlying22 iz9 rfl (by decide) rfl (by kernel_rfl) rfl (by simp [c9]) (by decide) (by decide))) ?_
      refine XL_cons rfl (X_of_Y1 rfl (Y1_callS (s_impl_certificate hy9) cf_impl_certificate rfl (by kernel_rfl) rfl rfl)) ?_
      refine XL_cons rfl (X_of_Y0 rfl (E_assign (.c (.v (.string y9))) rfl (by kernel_rfl))) ?_
      refine XL_cons rfl (X_of_Y0 rfl (E_assign (Bo true) rfl (by kernel_rfl))) ?_
      refine XL_nil ?_
      kernel_rfl
    refine V_ret ?_
    obtain rfl := some_inj h
    show Post _ _ _ _ _
    exact ⟨.inr rfl, rfl, rfl, rfl⟩
theorem cf_laws_FnExactObstructionCertificate : ∀ args w, (callFunc 4 args).run Tryd.prog w = .ok (.enter 4 args) w := run_callFunc Tryd.func4 (by kernel_rfl) (by kernel_rfl)
set_option maxRecDepth 100000 in
set_option maxHeartbeats 400000 in
theorem s_laws_FnExactObstructionCertificate {aD1 : Int} {aN2 : Int} {r : Bool} (h : r_laws_FnExactObstructionCertificate aD1 aN2 = some r) : CallS Tryd.prog 4 [I aD1, I aN2] (Bo r) [] := by
  refine CallS_of_text (rs := [.t 4]) (vs := [.tmp 4]) Tryd.func4 rfl rfl (.cons rfl FitsL.nil) (by decide) 29 rfl ?_
  unfold r_laws_FnExactObstructionCertificate at h
  show V _ _ ⟨[I aD1, I aN2, .bot, .bot, .bot, .bot, .bot, .bot, .bot, .bot, .bot, .bot, .bot, .bot, .bot, .bot, .bot, .bot, .bot, .bot, .bot, .bot, .bot, .bot, .bot, .bot, .bot, .bot, .bot], []⟩ _
  refine V_sreg [true, true, false, false, false, false, false, false, false, false, false, false, false, false, false, false, false, false, false, false, false, false, false, false, false, false, false, false, false] [] (s1 := ⟨[I aD1, I aN2, .bot, .bot, .bot, .bot, .bot, .bot, .bot, .bot, .bot, .bot, .bot, .bot, .bot, .bot, .bot, .bot, .bot, .bot, .bot, .bot, .bot, .bot, .bot, .bot, .bot, .bot, .bot], []⟩) ?_ ?_
  · refine XL_cons rfl (X_of_Y0 rfl (E_assign (Bo false) rfl (by kernel_rfl))) ?_
    refine XL_nil ?_
    kernel_rfl
  obtain ⟨y3, hy3, h⟩ := of_bind h
  refine V_sreg [true, true, false, false, false, true, true, false, false, false, false, false, false, false, false, false, false, false, false, false, false, false, false, false, false, false, false, false, false] [] (s1 := ⟨[I aD1, I aN2, .bot, .bot, .bot, .c (.v (.string y3.1)), Bo y3.2, .bot, .bot, .bot, .bot, .bot, .bot, .bot, .bot, .bot, .bot, .bot, .bot, .bot, .bot, .bot, .bot, .bot, .bot, .bot, .bot, .bot, .bot], []⟩) ?_ ?_
  · refine XL_cons rfl (X_of_Y0 rfl (E_move (I aD1) rfl (by kernel_rfl))) ?_
    refine XL_cons rfl (X_of_Y0 rfl (E_move (I aN2) rfl (by kernel_rfl))) ?_
    refine XL_cons rfl (X_of_Y1 rfl (Y1_call (s_spec_ObstructionCertificate hy3) cf_spec_ObstructionCertificate rfl (by kernel_rfl))) ?_
    refine XL_cons rfl (X_of_Y0 rfl (E_move (.tc (.c (.v (.string y3.1))) (.tc (Bo y3.2) .tn)) rfl (by kernel_rfl))) ?_
    refine XL_cons rfl (X_of_Y0 rfl (E_ext (n := 0) (.c (.v (.string y3.1))) (.tc (Bo y3.2) .tn) (.c (.v (.string y3.1))) rfl (by kernel_rfl) (by kernel_rfl) (by intro hh; cases hh))) ?_
    refine XL_cons rfl (X_of_Y0 rfl (E_ext (n := 1) (.c (.v (.string y3.1))) (.tc (Bo y3.2) .tn) (Bo y3.2) rfl (by kernel_rfl) (by kernel_rfl) (by intro hh; cases hh))) ?_
    refine XL_cons rfl (X_of_Y0 rfl (E_assign (.c (.v (.string y3.1))) rfl (by kernel_rfl))) ?_
    refine XL_cons rfl (X_of_Y0 rfl (E_assign (Bo y3.2) rfl (by kernel_rfl))) ?_
    refine XL_nil ?_
    kernel_rfl
  obtain ⟨y4, hy4, h⟩ := of_bind h
  refine V_sreg [false, false, false, false, false, true, true, true, true, false, false, false, false, false, false, false, false, false, false, false, false, false, false, false, false, false, false, false, false] [] (s1 := ⟨[.bot, .bot, .bot, .bot, .bot, .c (.v (.string y3.1)), Bo y3.2, .c (.v (.string y4.1)), Bo y4.2, .bot, .bot, .bot, .bot, .bot, .bot, .bot, .bot, .bot, .bot, .bot, .bot, .bot, .bot, .bot, .bot, .bot, .bot, .bot, .bot], []⟩) ?_ ?_
  · refine XL_cons rfl (X_of_Y0 rfl (E_move (I aD1) rfl (by kernel_rfl))) ?_
    refine XL_cons rfl (X_of_Y0 rfl (E_move (I aN2) rfl (by kernel_rfl))) ?_
    refine XL_cons rfl (X_of_Y1 rfl (Y1_call (s_impl_ObstructionCertificate hy4) cf_impl_ObstructionCertificate rfl (by kernel_rfl))) ?_
    refine XL_cons rfl (X_of_Y0 rfl (E_move (.tc (.c (.v (.string y4.1))) (.tc (Bo y4.2) .tn)) rfl (by kernel_rfl))) ?_
    refine XL_cons rfl (X_of_Y0 rfl (E_ext (n := 0) (.c (.v (.string y4.1))) (.tc (Bo y4.2) .tn) (.c (.v (.string y4.1))) rfl (by kernel_rfl) (by kernel_rfl) (by intro hh; cases hh))) ?_
    refine XL_cons rfl (X_of_Y0 rfl (E_ext (n := 1) (.c (.v (.string y4.1))) (.tc (Bo y4.2) .tn) (Bo y4.2) rfl (by kernel_rfl) (by kernel_rfl) (by intro hh; cases hh))) ?_
    refine XL_cons rfl (X_of_Y0 rfl (E_assign (.c (.v (.string y4.1))) rfl (by kernel_rfl))) ?_
    refine XL_cons rfl (X_of_Y0 rfl (E_assign (Bo y4.2) rfl (by kernel_rfl))) ?_
    refine XL_nil ?_
    kernel_rfl
  refine V_seq ?_
  obtain ⟨t6, ht6, h⟩ := of_bind h
  have ht6 := some_inj ht6
  refine V_sreg [false, false, false, false, false, false, false, false, false, false, false, false, false, false, false, false, false, false, false, false, false, false, false, false, false, false, false, false, true] [] (s1 := ⟨[.bot, .bot, .bot, .bot, .bot, .bot, .bot, .bot, .bot, .bot, .bot, .bot, .bot, .bot, .bot, .bot, .bot, .bot, .bot, .bot, .bot, .bot, .bot, .bot, .bot, .bot, .bot, .bot, Bo t6], []⟩) ?_ ?_
  · refine XL_cons rfl (X_of_Y0 rfl (E_move (.c (.v (.string y4.1))) rfl (by kernel_rfl))) ?_
    refine XL_cons rfl (X_of_Y0 rfl (E_move (.c (.v (.string y3.1))) rfl (by kernel_rfl))) ?_
    refine XL_cons rfl (X_of_Y0 rfl (Y0_nes (a := y4.1) (b := y3.1) rfl (by kernel_rfl) (by kernel_rfl))) ?_
    refine XL_cons rfl (X_of_Y0 rfl (E_move (Bo (!(y4.1.toList == y3.1.toList))) rfl (by kernel_rfl))) ?_
    refine XL_split (!(y4.1.toList == y3.1.toList)) (fun hc5 => ?_) (fun hc5 => ?_)
    · refine XL_skipF (!(y4.1.toList == y3.1.toList)) rfl rfl (by kernel_rfl) hc5 rfl ?_
      refine XL_skipF (!(y4.1.toList == y3.1.toList)) rfl rfl (by kernel_rfl) hc5 rfl ?_
      refine XL_skipF (!(y4.1.toList == y3.1.toList)) rfl rfl (by kernel_rfl) hc5 rfl ?_
      refine XL_cons rfl (X_of_Y0 rfl (Y0_pick1 (b := !(y4.1.toList == y3.1.toList)) (p := true) (q := y4.2 != y3.2) rfl (by kernel_rfl) hc5 (by kernel_rfl))) ?_
      refine XL_nil ?_
      subst ht6
      kernel_rfl
    · refine XL_takeC (!(y4.1.toList == y3.1.toList)) rfl rfl (by kernel_rfl) hc5 (X_of_Y0 rfl (E_move (Bo y4.2) rfl (by kernel_rfl))) ?_
      refine XL_takeC (!(y4.1.toList == y3.1.toList)) rfl rfl (by kernel_rfl) hc5 (X_of_Y0 rfl (E_move (Bo y3.2) rfl (by kernel_rfl))) ?_
      refine XL_takeC (!(y4.1.toList == y3.1.toList)) rfl rfl (by kernel_rfl) hc5 (X_of_Y0 rfl (Y0_neb (a := y4.2) (b := y3.2) Tryd.underlying4 rfl (by kernel_rfl) (by kernel_rfl))) ?_
      refine XL_cons rfl (X_of_Y0 rfl (Y0_pick0 (b := !(y4.1.toList == y3.1.toList)) (p := true) (q := y4.2 != y3.2) rfl (by kernel_rfl) hc5 (by kernel_rfl))) ?_
      refine XL_nil ?_
      subst ht6
      kernel_rfl
  refine V_cond rfl (fun hc7 => ?_) (fun hc7 => ?_)
  · have h := of_true h hc7
    refine V_sreg [false, false, false, false, true, false, false, false, false, false, false, false, false, false, false, false, false, false, false, false, false, false, false, false, false, false, false, false, false] [] (s1 := ⟨[.bot, .bot, .bot, .bot, Bo false, .bot, .bot, .bot, .bot, .bot, .bot, .bot, .bot, .bot, .bot, .bot, .bot, .bot, .bot, .bot, .bot, .bot, .bot, .bot, .bot, .bot, .bot, .bot, .bot], []⟩) ?_ ?_
    · refine XL_cons rfl (X_of_Y0 rfl (E_assign (Bo false) rfl (by kernel_rfl))) ?_
      refine XL_nil ?_
      kernel_rfl
    refine V_ret ?_
    obtain rfl := some_inj h
    show Post _ _ _ _ _
    exact ⟨.inr rfl, rfl, rfl, rfl⟩
  · have h := of_false h hc7
    refine V_skip ?_
    show V _ _ _ _
    refine V_sreg [false, false, false, false, true, false, false, false, false, false, false, false, false, false, false, false, false, false, false, false, false, false, false, false, false, false, false, false, false] [] (s1 := ⟨[.bot, .bot, .bot, .bot, Bo true, .bot, .bot, .bot, .bot, .bot, .bot, .bot, .bot, .bot, .bot, .bot, .bot, .bot, .bot, .bot, .bot, .bot, .bot, .bot, .bot, .bot, .bot, .bot, .bot], []⟩) ?_ ?_
    · refine XL_cons rfl (X_of_Y0 rfl (E_assign (Bo true) rfl (by kernel_rfl))) ?_
      refine XL_nil ?_
      kernel_rfl
    refine V_ret ?_
    obtain rfl := some_inj h
    show Post _ _ _ _ _
    exact ⟨.inr rfl, rfl, rfl, rfl⟩
end Go.Proofs.YtmpnloechnfkjaaDoor
