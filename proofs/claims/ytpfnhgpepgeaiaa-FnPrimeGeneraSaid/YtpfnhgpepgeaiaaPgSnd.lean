/-
  The functions of the program compute what the plain functions say: more of them.
  Conditions: none.
-/
import Derived.Test.YtpfnhgpepgeaiaaPgSnd2
namespace Go.Proofs.Ytpfnhgpepgeaiaa
open Go.RowKit
set_option linter.unusedVariables false
set_option linter.unusedSimpArgs false
theorem cf_laws_qHas : ∀ args w, (callFunc 38 args).run Try.prog w = .ok (.enter 38 args) w := run_callFunc Try.func38 (by kernel_rfl) (by kernel_rfl)
set_option maxRecDepth 100000 in
set_option maxHeartbeats 400000 in
theorem s_laws_qHas {l1 : List ((Int × Int × Int))} {f2 : (Int × Int × Int)} {r : Bool} (h : r_laws_qHas l1 f2 = some r) : CallS Try.prog 38 [.c (.sl (l1.map c43)), .ag [Ti f2.1, Ti f2.2.1, Ti f2.2.2]] (Bo r) [] := by
  refine CallS_of_text (rs := [.t 4]) (vs := [.tmp 4]) Try.func38 rfl rfl (.cons rfl FitsL.nil) (by decide) 17 rfl ?_
  unfold r_laws_qHas at h
  show V _ _ ⟨.c (.sl (l1.map c43)) :: .ag [Ti f2.1, Ti f2.2.1, Ti f2.2.2] :: bt 15 [], []⟩ _
  refine V_sreg (mb 17 9) [24] (s1 := ⟨.c (.sl (l1.map c43)) :: .bot :: .bot :: .pt 24 0 :: bt 13 [], [(24, .box [Ti f2.1, Ti f2.2.1, Ti f2.2.2])]⟩) ?_ ?_
  ·refine L1 rfl rfl (Y1_box (cs := [Ti f2.1, Ti f2.2.1, Ti f2.2.2]) rfl (by kernel_rfl)) ?_
   refine L0 rfl rfl (E_assign (Bo false) rfl (by kernel_rfl)) ?_
   refine XL_nil ?_
   kernel_rfl
  refine V_seq ?_
  refine V_sreg (mb 17 904) [24] (s1 := ⟨bt 3 (.pt 24 0 :: bt 3 (.c (.sl (l1.map c43)) :: I ((l1.length : Int)) :: I 0 :: bt 7 [])), [(24, .box [Ti f2.1, Ti f2.2.1, Ti f2.2.2])]⟩) ?_ ?_
  ·refine L0 rfl rfl (E_move (.c (.sl (l1.map c43))) rfl (by kernel_rfl)) ?_
   refine L0 rfl rfl (Y0_lenM (c := c43) (xs := l1) Try.underlying40 rfl (by kernel_rfl)) ?_
   refine L0 rfl rfl (E_move (I 0) rfl (by kernel_rfl)) ?_
   refine XL_nil ?_
   kernel_rfl
  obtain ⟨qo5, hLo5, hko5⟩ := of_bind h
  refine V_toS (q := qo5) (S := fun o5 => ⟨bt 17 [], []⟩) (mb 17 0) [] ?_ ?_
  ·refine V_block (V_loop (fun n s => ∃ (t3 : Int), s.keep (mb 17 904) [24] = (⟨bt 3 (.pt 24 0 :: bt 3 (.c (.sl (l1.map c43)) :: I ((l1.length : Int)) :: I t3 :: bt 7 [])), [(24, .box [Ti f2.1, Ti f2.2.1, Ti f2.2.2])]⟩ : St) ∧ r_laws_qHas_L4 f2 l1 n t3 = some qo5) FU ⟨_,  by rfl, hLo5⟩ ?_)
   clear hLo5
   rintro n s ⟨t3, hs, h⟩
   refine V_keep _ _ hs ?_
   clear hs
   cases n with
   | zero => cases h
   | succ n =>
    rw [r_laws_qHas_L4] at h
    refine V_sreg (mb 17 1928) [24] (s1 := ⟨bt 3 (.pt 24 0 :: bt 3 (.c (.sl (l1.map c43)) :: I ((l1.length : Int)) :: I t3 :: Bo (ltI t3 ((l1.length : Int))) :: bt 6 [])), [(24, .box [Ti f2.1, Ti f2.2.1, Ti f2.2.2])]⟩) ?_ ?_
    ·refine L0 rfl rfl (Y0_ltw (k := .i64) (a := t3) (b := (l1.length : Int)) rfl (by kernel_rfl) (by kernel_rfl)) ?_
     refine XL_nil ?_
     kernel_rfl
    refine V_seq ?_
    refine V_cond rfl (fun hc6 => ?_) (fun hc6 => ?_)
    ·have h := of_true h hc6
     refine V_skip ?_
     show V _ _ _ _
     refine V_seq ?_
     refine V_block ?_
     obtain ⟨e7, he7, h⟩ := of_bind h
     refine V_sreg (mb 17 968) [48, 24] (s1 := ⟨bt 3 (.pt 24 0 :: .bot :: .bot :: .pt 48 0 :: .c (.sl (l1.map c43)) :: I ((l1.length : Int)) :: I t3 :: bt 7 []), [(48, .box [Ti e7.1, Ti e7.2.1, Ti e7.2.2]), (24, .box [Ti f2.1, Ti f2.2.1, Ti f2.2.2])]⟩) ?_ ?_
     ·refine L0 rfl rfl (Y0_idxM (c := c43) (xs := l1) (v := e7) (n := t3) Try.underlying40 sz43 rfl (by kernel_rfl) (by kernel_rfl) he7) ?_
      refine L0 rfl rfl (E_loadn (cs := [Ti e7.1, Ti e7.2.1, Ti e7.2.2]) [Ti e7.1, Ti e7.2.1, Ti e7.2.2] wd43 rfl (by kernel_rfl) (Nat.le_of_ble_eq_true rfl) (by kernel_rfl)) ?_
      refine L1 rfl rfl (Y1_alloc (z := zv43) rfl zf43 rfl) ?_
      refine XL_cons rfl (E_store (id := 48) (off := 0) (cs := [Ti 0, Ti 0, Ti 0]) (vc := [Ti e7.1, Ti e7.2.1, Ti e7.2.2]) [Ti e7.1, Ti e7.2.1, Ti e7.2.2] rfl rfl (by kernel_rfl) (by kernel_rfl) (by kernel_rfl) sz43 (Nat.le_of_ble_eq_true rfl) (by kernel_rfl)) ?_
      refine XL_nil ?_
      kernel_rfl
     obtain ⟨t8, ht8, h⟩ := of_bind h
     have ht8 := some_inj ht8
     refine V_sreg (mb 17 33672) [24] (s1 := ⟨bt 3 (.pt 24 0 :: bt 3 (.c (.sl (l1.map c43)) :: I ((l1.length : Int)) :: I t3 :: bt 5 (Bo t8 :: .bot :: []))), [(24, .box [Ti f2.1, Ti f2.2.1, Ti f2.2.2])]⟩) ?_ ?_
     ·refine L0 rfl rfl (E_loadn (cs := [Ti e7.1, Ti e7.2.1, Ti e7.2.2]) [Ti e7.1, Ti e7.2.1, Ti e7.2.2] wd43 rfl (by kernel_rfl) (Nat.le_of_ble_eq_true rfl) (by kernel_rfl)) ?_
      refine L0 rfl rfl (E_loadn (cs := [Ti f2.1, Ti f2.2.1, Ti f2.2.2]) [Ti f2.1, Ti f2.2.1, Ti f2.2.2] wd43 rfl (by kernel_rfl) (Nat.le_of_ble_eq_true rfl) (by kernel_rfl)) ?_
      refine L0 rfl rfl (Y0_eqg3 (a0 := e7.1) (b0 := f2.1) (a1 := e7.2.1) (b1 := f2.2.1) (a2 := e7.2.2) (b2 := f2.2.2) eqg43 rfl (by kernel_rfl) (by kernel_rfl)) ?_
      refine XL_nil ?_
      subst ht8
      kernel_rfl
     refine V_cond rfl (fun hc9 => ?_) (fun hc9 => ?_)
     ·have h := of_true h hc9
      refine V_sreg (mb 17 16) [] (s1 := ⟨bt 4 (Bo true :: bt 12 []), []⟩) ?_ ?_
      ·refine L0 rfl rfl (E_assign (Bo true) rfl (by kernel_rfl)) ?_
       refine XL_nil ?_
       kernel_rfl
      refine V_ret ?_
      obtain rfl := some_inj h
      have h := hko5
      obtain rfl := some_inj h
      show Post _ _ _ _ _
      exact ⟨.inr rfl, rfl, rfl, rfl⟩
     ·have h := of_false h hc9
      refine V_skip ?_
      show V _ _ _ _
      obtain ⟨t10, ht10, h⟩ := of_sI h
      refine V_reg (mb 17 904) [24] (s1 := ⟨bt 3 (.pt 24 0 :: bt 3 (.c (.sl (l1.map c43)) :: I ((l1.length : Int)) :: I t10 :: bt 7 [])), [(24, .box [Ti f2.1, Ti f2.2.1, Ti f2.2.2])]⟩) ?_ ?_
      ·refine L0 rfl rfl (Y0_add64 (a := t3) (b := 1) rfl (by kernel_rfl) (by kernel_rfl)) ?_
       refine L0 rfl rfl (E_move (I (w64 (t3 + 1))) rfl (by kernel_rfl)) ?_
       refine XL_nil ?_
       subst ht10
       kernel_rfl
      exact ⟨n, Nat.lt_succ_self n, _,  by rfl, h⟩
    ·have h := of_false h hc6
     refine V_exit ?_
     obtain rfl := some_inj h
     exact ⟨_, rfl, by rfl⟩
  rintro o5 rfl
  have h := hko5
  clear hko5
  show V _ _ _ _
  refine V_sreg (mb 17 16) [] (s1 := ⟨bt 4 (Bo false :: bt 12 []), []⟩) ?_ ?_
  ·refine L0 rfl rfl (E_assign (Bo false) rfl (by kernel_rfl)) ?_
   refine XL_nil ?_
   kernel_rfl
  refine V_ret ?_
  obtain rfl := some_inj h
  show Post _ _ _ _ _
  exact ⟨.inr rfl, rfl, rfl, rfl⟩
theorem cf_laws_FnPrimeGenera : ∀ args w, (callFunc 5 args).run Try.prog w = .ok (.enter 5 args) w := run_callFunc Try.func5 (by kernel_rfl) (by kernel_rfl)
set_option maxRecDepth 100000 in
set_option maxHeartbeats 400000 in
theorem s_laws_FnPrimeGenera {code1 : List Int} {more2 : List Int} {r : Bool} (h : r_laws_FnPrimeGenera code1 more2 = some r) : CallS Try.prog 5 [.c (.sl (code1.map c5)), .c (.sl (more2.map c5))] (Bo r) [] := by
  refine CallS_of_text (rs := [.t 4]) (vs := [.tmp 4]) Try.func5 rfl rfl (.cons rfl FitsL.nil) (by decide) 174 rfl ?_
  unfold r_laws_FnPrimeGenera at h
  show V _ _ ⟨.c (.sl (code1.map c5)) :: .c (.sl (more2.map c5)) :: bt 172 [], []⟩ _
  refine V_sreg (mb 174 3) [] (s1 := ⟨.c (.sl (code1.map c5)) :: .c (.sl (more2.map c5)) :: bt 172 [], []⟩) ?_ ?_
  ·refine L0 rfl rfl (E_assign (Bo false) rfl (by kernel_rfl)) ?_
   refine XL_nil ?_
   kernel_rfl
  refine V_seq ?_
  obtain ⟨y3, hy3, h⟩ := of_bind h
  refine V_sreg (mb 174 67108867) [] (s1 := ⟨.c (.sl (code1.map c5)) :: .c (.sl (more2.map c5)) :: bt 24 (Bo y3 :: bt 147 []), []⟩) ?_ ?_
  ·refine L0 rfl rfl (E_move (.c (.sl (code1.map c5))) rfl (by kernel_rfl)) ?_
   refine L0 rfl rfl (E_move (.c (.sl (more2.map c5))) rfl (by kernel_rfl)) ?_
   refine L1 rfl rfl (Y1_call (s_laws_big hy3) cf_laws_big rfl (by kernel_rfl)) ?_
   refine XL_nil ?_
   kernel_rfl
  refine V_cond rfl (fun hc4 => ?_) (fun hc4 => ?_)
  ·have h := of_true h hc4
   refine V_sreg (mb 174 16) [] (s1 := ⟨bt 4 (Bo true :: bt 169 []), []⟩) ?_ ?_
   ·refine L0 rfl rfl (E_assign (Bo true) rfl (by kernel_rfl)) ?_
    refine XL_nil ?_
    kernel_rfl
   refine V_ret ?_
   obtain rfl := some_inj h
   show Post _ _ _ _ _
   exact ⟨.inr rfl, rfl, rfl, rfl⟩
  ·have h := of_false h hc4
   refine V_skip ?_
   show V _ _ _ _
   obtain ⟨y5, hy5, h⟩ := of_bind h
   refine V_sreg (mb 174 34) [] (s1 := ⟨.bot :: .c (.sl (more2.map c5)) :: bt 3 (I y5.1 :: bt 168 []), []⟩) ?_ ?_
   ·refine L0 rfl rfl (E_move (.c (.sl (code1.map c5))) rfl (by kernel_rfl)) ?_
    refine L1 rfl rfl (Y1_call (s_spec_DrawValuesAt hy5) cf_spec_DrawValuesAt rfl (by kernel_rfl)) ?_
    refine L0 rfl rfl (E_move (.tc (I y5.1) (.tc (I y5.2) .tn)) rfl (by kernel_rfl)) ?_
    refine L0 rfl rfl (E_ext (n := 0) (I y5.1) (.tc (I y5.2) .tn) (I y5.1) rfl (by kernel_rfl) (by kernel_rfl) (by intro hh; cases hh)) ?_
    refine L0 rfl rfl (E_ext (n := 1) (I y5.1) (.tc (I y5.2) .tn) (I y5.2) rfl (by kernel_rfl) (by kernel_rfl) (by intro hh; cases hh)) ?_
    refine L0 rfl rfl (E_assign (I y5.1) rfl (by kernel_rfl)) ?_
    refine L0 rfl rfl (E_assign (I y5.2) rfl (by kernel_rfl)) ?_
    refine XL_nil ?_
    kernel_rfl
   obtain ⟨y6, hy6, h⟩ := of_bind h
   obtain ⟨e7, he7, h⟩ := of_bind h
   obtain ⟨e8, he8, h⟩ := of_bind h
   refine V_sreg (mb 174 160) [] (s1 := ⟨bt 5 (I y5.1 :: .bot :: I e8 :: bt 166 []), []⟩) ?_ ?_
   ·refine L1 rfl rfl (Y1_bslice (z := zv3) (els := [3, 5, 7, 11, 13, 17, 19, 23, 29, 31, 37, 41, 43, 47, 53, 59, 61, 67, 71, 97, 101, 499, 997].map c3) Try.underlying28 iz3 rfl (by decide) rfl (by kernel_rfl) rfl (by simp [c3]) (by decide) (by decide)) ?_
    refine L0 rfl rfl (E_move (.c (.sl (more2.map c5))) rfl (by kernel_rfl)) ?_
    refine L1 rfl rfl (Y1_call (s_laws_numberOf hy6) cf_laws_numberOf rfl (by kernel_rfl)) ?_
    refine L0 rfl rfl (Y0_rem (k := .i64) (a := y6) (b := 23) rfl (by kernel_rfl) (by kernel_rfl) (by decide)) ?_
    refine L0 rfl rfl (Y0_idxoM (c := c3) (xs := [3, 5, 7, 11, 13, 17, 19, 23, 29, 31, 37, 41, 43, 47, 53, 59, 61, 67, 71, 97, 101, 499, 997]) (v := e7) (id := 256) (T := 3) (sz := 1) (n := Int.tmod y6 23) Try.underlying28 sz3 rfl (by kernel_rfl) (by kernel_rfl) (by kernel_rfl) he7) ?_
    refine L0 rfl rfl (Y0_loado1 (c := c3) (xs := [3, 5, 7, 11, 13, 17, 19, 23, 29, 31, 37, 41, 43, 47, 53, 59, 61, 67, 71, 97, 101, 499, 997]) (v := e8) (id := 256) (sz := 1) (T := 3) (off := 0) (n := Int.tmod y6 23) (d := Ti e8) (ds := []) sc3 rfl (by kernel_rfl) (by kernel_rfl) he8 (by kernel_rfl)) ?_
    refine L0 rfl rfl (E_assign (I e8) rfl (by kernel_rfl)) ?_
    refine XL_nil ?_
    kernel_rfl
   obtain ⟨y9, hy9, h⟩ := of_bind h
   refine V_sreg (mb 174 928) [328] (s1 := ⟨bt 5 (I y5.1 :: .bot :: I e8 :: .ow 328 :: Bo y9.2 :: bt 164 []), [(328, .arr 3 1 (y9.1.map c3))]⟩) ?_ ?_
   ·refine L0 rfl rfl (E_move (I y5.1) rfl (by kernel_rfl)) ?_
    refine L0 rfl rfl (E_move (I e8) rfl (by kernel_rfl)) ?_
    refine L1 rfl rfl (Y1_call (s_impl_ValuesAt hy9) cf_impl_ValuesAt rfl (by kernel_rfl)) ?_
    refine L0 rfl rfl (E_move (.tc (.ow 328) (.tc (Bo y9.2) .tn)) rfl (by kernel_rfl)) ?_
    refine L0 rfl rfl (E_ext (n := 0) (.ow 328) (.tc (Bo y9.2) .tn) (.ow 328) rfl (by kernel_rfl) (by kernel_rfl) (by intro hh; cases hh)) ?_
    refine L0 rfl rfl (E_ext (n := 1) (.ow 328) (.tc (Bo y9.2) .tn) (Bo y9.2) rfl (by kernel_rfl) (by kernel_rfl) (by intro hh; cases hh)) ?_
    refine L0 rfl rfl (E_assign (.ow 328) rfl (by kernel_rfl)) ?_
    refine L0 rfl rfl (E_assign (Bo y9.2) rfl (by kernel_rfl)) ?_
    refine XL_nil ?_
    kernel_rfl
   obtain ⟨y10, hy10, h⟩ := of_bind h
   refine V_sreg (mb 174 4000) [376, 328] (s1 := ⟨bt 5 (I y5.1 :: .bot :: I e8 :: .ow 328 :: Bo y9.2 :: .ow 376 :: Bo y10.2 :: bt 162 []), [(376, .arr 3 1 (y10.1.map c3)), (328, .arr 3 1 (y9.1.map c3))]⟩) ?_ ?_
   ·refine L0 rfl rfl (E_move (I y5.1) rfl (by kernel_rfl)) ?_
    refine L0 rfl rfl (E_move (I e8) rfl (by kernel_rfl)) ?_
    refine L1 rfl rfl (Y1_call (s_spec_ValuesAt hy10) cf_spec_ValuesAt rfl (by kernel_rfl)) ?_
    refine L0 rfl rfl (E_move (.tc (.ow 376) (.tc (Bo y10.2) .tn)) rfl (by kernel_rfl)) ?_
    refine L0 rfl rfl (E_ext (n := 0) (.ow 376) (.tc (Bo y10.2) .tn) (.ow 376) rfl (by kernel_rfl) (by kernel_rfl) (by intro hh; cases hh)) ?_
    refine L0 rfl rfl (E_ext (n := 1) (.ow 376) (.tc (Bo y10.2) .tn) (Bo y10.2) rfl (by kernel_rfl) (by kernel_rfl) (by intro hh; cases hh)) ?_
    refine L0 rfl rfl (E_assign (.ow 376) rfl (by kernel_rfl)) ?_
    refine L0 rfl rfl (E_assign (Bo y10.2) rfl (by kernel_rfl)) ?_
    refine XL_nil ?_
    kernel_rfl
   refine V_seq ?_
   obtain ⟨b13, hb13, h⟩ := of_bind h
   refine V_sreg (mb 174 288230376151712672) [328] (s1 := ⟨bt 5 (I y5.1 :: .bot :: I e8 :: .ow 328 :: Bo y9.2 :: bt 48 (Bo b13 :: bt 115 [])), [(328, .arr 3 1 (y9.1.map c3))]⟩) ?_ ?_
   ·refine L0 rfl rfl (E_move (Bo y9.2) rfl (by kernel_rfl)) ?_
    refine L0 rfl rfl (E_move (Bo y10.2) rfl (by kernel_rfl)) ?_
    refine L0 rfl rfl (Y0_neb (a := y9.2) (b := y10.2) Try.underlying4 rfl (by kernel_rfl) (by kernel_rfl)) ?_
    refine L0 rfl rfl (E_move (Bo (y9.2 != y10.2)) rfl (by kernel_rfl)) ?_
    refine XL_split (y9.2 != y10.2) (fun hc11 => ?_) (fun hc11 => ?_)
    ·have hb13 := some_inj (of_true hb13 hc11)
     refine XL_skipF _ rfl rfl (by kernel_rfl) hc11 rfl ?_
     refine XL_skipF _ rfl rfl (by kernel_rfl) hc11 rfl ?_
     refine XL_skipF _ rfl rfl (by kernel_rfl) hc11 rfl ?_
     refine XL_skipF _ rfl rfl (by kernel_rfl) hc11 rfl ?_
     refine XL_cons rfl (X_of_Y0 rfl (Y0_pickTe (b := y9.2 != y10.2) (p := true) rfl (by kernel_rfl) hc11 (by kernel_rfl) hb13)) ?_
     refine XL_nil ?_
     kernel_rfl
    ·have hb13 := of_false hb13 hc11
     obtain ⟨y12, hy12, hb13⟩ := of_bind hb13
     have hb13 := some_inj hb13
     refine XL_takeC _ rfl rfl (by kernel_rfl) hc11 (X_of_Y0 rfl (E_move (.ow 328) rfl (by kernel_rfl))) ?_
     refine XL_takeC _ rfl rfl (by kernel_rfl) hc11 (X_of_Y0 rfl (E_move (.ow 376) rfl (by kernel_rfl))) ?_
     refine XL_takeC _ rfl rfl (by kernel_rfl) hc11 (X_of_Y1 rfl (Y1_callS (s_laws_sameInts hy12) cf_laws_sameInts rfl (by kernel_rfl) rfl rfl)) ?_
     refine XL_takeC _ rfl rfl (by kernel_rfl) hc11 (X_of_Y0 rfl (Y0_not (b := y12) rfl (by kernel_rfl))) ?_
     refine XL_cons rfl (X_of_Y0 rfl (Y0_pickFe (b := y9.2 != y10.2) (p := !y12) rfl (by kernel_rfl) hc11 (by kernel_rfl) hb13)) ?_
     refine XL_nil ?_
     kernel_rfl
   refine V_cond rfl (fun hc14 => ?_) (fun hc14 => ?_)
   ·have h := of_true h hc14
    refine V_sreg (mb 174 16) [] (s1 := ⟨bt 4 (Bo false :: bt 169 []), []⟩) ?_ ?_
    ·refine L0 rfl rfl (E_assign (Bo false) rfl (by kernel_rfl)) ?_
     refine XL_nil ?_
     kernel_rfl
    refine V_ret ?_
    obtain rfl := some_inj h
    show Post _ _ _ _ _
    exact ⟨.inr rfl, rfl, rfl, rfl⟩
   ·have h := of_false h hc14
    refine V_skip ?_
    show V _ _ _ _
    refine V_seq ?_
    refine V_sreg (mb 174 1152921504606847392) [328] (s1 := ⟨bt 5 (I y5.1 :: .bot :: I e8 :: .ow 328 :: bt 51 (Bo (!y9.2) :: bt 113 [])), [(328, .arr 3 1 (y9.1.map c3))]⟩) ?_ ?_
    ·refine L0 rfl rfl (E_move (Bo y9.2) rfl (by kernel_rfl)) ?_
     refine L0 rfl rfl (Y0_not (b := y9.2) rfl (by kernel_rfl)) ?_
     refine XL_nil ?_
     kernel_rfl
    refine V_cond rfl (fun hc15 => ?_) (fun hc15 => ?_)
    ·have h := of_true h hc15
     refine V_sreg (mb 174 16) [] (s1 := ⟨bt 4 (Bo true :: bt 169 []), []⟩) ?_ ?_
     ·refine L0 rfl rfl (E_assign (Bo true) rfl (by kernel_rfl)) ?_
      refine XL_nil ?_
      kernel_rfl
     refine V_ret ?_
     obtain rfl := some_inj h
     show Post _ _ _ _ _
     exact ⟨.inr rfl, rfl, rfl, rfl⟩
    ·have h := of_false h hc15
     refine V_skip ?_
     show V _ _ _ _
     obtain ⟨y16, hy16, h⟩ := of_bind h
     refine V_sreg (mb 174 12704) [328] (s1 := ⟨bt 5 (I y5.1 :: .bot :: I e8 :: .ow 328 :: bt 3 (I y16.1 :: Bo y16.2 :: bt 160 [])), [(328, .arr 3 1 (y9.1.map c3))]⟩) ?_ ?_
     ·refine L0 rfl rfl (E_move (I y5.1) rfl (by kernel_rfl)) ?_
      refine L0 rfl rfl (E_move (I e8) rfl (by kernel_rfl)) ?_
      refine L1 rfl rfl (Y1_call (s_impl_KroneckerSymbol hy16) cf_impl_KroneckerSymbol rfl (by kernel_rfl)) ?_
      refine L0 rfl rfl (E_move (.tc (I y16.1) (.tc (Bo y16.2) .tn)) rfl (by kernel_rfl)) ?_
      refine L0 rfl rfl (E_ext (n := 0) (I y16.1) (.tc (Bo y16.2) .tn) (I y16.1) rfl (by kernel_rfl) (by kernel_rfl) (by intro hh; cases hh)) ?_
      refine L0 rfl rfl (E_ext (n := 1) (I y16.1) (.tc (Bo y16.2) .tn) (Bo y16.2) rfl (by kernel_rfl) (by kernel_rfl) (by intro hh; cases hh)) ?_
      refine L0 rfl rfl (E_assign (I y16.1) rfl (by kernel_rfl)) ?_
      refine L0 rfl rfl (E_assign (Bo y16.2) rfl (by kernel_rfl)) ?_
      refine XL_nil ?_
      kernel_rfl
     obtain ⟨y17, hy17, h⟩ := of_bind h
     refine V_sreg (mb 174 61856) [560, 328] (s1 := ⟨bt 5 (I y5.1 :: .bot :: I e8 :: .ow 328 :: bt 3 (I y16.1 :: Bo y16.2 :: .ow 560 :: Bo y17.2 :: bt 158 [])), [(560, .arr 43 3 (y17.1.map c43)), (328, .arr 3 1 (y9.1.map c3))]⟩) ?_ ?_
     ·refine L0 rfl rfl (E_move (I y5.1) rfl (by kernel_rfl)) ?_
      refine L0 rfl rfl (E_move (I e8) rfl (by kernel_rfl)) ?_
      refine L1 rfl rfl (Y1_call (s_impl_RepresentingForms hy17) cf_impl_RepresentingForms rfl (by kernel_rfl)) ?_
      refine L0 rfl rfl (E_move (.tc (.ow 560) (.tc (Bo y17.2) .tn)) rfl (by kernel_rfl)) ?_
      refine L0 rfl rfl (E_ext (n := 0) (.ow 560) (.tc (Bo y17.2) .tn) (.ow 560) rfl (by kernel_rfl) (by kernel_rfl) (by intro hh; cases hh)) ?_
      refine L0 rfl rfl (E_ext (n := 1) (.ow 560) (.tc (Bo y17.2) .tn) (Bo y17.2) rfl (by kernel_rfl) (by kernel_rfl) (by intro hh; cases hh)) ?_
      refine L0 rfl rfl (E_assign (.ow 560) rfl (by kernel_rfl)) ?_
      refine L0 rfl rfl (E_assign (Bo y17.2) rfl (by kernel_rfl)) ?_
      refine XL_nil ?_
      kernel_rfl
     obtain ⟨y18, hy18, h⟩ := of_bind h
     refine V_sreg (mb 174 258464) [128, 560, 328] (s1 := ⟨bt 5 (I y5.1 :: .bot :: I e8 :: .ow 328 :: bt 3 (I y16.1 :: Bo y16.2 :: .ow 560 :: Bo y17.2 :: .pt 128 0 :: Bo y18.2 :: bt 156 [])), [(128, .box [Ti y18.1.1, Ti y18.1.2.1, Ti y18.1.2.2]), (560, .arr 43 3 (y17.1.map c43)), (328, .arr 3 1 (y9.1.map c3))]⟩) ?_ ?_
     ·refine L0 rfl rfl (E_move (I y5.1) rfl (by kernel_rfl)) ?_
      refine L0 rfl rfl (E_move (I e8) rfl (by kernel_rfl)) ?_
      refine L1 rfl rfl (Y1_call (s_impl_PrimeClass hy18) cf_impl_PrimeClass rfl (by kernel_rfl)) ?_
      refine L0 rfl rfl (E_move (.tc (.ag [Ti y18.1.1, Ti y18.1.2.1, Ti y18.1.2.2]) (.tc (Bo y18.2) .tn)) rfl (by kernel_rfl)) ?_
      refine L0 rfl rfl (E_ext (n := 0) (.ag [Ti y18.1.1, Ti y18.1.2.1, Ti y18.1.2.2]) (.tc (Bo y18.2) .tn) (.ag [Ti y18.1.1, Ti y18.1.2.1, Ti y18.1.2.2]) rfl (by kernel_rfl) (by kernel_rfl) (by intro hh; cases hh)) ?_
      refine L0 rfl rfl (E_ext (n := 1) (.ag [Ti y18.1.1, Ti y18.1.2.1, Ti y18.1.2.2]) (.tc (Bo y18.2) .tn) (Bo y18.2) rfl (by kernel_rfl) (by kernel_rfl) (by intro hh; cases hh)) ?_
      refine L1 rfl rfl (Y1_alloc (z := zv43) rfl zf43 rfl) ?_
      refine XL_cons rfl (E_store (id := 128) (off := 0) (cs := [Ti 0, Ti 0, Ti 0]) (vc := [Ti y18.1.1, Ti y18.1.2.1, Ti y18.1.2.2]) [Ti y18.1.1, Ti y18.1.2.1, Ti y18.1.2.2] rfl rfl (by kernel_rfl) (by kernel_rfl) (by kernel_rfl) sz43 (Nat.le_of_ble_eq_true rfl) (by kernel_rfl)) ?_
      refine L0 rfl rfl (E_assign (Bo y18.2) rfl (by kernel_rfl)) ?_
      refine XL_nil ?_
      kernel_rfl
     refine V_seq ?_
     obtain ⟨t21, ht21, h⟩ := of_bind h
     have ht21 := some_inj ht21
     refine V_sreg (mb 174 1237940039285380274899210656) [128, 560, 328] (s1 := ⟨bt 5 (I y5.1 :: .bot :: I e8 :: .ow 328 :: bt 3 (I y16.1 :: .bot :: .ow 560 :: .bot :: .pt 128 0 :: bt 73 (Bo t21 :: bt 83 []))), [(128, .box [Ti y18.1.1, Ti y18.1.2.1, Ti y18.1.2.2]), (560, .arr 43 3 (y17.1.map c43)), (328, .arr 3 1 (y9.1.map c3))]⟩) ?_ ?_
     ·refine L0 rfl rfl (E_move (Bo y16.2) rfl (by kernel_rfl)) ?_
      refine L0 rfl rfl (Y0_not (b := y16.2) rfl (by kernel_rfl)) ?_
      refine L0 rfl rfl (E_move (Bo (!y16.2)) rfl (by kernel_rfl)) ?_
      refine XL_split (!y16.2) (fun hc19 => ?_) (fun hc19 => ?_)
      ·refine XL_skipF _ rfl rfl (by kernel_rfl) hc19 rfl ?_
       refine XL_skipF _ rfl rfl (by kernel_rfl) hc19 rfl ?_
       refine XL_cons rfl (X_of_Y0 rfl (Y0_pick1 (b := !y16.2) (p := true) (q := !y17.2) rfl (by kernel_rfl) hc19 (by kernel_rfl))) ?_
       refine L0 rfl rfl (E_move (Bo (bif (!y16.2) then true else (!y17.2))) rfl (by kernel_rfl)) ?_
       refine XL_split (bif (!y16.2) then true else (!y17.2)) (fun hc20 => ?_) (fun hc20 => ?_)
       ·refine XL_skipF _ rfl rfl (by kernel_rfl) hc20 rfl ?_
        refine XL_skipF _ rfl rfl (by kernel_rfl) hc20 rfl ?_
        refine XL_skipF _ rfl rfl (by kernel_rfl) hc20 rfl ?_
        refine XL_skipF _ rfl rfl (by kernel_rfl) hc20 rfl ?_
        refine XL_cons rfl (X_of_Y0 rfl (Y0_pick1 (b := bif (!y16.2) then true else (!y17.2)) (p := true) (q := y18.2 != (eqI y16.1 1)) rfl (by kernel_rfl) hc20 (by kernel_rfl))) ?_
        refine XL_nil ?_
        subst ht21
        kernel_rfl
       ·refine XL_takeC _ rfl rfl (by kernel_rfl) hc20 (X_of_Y0 rfl (E_move (Bo y18.2) rfl (by kernel_rfl))) ?_
        refine XL_takeC _ rfl rfl (by kernel_rfl) hc20 (X_of_Y0 rfl (E_move (I y16.1) rfl (by kernel_rfl))) ?_
        refine XL_takeC _ rfl rfl (by kernel_rfl) hc20 (X_of_Y0 rfl (Y0_eqw (k := .i64) (a := y16.1) (b := 1) rfl (by kernel_rfl) (by kernel_rfl))) ?_
        refine XL_takeC _ rfl rfl (by kernel_rfl) hc20 (X_of_Y0 rfl (Y0_neb (a := y18.2) (b := eqI y16.1 1) Try.underlying4 rfl (by kernel_rfl) (by kernel_rfl))) ?_
        refine XL_cons rfl (X_of_Y0 rfl (Y0_pick0 (b := bif (!y16.2) then true else (!y17.2)) (p := true) (q := y18.2 != (eqI y16.1 1)) rfl (by kernel_rfl) hc20 (by kernel_rfl))) ?_
        refine XL_nil ?_
        subst ht21
        kernel_rfl
      ·refine XL_takeC _ rfl rfl (by kernel_rfl) hc19 (X_of_Y0 rfl (E_move (Bo y17.2) rfl (by kernel_rfl))) ?_
       refine XL_takeC _ rfl rfl (by kernel_rfl) hc19 (X_of_Y0 rfl (Y0_not (b := y17.2) rfl (by kernel_rfl))) ?_
       refine XL_cons rfl (X_of_Y0 rfl (Y0_pick0 (b := !y16.2) (p := true) (q := !y17.2) rfl (by kernel_rfl) hc19 (by kernel_rfl))) ?_
       refine L0 rfl rfl (E_move (Bo (bif (!y16.2) then true else (!y17.2))) rfl (by kernel_rfl)) ?_
       refine XL_split (bif (!y16.2) then true else (!y17.2)) (fun hc20 => ?_) (fun hc20 => ?_)
       ·refine XL_skipF _ rfl rfl (by kernel_rfl) hc20 rfl ?_
        refine XL_skipF _ rfl rfl (by kernel_rfl) hc20 rfl ?_
        refine XL_skipF _ rfl rfl (by kernel_rfl) hc20 rfl ?_
        refine XL_skipF _ rfl rfl (by kernel_rfl) hc20 rfl ?_
        refine XL_cons rfl (X_of_Y0 rfl (Y0_pick1 (b := bif (!y16.2) then true else (!y17.2)) (p := true) (q := y18.2 != (eqI y16.1 1)) rfl (by kernel_rfl) hc20 (by kernel_rfl))) ?_
        refine XL_nil ?_
        subst ht21
        kernel_rfl
       ·refine XL_takeC _ rfl rfl (by kernel_rfl) hc20 (X_of_Y0 rfl (E_move (Bo y18.2) rfl (by kernel_rfl))) ?_
        refine XL_takeC _ rfl rfl (by kernel_rfl) hc20 (X_of_Y0 rfl (E_move (I y16.1) rfl (by kernel_rfl))) ?_
        refine XL_takeC _ rfl rfl (by kernel_rfl) hc20 (X_of_Y0 rfl (Y0_eqw (k := .i64) (a := y16.1) (b := 1) rfl (by kernel_rfl) (by kernel_rfl))) ?_
        refine XL_takeC _ rfl rfl (by kernel_rfl) hc20 (X_of_Y0 rfl (Y0_neb (a := y18.2) (b := eqI y16.1 1) Try.underlying4 rfl (by kernel_rfl) (by kernel_rfl))) ?_
        refine XL_cons rfl (X_of_Y0 rfl (Y0_pick0 (b := bif (!y16.2) then true else (!y17.2)) (p := true) (q := y18.2 != (eqI y16.1 1)) rfl (by kernel_rfl) hc20 (by kernel_rfl))) ?_
        refine XL_nil ?_
        subst ht21
        kernel_rfl
     refine V_cond rfl (fun hc22 => ?_) (fun hc22 => ?_)
     ·have h := of_true h hc22
      refine V_sreg (mb 174 16) [] (s1 := ⟨bt 4 (Bo false :: bt 169 []), []⟩) ?_ ?_
      ·refine L0 rfl rfl (E_assign (Bo false) rfl (by kernel_rfl)) ?_
       refine XL_nil ?_
       kernel_rfl
      refine V_ret ?_
      obtain rfl := some_inj h
      show Post _ _ _ _ _
      exact ⟨.inr rfl, rfl, rfl, rfl⟩
     ·have h := of_false h hc22
      refine V_skip ?_
      show V _ _ _ _
      refine V_seq ?_
      refine V_sreg (mb 174 4951760157141521099596583328) [128, 560, 328] (s1 := ⟨bt 5 (I y5.1 :: .bot :: I e8 :: .ow 328 :: bt 3 (I y16.1 :: .bot :: .ow 560 :: .bot :: .pt 128 0 :: bt 75 (Bo (!eqI y16.1 1) :: bt 81 []))), [(128, .box [Ti y18.1.1, Ti y18.1.2.1, Ti y18.1.2.2]), (560, .arr 43 3 (y17.1.map c43)), (328, .arr 3 1 (y9.1.map c3))]⟩) ?_ ?_
      ·refine L0 rfl rfl (E_move (I y16.1) rfl (by kernel_rfl)) ?_
       refine L0 rfl rfl (Y0_new (k := .i64) (a := y16.1) (b := 1) rfl (by kernel_rfl) (by kernel_rfl)) ?_
       refine XL_nil ?_
       kernel_rfl
      refine V_cond rfl (fun hc23 => ?_) (fun hc23 => ?_)
      ·have h := of_true h hc23
       obtain ⟨t25, ht25, h⟩ := of_bind h
       have ht25 := some_inj ht25
       refine V_sreg (mb 174 16) [] (s1 := ⟨bt 4 (Bo t25 :: bt 169 []), []⟩) ?_ ?_
       ·refine L0 rfl rfl (E_move (I y16.1) rfl (by kernel_rfl)) ?_
        refine L0 rfl rfl (Y0_eqw (k := .i64) (a := y16.1) (b := -1) rfl (by kernel_rfl) (by kernel_rfl)) ?_
        refine L0 rfl rfl (E_move (Bo (eqI y16.1 (-1))) rfl (by kernel_rfl)) ?_
        refine XL_split (eqI y16.1 (-1)) (fun hc24 => ?_) (fun hc24 => ?_)
        ·refine XL_takeC _ rfl rfl (by kernel_rfl) hc24 (X_of_Y0 rfl (E_move (.ow 560) rfl (by kernel_rfl))) ?_
         refine XL_takeC _ rfl rfl (by kernel_rfl) hc24 (X_of_Y0 rfl (Y0_lenM (c := c43) (xs := y17.1) Try.underlying40 rfl (by kernel_rfl))) ?_
         refine XL_takeC _ rfl rfl (by kernel_rfl) hc24 (X_of_Y0 rfl (Y0_eqw (k := .i64) (a := (y17.1.length : Int)) (b := 0) rfl (by kernel_rfl) (by kernel_rfl))) ?_
         refine XL_cons rfl (X_of_Y0 rfl (Y0_pick1 (b := eqI y16.1 (-1)) (p := eqI ((y17.1.length : Int)) 0) (q := false) rfl (by kernel_rfl) hc24 (by kernel_rfl))) ?_
         refine L0 rfl rfl (E_assign (Bo (bif (eqI y16.1 (-1)) then (eqI ((y17.1.length : Int)) 0) else false)) rfl (by kernel_rfl)) ?_
         refine XL_nil ?_
         subst ht25
         kernel_rfl
        ·refine XL_skipT _ rfl rfl (by kernel_rfl) hc24 rfl ?_
         refine XL_skipT _ rfl rfl (by kernel_rfl) hc24 rfl ?_
         refine XL_skipT _ rfl rfl (by kernel_rfl) hc24 rfl ?_
         refine XL_cons rfl (X_of_Y0 rfl (Y0_pick0 (b := eqI y16.1 (-1)) (p := eqI ((y17.1.length : Int)) 0) (q := false) rfl (by kernel_rfl) hc24 (by kernel_rfl))) ?_
         refine L0 rfl rfl (E_assign (Bo (bif (eqI y16.1 (-1)) then (eqI ((y17.1.length : Int)) 0) else false)) rfl (by kernel_rfl)) ?_
         refine XL_nil ?_
         subst ht25
         kernel_rfl
       refine V_ret ?_
       obtain rfl := some_inj h
       show Post _ _ _ _ _
       exact ⟨.inr rfl, rfl, rfl, rfl⟩
      ·have h := of_false h hc23
       refine V_skip ?_
       show V _ _ _ _
       obtain ⟨y26, hy26, h⟩ := of_bind h
       refine V_sreg (mb 174 868768) [144, 128, 560, 328] (s1 := ⟨bt 5 (I y5.1 :: .bot :: I e8 :: .ow 328 :: bt 5 (.ow 560 :: .bot :: .pt 128 0 :: .bot :: .pt 144 0 :: Bo y26.2 :: bt 154 [])), [(144, .box [Ti y26.1.1, Ti y26.1.2.1, Ti y26.1.2.2]), (128, .box [Ti y18.1.1, Ti y18.1.2.1, Ti y18.1.2.2]), (560, .arr 43 3 (y17.1.map c43)), (328, .arr 3 1 (y9.1.map c3))]⟩) ?_ ?_
       ·refine L0 rfl rfl (E_loadn (cs := [Ti y18.1.1, Ti y18.1.2.1, Ti y18.1.2.2]) [Ti y18.1.1, Ti y18.1.2.1, Ti y18.1.2.2] wd43 rfl (by kernel_rfl) (Nat.le_of_ble_eq_true rfl) (by kernel_rfl)) ?_
        refine L1 rfl rfl (Y1_call (s_impl_InverseForm hy26) cf_impl_InverseForm rfl (by kernel_rfl)) ?_
        refine L0 rfl rfl (E_move (.tc (.ag [Ti y26.1.1, Ti y26.1.2.1, Ti y26.1.2.2]) (.tc (Bo y26.2) .tn)) rfl (by kernel_rfl)) ?_
        refine L0 rfl rfl (E_ext (n := 0) (.ag [Ti y26.1.1, Ti y26.1.2.1, Ti y26.1.2.2]) (.tc (Bo y26.2) .tn) (.ag [Ti y26.1.1, Ti y26.1.2.1, Ti y26.1.2.2]) rfl (by kernel_rfl) (by kernel_rfl) (by intro hh; cases hh)) ?_
        refine L0 rfl rfl (E_ext (n := 1) (.ag [Ti y26.1.1, Ti y26.1.2.1, Ti y26.1.2.2]) (.tc (Bo y26.2) .tn) (Bo y26.2) rfl (by kernel_rfl) (by kernel_rfl) (by intro hh; cases hh)) ?_
        refine L1 rfl rfl (Y1_alloc (z := zv43) rfl zf43 rfl) ?_
        refine XL_cons rfl (E_store (id := 144) (off := 0) (cs := [Ti 0, Ti 0, Ti 0]) (vc := [Ti y26.1.1, Ti y26.1.2.1, Ti y26.1.2.2]) [Ti y26.1.1, Ti y26.1.2.1, Ti y26.1.2.2] rfl rfl (by kernel_rfl) (by kernel_rfl) (by kernel_rfl) sz43 (Nat.le_of_ble_eq_true rfl) (by kernel_rfl)) ?_
        refine L0 rfl rfl (E_assign (Bo y26.2) rfl (by kernel_rfl)) ?_
        refine XL_nil ?_
        kernel_rfl
       obtain ⟨y27, hy27, h⟩ := of_bind h
       refine V_sreg (mb 174 4014496) [856, 144, 128, 560, 328] (s1 := ⟨bt 5 (I y5.1 :: .bot :: I e8 :: .ow 328 :: bt 5 (.ow 560 :: .bot :: .pt 128 0 :: .bot :: .pt 144 0 :: Bo y26.2 :: .ow 856 :: Bo y27.2 :: bt 152 [])), [(856, .arr 3 1 (y27.1.map c3)), (144, .box [Ti y26.1.1, Ti y26.1.2.1, Ti y26.1.2.2]), (128, .box [Ti y18.1.1, Ti y18.1.2.1, Ti y18.1.2.2]), (560, .arr 43 3 (y17.1.map c43)), (328, .arr 3 1 (y9.1.map c3))]⟩) ?_ ?_
       ·refine L0 rfl rfl (E_loadn (cs := [Ti y18.1.1, Ti y18.1.2.1, Ti y18.1.2.2]) [Ti y18.1.1, Ti y18.1.2.1, Ti y18.1.2.2] wd43 rfl (by kernel_rfl) (Nat.le_of_ble_eq_true rfl) (by kernel_rfl)) ?_
        refine L1 rfl rfl (Y1_call (s_impl_GenusValues hy27) cf_impl_GenusValues rfl (by kernel_rfl)) ?_
        refine L0 rfl rfl (E_move (.tc (.ow 856) (.tc (Bo y27.2) .tn)) rfl (by kernel_rfl)) ?_
        refine L0 rfl rfl (E_ext (n := 0) (.ow 856) (.tc (Bo y27.2) .tn) (.ow 856) rfl (by kernel_rfl) (by kernel_rfl) (by intro hh; cases hh)) ?_
        refine L0 rfl rfl (E_ext (n := 1) (.ow 856) (.tc (Bo y27.2) .tn) (Bo y27.2) rfl (by kernel_rfl) (by kernel_rfl) (by intro hh; cases hh)) ?_
        refine L0 rfl rfl (E_assign (.ow 856) rfl (by kernel_rfl)) ?_
        refine L0 rfl rfl (E_assign (Bo y27.2) rfl (by kernel_rfl)) ?_
        refine XL_nil ?_
        kernel_rfl
       obtain ⟨y28, hy28, h⟩ := of_bind h
       refine V_sreg (mb 174 16597248) [904, 856, 144, 128, 560, 328] (s1 := ⟨bt 8 (.ow 328 :: bt 5 (.ow 560 :: .bot :: .pt 128 0 :: .bot :: .pt 144 0 :: Bo y26.2 :: .ow 856 :: Bo y27.2 :: .ow 904 :: Bo y28.2 :: bt 150 [])), [(904, .arr 43 3 (y28.1.map c43)), (856, .arr 3 1 (y27.1.map c3)), (144, .box [Ti y26.1.1, Ti y26.1.2.1, Ti y26.1.2.2]), (128, .box [Ti y18.1.1, Ti y18.1.2.1, Ti y18.1.2.2]), (560, .arr 43 3 (y17.1.map c43)), (328, .arr 3 1 (y9.1.map c3))]⟩) ?_ ?_
       ·refine L0 rfl rfl (E_move (I y5.1) rfl (by kernel_rfl)) ?_
        refine L0 rfl rfl (E_move (I e8) rfl (by kernel_rfl)) ?_
        refine L1 rfl rfl (Y1_call (s_impl_GenusRepresenting hy28) cf_impl_GenusRepresenting rfl (by kernel_rfl)) ?_
        refine L0 rfl rfl (E_move (.tc (.ow 904) (.tc (Bo y28.2) .tn)) rfl (by kernel_rfl)) ?_
        refine L0 rfl rfl (E_ext (n := 0) (.ow 904) (.tc (Bo y28.2) .tn) (.ow 904) rfl (by kernel_rfl) (by kernel_rfl) (by intro hh; cases hh)) ?_
        refine L0 rfl rfl (E_ext (n := 1) (.ow 904) (.tc (Bo y28.2) .tn) (Bo y28.2) rfl (by kernel_rfl) (by kernel_rfl) (by intro hh; cases hh)) ?_
        refine L0 rfl rfl (E_assign (.ow 904) rfl (by kernel_rfl)) ?_
        refine L0 rfl rfl (E_assign (Bo y28.2) rfl (by kernel_rfl)) ?_
        refine XL_nil ?_
        kernel_rfl
       refine V_seq ?_
       obtain ⟨b32, hb32, h⟩ := of_bind h
       obtain ⟨b36, hb36, h⟩ := of_bind h
       obtain ⟨b39, hb39, h⟩ := of_bind h
       obtain ⟨b42, hb42, h⟩ := of_bind h
       obtain ⟨b45, hb45, h⟩ := of_bind h
       refine V_sreg (mb 174 45671926166590716193865151022383844364248236032) [144, 128, 560] (s1 := ⟨bt 14 (.ow 560 :: .bot :: .pt 128 0 :: .bot :: .pt 144 0 :: bt 136 (Bo b45 :: bt 18 [])), [(144, .box [Ti y26.1.1, Ti y26.1.2.1, Ti y26.1.2.2]), (128, .box [Ti y18.1.1, Ti y18.1.2.1, Ti y18.1.2.2]), (560, .arr 43 3 (y17.1.map c43))]⟩) ?_ ?_
       ·refine L0 rfl rfl (E_move (Bo y26.2) rfl (by kernel_rfl)) ?_
        refine L0 rfl rfl (Y0_not (b := y26.2) rfl (by kernel_rfl)) ?_
        refine L0 rfl rfl (E_move (Bo (!y26.2)) rfl (by kernel_rfl)) ?_
        refine XL_split (!y26.2) (fun hc29 => ?_) (fun hc29 => ?_)
        ·refine XL_skipF _ rfl rfl (by kernel_rfl) hc29 rfl ?_
         refine XL_skipF _ rfl rfl (by kernel_rfl) hc29 rfl ?_
         refine XL_cons rfl (X_of_Y0 rfl (Y0_pick1 (b := !y26.2) (p := true) (q := !y27.2) rfl (by kernel_rfl) hc29 (by kernel_rfl))) ?_
         refine L0 rfl rfl (E_move (Bo (bif (!y26.2) then true else (!y27.2))) rfl (by kernel_rfl)) ?_
         refine XL_split (bif (!y26.2) then true else (!y27.2)) (fun hc30 => ?_) (fun hc30 => ?_)
         ·have hb32 := some_inj (of_true hb32 hc30)
          refine XL_skipF _ rfl rfl (by kernel_rfl) hc30 rfl ?_
          refine XL_skipF _ rfl rfl (by kernel_rfl) hc30 rfl ?_
          refine XL_skipF _ rfl rfl (by kernel_rfl) hc30 rfl ?_
          refine XL_skipF _ rfl rfl (by kernel_rfl) hc30 rfl ?_
          refine XL_cons rfl (X_of_Y0 rfl (Y0_pickTe (b := bif (!y26.2) then true else (!y27.2)) (p := true) rfl (by kernel_rfl) hc30 (by kernel_rfl) hb32)) ?_
          refine L0 rfl rfl (E_move (Bo b32) rfl (by kernel_rfl)) ?_
          refine XL_split b32 (fun hc33 => ?_) (fun hc33 => ?_)
          ·refine XL_skipF _ rfl rfl (by kernel_rfl) hc33 rfl ?_
           refine XL_skipF _ rfl rfl (by kernel_rfl) hc33 rfl ?_
           refine XL_cons rfl (X_of_Y0 rfl (Y0_pick1 (b := b32) (p := true) (q := !y28.2) rfl (by kernel_rfl) hc33 (by kernel_rfl))) ?_
           refine L0 rfl rfl (E_move (Bo (bif b32 then true else (!y28.2))) rfl (by kernel_rfl)) ?_
           refine XL_split (bif b32 then true else (!y28.2)) (fun hc34 => ?_) (fun hc34 => ?_)
           ·have hb36 := some_inj (of_true hb36 hc34)
            refine XL_skipF _ rfl rfl (by kernel_rfl) hc34 rfl ?_
            refine XL_skipF _ rfl rfl (by kernel_rfl) hc34 rfl ?_
            refine XL_skipF _ rfl rfl (by kernel_rfl) hc34 rfl ?_
            refine XL_skipF _ rfl rfl (by kernel_rfl) hc34 rfl ?_
            refine XL_cons rfl (X_of_Y0 rfl (Y0_pickTe (b := bif b32 then true else (!y28.2)) (p := true) rfl (by kernel_rfl) hc34 (by kernel_rfl) hb36)) ?_
            refine L0 rfl rfl (E_move (Bo b36) rfl (by kernel_rfl)) ?_
            refine XL_split b36 (fun hc37 => ?_) (fun hc37 => ?_)
            ·have hb39 := some_inj (of_true hb39 hc37)
             refine XL_skipF _ rfl rfl (by kernel_rfl) hc37 rfl ?_
             refine XL_skipF _ rfl rfl (by kernel_rfl) hc37 rfl ?_
             refine XL_skipF _ rfl rfl (by kernel_rfl) hc37 rfl ?_
             refine XL_skipF _ rfl rfl (by kernel_rfl) hc37 rfl ?_
             refine XL_cons rfl (X_of_Y0 rfl (Y0_pickTe (b := b36) (p := true) rfl (by kernel_rfl) hc37 (by kernel_rfl) hb39)) ?_
             refine L0 rfl rfl (E_move (Bo b39) rfl (by kernel_rfl)) ?_
             refine XL_split b39 (fun hc40 => ?_) (fun hc40 => ?_)
             ·have hb42 := some_inj (of_true hb42 hc40)
              refine XL_skipF _ rfl rfl (by kernel_rfl) hc40 rfl ?_
              refine XL_skipF _ rfl rfl (by kernel_rfl) hc40 rfl ?_
              refine XL_skipF _ rfl rfl (by kernel_rfl) hc40 rfl ?_
              refine XL_skipF _ rfl rfl (by kernel_rfl) hc40 rfl ?_
              refine XL_cons rfl (X_of_Y0 rfl (Y0_pickTe (b := b39) (p := true) rfl (by kernel_rfl) hc40 (by kernel_rfl) hb42)) ?_
              refine L0 rfl rfl (E_move (Bo b42) rfl (by kernel_rfl)) ?_
              refine XL_split b42 (fun hc43 => ?_) (fun hc43 => ?_)
              ·have hb45 := some_inj (of_true hb45 hc43)
               refine XL_skipF _ rfl rfl (by kernel_rfl) hc43 rfl ?_
               refine XL_skipF _ rfl rfl (by kernel_rfl) hc43 rfl ?_
               refine XL_skipF _ rfl rfl (by kernel_rfl) hc43 rfl ?_
               refine XL_skipF _ rfl rfl (by kernel_rfl) hc43 rfl ?_
               refine XL_cons rfl (X_of_Y0 rfl (Y0_pickTe (b := b42) (p := true) rfl (by kernel_rfl) hc43 (by kernel_rfl) hb45)) ?_
               refine XL_nil ?_
               kernel_rfl
              ·have hb45 := of_false hb45 hc43
               obtain ⟨y44, hy44, hb45⟩ := of_bind hb45
               have hb45 := some_inj hb45
               refine XL_takeC _ rfl rfl (by kernel_rfl) hc43 (X_of_Y0 rfl (E_move (.ow 560) rfl (by kernel_rfl))) ?_
               refine XL_takeC _ rfl rfl (by kernel_rfl) hc43 (X_of_Y0 rfl (E_loadn (cs := [Ti y26.1.1, Ti y26.1.2.1, Ti y26.1.2.2]) [Ti y26.1.1, Ti y26.1.2.1, Ti y26.1.2.2] wd43 rfl (by kernel_rfl) (Nat.le_of_ble_eq_true rfl) (by kernel_rfl))) ?_
               refine XL_takeC _ rfl rfl (by kernel_rfl) hc43 (X_of_Y1 rfl (Y1_callS (s_laws_qHas hy44) cf_laws_qHas rfl (by kernel_rfl) rfl rfl)) ?_
               refine XL_takeC _ rfl rfl (by kernel_rfl) hc43 (X_of_Y0 rfl (Y0_not (b := y44) rfl (by kernel_rfl))) ?_
               refine XL_cons rfl (X_of_Y0 rfl (Y0_pickFe (b := b42) (p := !y44) rfl (by kernel_rfl) hc43 (by kernel_rfl) hb45)) ?_
               refine XL_nil ?_
               kernel_rfl
             ·have hb42 := of_false hb42 hc40
              obtain ⟨y41, hy41, hb42⟩ := of_bind hb42
              have hb42 := some_inj hb42
              refine XL_takeC _ rfl rfl (by kernel_rfl) hc40 (X_of_Y0 rfl (E_move (.ow 560) rfl (by kernel_rfl))) ?_
              refine XL_takeC _ rfl rfl (by kernel_rfl) hc40 (X_of_Y0 rfl (E_loadn (cs := [Ti y18.1.1, Ti y18.1.2.1, Ti y18.1.2.2]) [Ti y18.1.1, Ti y18.1.2.1, Ti y18.1.2.2] wd43 rfl (by kernel_rfl) (Nat.le_of_ble_eq_true rfl) (by kernel_rfl))) ?_
              refine XL_takeC _ rfl rfl (by kernel_rfl) hc40 (X_of_Y1 rfl (Y1_callS (s_laws_qHas hy41) cf_laws_qHas rfl (by kernel_rfl) rfl rfl)) ?_
              refine XL_takeC _ rfl rfl (by kernel_rfl) hc40 (X_of_Y0 rfl (Y0_not (b := y41) rfl (by kernel_rfl))) ?_
              refine XL_cons rfl (X_of_Y0 rfl (Y0_pickFe (b := b39) (p := !y41) rfl (by kernel_rfl) hc40 (by kernel_rfl) hb42)) ?_
              refine L0 rfl rfl (E_move (Bo b42) rfl (by kernel_rfl)) ?_
              refine XL_split b42 (fun hc43 => ?_) (fun hc43 => ?_)
              ·have hb45 := some_inj (of_true hb45 hc43)
               refine XL_skipF _ rfl rfl (by kernel_rfl) hc43 rfl ?_
               refine XL_skipF _ rfl rfl (by kernel_rfl) hc43 rfl ?_
               refine XL_skipF _ rfl rfl (by kernel_rfl) hc43 rfl ?_
               refine XL_skipF _ rfl rfl (by kernel_rfl) hc43 rfl ?_
               refine XL_cons rfl (X_of_Y0 rfl (Y0_pickTe (b := b42) (p := true) rfl (by kernel_rfl) hc43 (by kernel_rfl) hb45)) ?_
               refine XL_nil ?_
               kernel_rfl
              ·have hb45 := of_false hb45 hc43
               obtain ⟨y44, hy44, hb45⟩ := of_bind hb45
               have hb45 := some_inj hb45
               refine XL_takeC _ rfl rfl (by kernel_rfl) hc43 (X_of_Y0 rfl (E_move (.ow 560) rfl (by kernel_rfl))) ?_
               refine XL_takeC _ rfl rfl (by kernel_rfl) hc43 (X_of_Y0 rfl (E_loadn (cs := [Ti y26.1.1, Ti y26.1.2.1, Ti y26.1.2.2]) [Ti y26.1.1, Ti y26.1.2.1, Ti y26.1.2.2] wd43 rfl (by kernel_rfl) (Nat.le_of_ble_eq_true rfl) (by kernel_rfl))) ?_
               refine XL_takeC _ rfl rfl (by kernel_rfl) hc43 (X_of_Y1 rfl (Y1_callS (s_laws_qHas hy44) cf_laws_qHas rfl (by kernel_rfl) rfl rfl)) ?_
               refine XL_takeC _ rfl rfl (by kernel_rfl) hc43 (X_of_Y0 rfl (Y0_not (b := y44) rfl (by kernel_rfl))) ?_
               refine XL_cons rfl (X_of_Y0 rfl (Y0_pickFe (b := b42) (p := !y44) rfl (by kernel_rfl) hc43 (by kernel_rfl) hb45)) ?_
               refine XL_nil ?_
               kernel_rfl
            ·have hb39 := of_false hb39 hc37
             obtain ⟨y38, hy38, hb39⟩ := of_bind hb39
             have hb39 := some_inj hb39
             refine XL_takeC _ rfl rfl (by kernel_rfl) hc37 (X_of_Y0 rfl (E_move (.ow 904) rfl (by kernel_rfl))) ?_
             refine XL_takeC _ rfl rfl (by kernel_rfl) hc37 (X_of_Y0 rfl (E_loadn (cs := [Ti y26.1.1, Ti y26.1.2.1, Ti y26.1.2.2]) [Ti y26.1.1, Ti y26.1.2.1, Ti y26.1.2.2] wd43 rfl (by kernel_rfl) (Nat.le_of_ble_eq_true rfl) (by kernel_rfl))) ?_
             refine XL_takeC _ rfl rfl (by kernel_rfl) hc37 (X_of_Y1 rfl (Y1_callS (s_laws_qHas hy38) cf_laws_qHas rfl (by kernel_rfl) rfl rfl)) ?_
             refine XL_takeC _ rfl rfl (by kernel_rfl) hc37 (X_of_Y0 rfl (Y0_not (b := y38) rfl (by kernel_rfl))) ?_
             refine XL_cons rfl (X_of_Y0 rfl (Y0_pickFe (b := b36) (p := !y38) rfl (by kernel_rfl) hc37 (by kernel_rfl) hb39)) ?_
             refine L0 rfl rfl (E_move (Bo b39) rfl (by kernel_rfl)) ?_
             refine XL_split b39 (fun hc40 => ?_) (fun hc40 => ?_)
             ·have hb42 := some_inj (of_true hb42 hc40)
              refine XL_skipF _ rfl rfl (by kernel_rfl) hc40 rfl ?_
              refine XL_skipF _ rfl rfl (by kernel_rfl) hc40 rfl ?_
              refine XL_skipF _ rfl rfl (by kernel_rfl) hc40 rfl ?_
              refine XL_skipF _ rfl rfl (by kernel_rfl) hc40 rfl ?_
              refine XL_cons rfl (X_of_Y0 rfl (Y0_pickTe (b := b39) (p := true) rfl (by kernel_rfl) hc40 (by kernel_rfl) hb42)) ?_
              refine L0 rfl rfl (E_move (Bo b42) rfl (by kernel_rfl)) ?_
              refine XL_split b42 (fun hc43 => ?_) (fun hc43 => ?_)
              ·have hb45 := some_inj (of_true hb45 hc43)
               refine XL_skipF _ rfl rfl (by kernel_rfl) hc43 rfl ?_
               refine XL_skipF _ rfl rfl (by kernel_rfl) hc43 rfl ?_
               refine XL_skipF _ rfl rfl (by kernel_rfl) hc43 rfl ?_
               refine XL_skipF _ rfl rfl (by kernel_rfl) hc43 rfl ?_
               refine XL_cons rfl (X_of_Y0 rfl (Y0_pickTe (b := b42) (p := true) rfl (by kernel_rfl) hc43 (by kernel_rfl) hb45)) ?_
               refine XL_nil ?_
               kernel_rfl
              ·have hb45 := of_false hb45 hc43
               obtain ⟨y44, hy44, hb45⟩ := of_bind hb45
               have hb45 := some_inj hb45
               refine XL_takeC _ rfl rfl (by kernel_rfl) hc43 (X_of_Y0 rfl (E_move (.ow 560) rfl (by kernel_rfl))) ?_
               refine XL_takeC _ rfl rfl (by kernel_rfl) hc43 (X_of_Y0 rfl (E_loadn (cs := [Ti y26.1.1, Ti y26.1.2.1, Ti y26.1.2.2]) [Ti y26.1.1, Ti y26.1.2.1, Ti y26.1.2.2] wd43 rfl (by kernel_rfl) (Nat.le_of_ble_eq_true rfl) (by kernel_rfl))) ?_
               refine XL_takeC _ rfl rfl (by kernel_rfl) hc43 (X_of_Y1 rfl (Y1_callS (s_laws_qHas hy44) cf_laws_qHas rfl (by kernel_rfl) rfl rfl)) ?_
               refine XL_takeC _ rfl rfl (by kernel_rfl) hc43 (X_of_Y0 rfl (Y0_not (b := y44) rfl (by kernel_rfl))) ?_
               refine XL_cons rfl (X_of_Y0 rfl (Y0_pickFe (b := b42) (p := !y44) rfl (by kernel_rfl) hc43 (by kernel_rfl) hb45)) ?_
               refine XL_nil ?_
               kernel_rfl
             ·have hb42 := of_false hb42 hc40
              obtain ⟨y41, hy41, hb42⟩ := of_bind hb42
              have hb42 := some_inj hb42
              refine XL_takeC _ rfl rfl (by kernel_rfl) hc40 (X_of_Y0 rfl (E_move (.ow 560) rfl (by kernel_rfl))) ?_
              refine XL_takeC _ rfl rfl (by kernel_rfl) hc40 (X_of_Y0 rfl (E_loadn (cs := [Ti y18.1.1, Ti y18.1.2.1, Ti y18.1.2.2]) [Ti y18.1.1, Ti y18.1.2.1, Ti y18.1.2.2] wd43 rfl (by kernel_rfl) (Nat.le_of_ble_eq_true rfl) (by kernel_rfl))) ?_
              refine XL_takeC _ rfl rfl (by kernel_rfl) hc40 (X_of_Y1 rfl (Y1_callS (s_laws_qHas hy41) cf_laws_qHas rfl (by kernel_rfl) rfl rfl)) ?_
              refine XL_takeC _ rfl rfl (by kernel_rfl) hc40 (X_of_Y0 rfl (Y0_not (b := y41) rfl (by kernel_rfl))) ?_
              refine XL_cons rfl (X_of_Y0 rfl (Y0_pickFe (b := b39) (p := !y41) rfl (by kernel_rfl) hc40 (by kernel_rfl) hb42)) ?_
              refine L0 rfl rfl (E_move (Bo b42) rfl (by kernel_rfl)) ?_
              refine XL_split b42 (fun hc43 => ?_) (fun hc43 => ?_)
              ·have hb45 := some_inj (of_true hb45 hc43)
               refine XL_skipF _ rfl rfl (by kernel_rfl) hc43 rfl ?_
               refine XL_skipF _ rfl rfl (by kernel_rfl) hc43 rfl ?_
               refine XL_skipF _ rfl rfl (by kernel_rfl) hc43 rfl ?_
               refine XL_skipF _ rfl rfl (by kernel_rfl) hc43 rfl ?_
               refine XL_cons rfl (X_of_Y0 rfl (Y0_pickTe (b := b42) (p := true) rfl (by kernel_rfl) hc43 (by kernel_rfl) hb45)) ?_
               refine XL_nil ?_
               kernel_rfl
              ·have hb45 := of_false hb45 hc43
               obtain ⟨y44, hy44, hb45⟩ := of_bind hb45
               have hb45 := some_inj hb45
               refine XL_takeC _ rfl rfl (by kernel_rfl) hc43 (X_of_Y0 rfl (E_move (.ow 560) rfl (by kernel_rfl))) ?_
               refine XL_takeC _ rfl rfl (by kernel_rfl) hc43 (X_of_Y0 rfl (E_loadn (cs := [Ti y26.1.1, Ti y26.1.2.1, Ti y26.1.2.2]) [Ti y26.1.1, Ti y26.1.2.1, Ti y26.1.2.2] wd43 rfl (by kernel_rfl) (Nat.le_of_ble_eq_true rfl) (by kernel_rfl))) ?_
               refine XL_takeC _ rfl rfl (by kernel_rfl) hc43 (X_of_Y1 rfl (Y1_callS (s_laws_qHas hy44) cf_laws_qHas rfl (by kernel_rfl) rfl rfl)) ?_
               refine XL_takeC _ rfl rfl (by kernel_rfl) hc43 (X_of_Y0 rfl (Y0_not (b := y44) rfl (by kernel_rfl))) ?_
               refine XL_cons rfl (X_of_Y0 rfl (Y0_pickFe (b := b42) (p := !y44) rfl (by kernel_rfl) hc43 (by kernel_rfl) hb45)) ?_
               refine XL_nil ?_
               kernel_rfl
           ·have hb36 := of_false hb36 hc34
            obtain ⟨y35, hy35, hb36⟩ := of_bind hb36
            have hb36 := some_inj hb36
            refine XL_takeC _ rfl rfl (by kernel_rfl) hc34 (X_of_Y0 rfl (E_move (.ow 904) rfl (by kernel_rfl))) ?_
            refine XL_takeC _ rfl rfl (by kernel_rfl) hc34 (X_of_Y0 rfl (E_loadn (cs := [Ti y18.1.1, Ti y18.1.2.1, Ti y18.1.2.2]) [Ti y18.1.1, Ti y18.1.2.1, Ti y18.1.2.2] wd43 rfl (by kernel_rfl) (Nat.le_of_ble_eq_true rfl) (by kernel_rfl))) ?_
            refine XL_takeC _ rfl rfl (by kernel_rfl) hc34 (X_of_Y1 rfl (Y1_callS (s_laws_qHas hy35) cf_laws_qHas rfl (by kernel_rfl) rfl rfl)) ?_
            refine XL_takeC _ rfl rfl (by kernel_rfl) hc34 (X_of_Y0 rfl (Y0_not (b := y35) rfl (by kernel_rfl))) ?_
            refine XL_cons rfl (X_of_Y0 rfl (Y0_pickFe (b := bif b32 then true else (!y28.2)) (p := !y35) rfl (by kernel_rfl) hc34 (by kernel_rfl) hb36)) ?_
            refine L0 rfl rfl (E_move (Bo b36) rfl (by kernel_rfl)) ?_
            refine XL_split b36 (fun hc37 => ?_) (fun hc37 => ?_)
            ·have hb39 := some_inj (of_true hb39 hc37)
             refine XL_skipF _ rfl rfl (by kernel_rfl) hc37 rfl ?_
             refine XL_skipF _ rfl rfl (by kernel_rfl) hc37 rfl ?_
             refine XL_skipF _ rfl rfl (by kernel_rfl) hc37 rfl ?_
             refine XL_skipF _ rfl rfl (by kernel_rfl) hc37 rfl ?_
             refine XL_cons rfl (X_of_Y0 rfl (Y0_pickTe (b := b36) (p := true) rfl (by kernel_rfl) hc37 (by kernel_rfl) hb39)) ?_
             refine L0 rfl rfl (E_move (Bo b39) rfl (by kernel_rfl)) ?_
             refine XL_split b39 (fun hc40 => ?_) (fun hc40 => ?_)
             ·have hb42 := some_inj (of_true hb42 hc40)
              refine XL_skipF _ rfl rfl (by kernel_rfl) hc40 rfl ?_
              refine XL_skipF _ rfl rfl (by kernel_rfl) hc40 rfl ?_
              refine XL_skipF _ rfl rfl (by kernel_rfl) hc40 rfl ?_
              refine XL_skipF _ rfl rfl (by kernel_rfl) hc40 rfl ?_
              refine XL_cons rfl (X_of_Y0 rfl (Y0_pickTe (b := b39) (p := true) rfl (by kernel_rfl) hc40 (by kernel_rfl) hb42)) ?_
              refine L0 rfl rfl (E_move (Bo b42) rfl (by kernel_rfl)) ?_
              refine XL_split b42 (fun hc43 => ?_) (fun hc43 => ?_)
              ·have hb45 := some_inj (of_true hb45 hc43)
               refine XL_skipF _ rfl rfl (by kernel_rfl) hc43 rfl ?_
               refine XL_skipF _ rfl rfl (by kernel_rfl) hc43 rfl ?_
               refine XL_skipF _ rfl rfl (by kernel_rfl) hc43 rfl ?_
               refine XL_skipF _ rfl rfl (by kernel_rfl) hc43 rfl ?_
               refine XL_cons rfl (X_of_Y0 rfl (Y0_pickTe (b := b42) (p := true) rfl (by kernel_rfl) hc43 (by kernel_rfl) hb45)) ?_
               refine XL_nil ?_
               kernel_rfl
              ·have hb45 := of_false hb45 hc43
               obtain ⟨y44, hy44, hb45⟩ := of_bind hb45
               have hb45 := some_inj hb45
               refine XL_takeC _ rfl rfl (by kernel_rfl) hc43 (X_of_Y0 rfl (E_move (.ow 560) rfl (by kernel_rfl))) ?_
               refine XL_takeC _ rfl rfl (by kernel_rfl) hc43 (X_of_Y0 rfl (E_loadn (cs := [Ti y26.1.1, Ti y26.1.2.1, Ti y26.1.2.2]) [Ti y26.1.1, Ti y26.1.2.1, Ti y26.1.2.2] wd43 rfl (by kernel_rfl) (Nat.le_of_ble_eq_true rfl) (by kernel_rfl))) ?_
               refine XL_takeC _ rfl rfl (by kernel_rfl) hc43 (X_of_Y1 rfl (Y1_callS (s_laws_qHas hy44) cf_laws_qHas rfl (by kernel_rfl) rfl rfl)) ?_
               refine XL_takeC _ rfl rfl (by kernel_rfl) hc43 (X_of_Y0 rfl (Y0_not (b := y44) rfl (by kernel_rfl))) ?_
               refine XL_cons rfl (X_of_Y0 rfl (Y0_pickFe (b := b42) (p := !y44) rfl (by kernel_rfl) hc43 (by kernel_rfl) hb45)) ?_
               refine XL_nil ?_
               kernel_rfl
             ·have hb42 := of_false hb42 hc40
              obtain ⟨y41, hy41, hb42⟩ := of_bind hb42
              have hb42 := some_inj hb42
              refine XL_takeC _ rfl rfl (by kernel_rfl) hc40 (X_of_Y0 rfl (E_move (.ow 560) rfl (by kernel_rfl))) ?_
              refine XL_takeC _ rfl rfl (by kernel_rfl) hc40 (X_of_Y0 rfl (E_loadn (cs := [Ti y18.1.1, Ti y18.1.2.1, Ti y18.1.2.2]) [Ti y18.1.1, Ti y18.1.2.1, Ti y18.1.2.2] wd43 rfl (by kernel_rfl) (Nat.le_of_ble_eq_true rfl) (by kernel_rfl))) ?_
              refine XL_takeC _ rfl rfl (by kernel_rfl) hc40 (X_of_Y1 rfl (Y1_callS (s_laws_qHas hy41) cf_laws_qHas rfl (by kernel_rfl) rfl rfl)) ?_
              refine XL_takeC _ rfl rfl (by kernel_rfl) hc40 (X_of_Y0 rfl (Y0_not (b := y41) rfl (by kernel_rfl))) ?_
              refine XL_cons rfl (X_of_Y0 rfl (Y0_pickFe (b := b39) (p := !y41) rfl (by kernel_rfl) hc40 (by kernel_rfl) hb42)) ?_
              refine L0 rfl rfl (E_move (Bo b42) rfl (by kernel_rfl)) ?_
              refine XL_split b42 (fun hc43 => ?_) (fun hc43 => ?_)
              ·have hb45 := some_inj (of_true hb45 hc43)
               refine XL_skipF _ rfl rfl (by kernel_rfl) hc43 rfl ?_
               refine XL_skipF _ rfl rfl (by kernel_rfl) hc43 rfl ?_
               refine XL_skipF _ rfl rfl (by kernel_rfl) hc43 rfl ?_
               refine XL_skipF _ rfl rfl (by kernel_rfl) hc43 rfl ?_
               refine XL_cons rfl (X_of_Y0 rfl (Y0_pickTe (b := b42) (p := true) rfl (by kernel_rfl) hc43 (by kernel_rfl) hb45)) ?_
               refine XL_nil ?_
               kernel_rfl
              ·have hb45 := of_false hb45 hc43
               obtain ⟨y44, hy44, hb45⟩ := of_bind hb45
               have hb45 := some_inj hb45
               refine XL_takeC _ rfl rfl (by kernel_rfl) hc43 (X_of_Y0 rfl (E_move (.ow 560) rfl (by kernel_rfl))) ?_
               refine XL_takeC _ rfl rfl (by kernel_rfl) hc43 (X_of_Y0 rfl (E_loadn (cs := [Ti y26.1.1, Ti y26.1.2.1, Ti y26.1.2.2]) [Ti y26.1.1, Ti y26.1.2.1, Ti y26.1.2.2] wd43 rfl (by kernel_rfl) (Nat.le_of_ble_eq_true rfl) (by kernel_rfl))) ?_
               refine XL_takeC _ rfl rfl (by kernel_rfl) hc43 (X_of_Y1 rfl (Y1_callS (s_laws_qHas hy44) cf_laws_qHas rfl (by kernel_rfl) rfl rfl)) ?_
               refine XL_takeC _ rfl rfl (by kernel_rfl) hc43 (X_of_Y0 rfl (Y0_not (b := y44) rfl (by kernel_rfl))) ?_
               refine XL_cons rfl (X_of_Y0 rfl (Y0_pickFe (b := b42) (p := !y44) rfl (by kernel_rfl) hc43 (by kernel_rfl) hb45)) ?_
               refine XL_nil ?_
               kernel_rfl
            ·have hb39 := of_false hb39 hc37
             obtain ⟨y38, hy38, hb39⟩ := of_bind hb39
             have hb39 := some_inj hb39
             refine XL_takeC _ rfl rfl (by kernel_rfl) hc37 (X_of_Y0 rfl (E_move (.ow 904) rfl (by kernel_rfl))) ?_
             refine XL_takeC _ rfl rfl (by kernel_rfl) hc37 (X_of_Y0 rfl (E_loadn (cs := [Ti y26.1.1, Ti y26.1.2.1, Ti y26.1.2.2]) [Ti y26.1.1, Ti y26.1.2.1, Ti y26.1.2.2] wd43 rfl (by kernel_rfl) (Nat.le_of_ble_eq_true rfl) (by kernel_rfl))) ?_
             refine XL_takeC _ rfl rfl (by kernel_rfl) hc37 (X_of_Y1 rfl (Y1_callS (s_laws_qHas hy38) cf_laws_qHas rfl (by kernel_rfl) rfl rfl)) ?_
             refine XL_takeC _ rfl rfl (by kernel_rfl) hc37 (X_of_Y0 rfl (Y0_not (b := y38) rfl (by kernel_rfl))) ?_
             refine XL_cons rfl (X_of_Y0 rfl (Y0_pickFe (b := b36) (p := !y38) rfl (by kernel_rfl) hc37 (by kernel_rfl) hb39)) ?_
             refine L0 rfl rfl (E_move (Bo b39) rfl (by kernel_rfl)) ?_
             refine XL_split b39 (fun hc40 => ?_) (fun hc40 => ?_)
             ·have hb42 := some_inj (of_true hb42 hc40)
              refine XL_skipF _ rfl rfl (by kernel_rfl) hc40 rfl ?_
              refine XL_skipF _ rfl rfl (by kernel_rfl) hc40 rfl ?_
              refine XL_skipF _ rfl rfl (by kernel_rfl) hc40 rfl ?_
              refine XL_skipF _ rfl rfl (by kernel_rfl) hc40 rfl ?_
              refine XL_cons rfl (X_of_Y0 rfl (Y0_pickTe (b := b39) (p := true) rfl (by kernel_rfl) hc40 (by kernel_rfl) hb42)) ?_
              refine L0 rfl rfl (E_move (Bo b42) rfl (by kernel_rfl)) ?_
              refine XL_split b42 (fun hc43 => ?_) (fun hc43 => ?_)
              ·have hb45 := some_inj (of_true hb45 hc43)
               refine XL_skipF _ rfl rfl (by kernel_rfl) hc43 rfl ?_
               refine XL_skipF _ rfl rfl (by kernel_rfl) hc43 rfl ?_
               refine XL_skipF _ rfl rfl (by kernel_rfl) hc43 rfl ?_
               refine XL_skipF _ rfl rfl (by kernel_rfl) hc43 rfl ?_
               refine XL_cons rfl (X_of_Y0 rfl (Y0_pickTe (b := b42) (p := true) rfl (by kernel_rfl) hc43 (by kernel_rfl) hb45)) ?_
               refine XL_nil ?_
               kernel_rfl
              ·have hb45 := of_false hb45 hc43
               obtain ⟨y44, hy44, hb45⟩ := of_bind hb45
               have hb45 := some_inj hb45
               refine XL_takeC _ rfl rfl (by kernel_rfl) hc43 (X_of_Y0 rfl (E_move (.ow 560) rfl (by kernel_rfl))) ?_
               refine XL_takeC _ rfl rfl (by kernel_rfl) hc43 (X_of_Y0 rfl (E_loadn (cs := [Ti y26.1.1, Ti y26.1.2.1, Ti y26.1.2.2]) [Ti y26.1.1, Ti y26.1.2.1, Ti y26.1.2.2] wd43 rfl (by kernel_rfl) (Nat.le_of_ble_eq_true rfl) (by kernel_rfl))) ?_
               refine XL_takeC _ rfl rfl (by kernel_rfl) hc43 (X_of_Y1 rfl (Y1_callS (s_laws_qHas hy44) cf_laws_qHas rfl (by kernel_rfl) rfl rfl)) ?_
               refine XL_takeC _ rfl rfl (by kernel_rfl) hc43 (X_of_Y0 rfl (Y0_not (b := y44) rfl (by kernel_rfl))) ?_
               refine XL_cons rfl (X_of_Y0 rfl (Y0_pickFe (b := b42) (p := !y44) rfl (by kernel_rfl) hc43 (by kernel_rfl) hb45)) ?_
               refine XL_nil ?_
               kernel_rfl
             ·have hb42 := of_false hb42 hc40
              obtain ⟨y41, hy41, hb42⟩ := of_bind hb42
              have hb42 := some_inj hb42
              refine XL_takeC _ rfl rfl (by kernel_rfl) hc40 (X_of_Y0 rfl (E_move (.ow 560) rfl (by kernel_rfl))) ?_
              refine XL_takeC _ rfl rfl (by kernel_rfl) hc40 (X_of_Y0 rfl (E_loadn (cs := [Ti y18.1.1, Ti y18.1.2.1, Ti y18.1.2.2]) [Ti y18.1.1, Ti y18.1.2.1, Ti y18.1.2.2] wd43 rfl (by kernel_rfl) (Nat.le_of_ble_eq_true rfl) (by kernel_rfl))) ?_
              refine XL_takeC _ rfl rfl (by kernel_rfl) hc40 (X_of_Y1 rfl (Y1_callS (s_laws_qHas hy41) cf_laws_qHas rfl (by kernel_rfl) rfl rfl)) ?_
              refine XL_takeC _ rfl rfl (by kernel_rfl) hc40 (X_of_Y0 rfl (Y0_not (b := y41) rfl (by kernel_rfl))) ?_
              refine XL_cons rfl (X_of_Y0 rfl (Y0_pickFe (b := b39) (p := !y41) rfl (by kernel_rfl) hc40 (by kernel_rfl) hb42)) ?_
              refine L0 rfl rfl (E_move (Bo b42) rfl (by kernel_rfl)) ?_
              refine XL_split b42 (fun hc43 => ?_) (fun hc43 => ?_)
              ·have hb45 := some_inj (of_true hb45 hc43)
               refine XL_skipF _ rfl rfl (by kernel_rfl) hc43 rfl ?_
               refine XL_skipF _ rfl rfl (by kernel_rfl) hc43 rfl ?_
               refine XL_skipF _ rfl rfl (by kernel_rfl) hc43 rfl ?_
               refine XL_skipF _ rfl rfl (by kernel_rfl) hc43 rfl ?_
               refine XL_cons rfl (X_of_Y0 rfl (Y0_pickTe (b := b42) (p := true) rfl (by kernel_rfl) hc43 (by kernel_rfl) hb45)) ?_
               refine XL_nil ?_
               kernel_rfl
              ·have hb45 := of_false hb45 hc43
               obtain ⟨y44, hy44, hb45⟩ := of_bind hb45
               have hb45 := some_inj hb45
               refine XL_takeC _ rfl rfl (by kernel_rfl) hc43 (X_of_Y0 rfl (E_move (.ow 560) rfl (by kernel_rfl))) ?_
               refine XL_takeC _ rfl rfl (by kernel_rfl) hc43 (X_of_Y0 rfl (E_loadn (cs := [Ti y26.1.1, Ti y26.1.2.1, Ti y26.1.2.2]) [Ti y26.1.1, Ti y26.1.2.1, Ti y26.1.2.2] wd43 rfl (by kernel_rfl) (Nat.le_of_ble_eq_true rfl) (by kernel_rfl))) ?_
               refine XL_takeC _ rfl rfl (by kernel_rfl) hc43 (X_of_Y1 rfl (Y1_callS (s_laws_qHas hy44) cf_laws_qHas rfl (by kernel_rfl) rfl rfl)) ?_
               refine XL_takeC _ rfl rfl (by kernel_rfl) hc43 (X_of_Y0 rfl (Y0_not (b := y44) rfl (by kernel_rfl))) ?_
               refine XL_cons rfl (X_of_Y0 rfl (Y0_pickFe (b := b42) (p := !y44) rfl (by kernel_rfl) hc43 (by kernel_rfl) hb45)) ?_
               refine XL_nil ?_
               kernel_rfl
          ·refine XL_takeC _ rfl rfl (by kernel_rfl) hc33 (X_of_Y0 rfl (E_move (Bo y28.2) rfl (by kernel_rfl))) ?_
           refine XL_takeC _ rfl rfl (by kernel_rfl) hc33 (X_of_Y0 rfl (Y0_not (b := y28.2) rfl (by kernel_rfl))) ?_
           refine XL_cons rfl (X_of_Y0 rfl (Y0_pick0 (b := b32) (p := true) (q := !y28.2) rfl (by kernel_rfl) hc33 (by kernel_rfl))) ?_
           refine L0 rfl rfl (E_move (Bo (bif b32 then true else (!y28.2))) rfl (by kernel_rfl)) ?_
           refine XL_split (bif b32 then true else (!y28.2)) (fun hc34 => ?_) (fun hc34 => ?_)
           ·have hb36 := some_inj (of_true hb36 hc34)
            refine XL_skipF _ rfl rfl (by kernel_rfl) hc34 rfl ?_
            refine XL_skipF _ rfl rfl (by kernel_rfl) hc34 rfl ?_
            refine XL_skipF _ rfl rfl (by kernel_rfl) hc34 rfl ?_
            refine XL_skipF _ rfl rfl (by kernel_rfl) hc34 rfl ?_
            refine XL_cons rfl (X_of_Y0 rfl (Y0_pickTe (b := bif b32 then true else (!y28.2)) (p := true) rfl (by kernel_rfl) hc34 (by kernel_rfl) hb36)) ?_
            refine L0 rfl rfl (E_move (Bo b36) rfl (by kernel_rfl)) ?_
            refine XL_split b36 (fun hc37 => ?_) (fun hc37 => ?_)
            ·have hb39 := some_inj (of_true hb39 hc37)
             refine XL_skipF _ rfl rfl (by kernel_rfl) hc37 rfl ?_
             refine XL_skipF _ rfl rfl (by kernel_rfl) hc37 rfl ?_
             refine XL_skipF _ rfl rfl (by kernel_rfl) hc37 rfl ?_
             refine XL_skipF _ rfl rfl (by kernel_rfl) hc37 rfl ?_
             refine XL_cons rfl (X_of_Y0 rfl (Y0_pickTe (b := b36) (p := true) rfl (by kernel_rfl) hc37 (by kernel_rfl) hb39)) ?_
             refine L0 rfl rfl (E_move (Bo b39) rfl (by kernel_rfl)) ?_
             refine XL_split b39 (fun hc40 => ?_) (fun hc40 => ?_)
             ·have hb42 := some_inj (of_true hb42 hc40)
              refine XL_skipF _ rfl rfl (by kernel_rfl) hc40 rfl ?_
              refine XL_skipF _ rfl rfl (by kernel_rfl) hc40 rfl ?_
              refine XL_skipF _ rfl rfl (by kernel_rfl) hc40 rfl ?_
              refine XL_skipF _ rfl rfl (by kernel_rfl) hc40 rfl ?_
              refine XL_cons rfl (X_of_Y0 rfl (Y0_pickTe (b := b39) (p := true) rfl (by kernel_rfl) hc40 (by kernel_rfl) hb42)) ?_
              refine L0 rfl rfl (E_move (Bo b42) rfl (by kernel_rfl)) ?_
              refine XL_split b42 (fun hc43 => ?_) (fun hc43 => ?_)
              ·have hb45 := some_inj (of_true hb45 hc43)
               refine XL_skipF _ rfl rfl (by kernel_rfl) hc43 rfl ?_
               refine XL_skipF _ rfl rfl (by kernel_rfl) hc43 rfl ?_
               refine XL_skipF _ rfl rfl (by kernel_rfl) hc43 rfl ?_
               refine XL_skipF _ rfl rfl (by kernel_rfl) hc43 rfl ?_
               refine XL_cons rfl (X_of_Y0 rfl (Y0_pickTe (b := b42) (p := true) rfl (by kernel_rfl) hc43 (by kernel_rfl) hb45)) ?_
               refine XL_nil ?_
               kernel_rfl
              ·have hb45 := of_false hb45 hc43
               obtain ⟨y44, hy44, hb45⟩ := of_bind hb45
               have hb45 := some_inj hb45
               refine XL_takeC _ rfl rfl (by kernel_rfl) hc43 (X_of_Y0 rfl (E_move (.ow 560) rfl (by kernel_rfl))) ?_
               refine XL_takeC _ rfl rfl (by kernel_rfl) hc43 (X_of_Y0 rfl (E_loadn (cs := [Ti y26.1.1, Ti y26.1.2.1, Ti y26.1.2.2]) [Ti y26.1.1, Ti y26.1.2.1, Ti y26.1.2.2] wd43 rfl (by kernel_rfl) (Nat.le_of_ble_eq_true rfl) (by kernel_rfl))) ?_
               refine XL_takeC _ rfl rfl (by kernel_rfl) hc43 (X_of_Y1 rfl (Y1_callS (s_laws_qHas hy44) cf_laws_qHas rfl (by kernel_rfl) rfl rfl)) ?_
               refine XL_takeC _ rfl rfl (by kernel_rfl) hc43 (X_of_Y0 rfl (Y0_not (b := y44) rfl (by kernel_rfl))) ?_
               refine XL_cons rfl (X_of_Y0 rfl (Y0_pickFe (b := b42) (p := !y44) rfl (by kernel_rfl) hc43 (by kernel_rfl) hb45)) ?_
               refine XL_nil ?_
               kernel_rfl
             ·have hb42 := of_false hb42 hc40
              obtain ⟨y41, hy41, hb42⟩ := of_bind hb42
              have hb42 := some_inj hb42
              refine XL_takeC _ rfl rfl (by kernel_rfl) hc40 (X_of_Y0 rfl (E_move (.ow 560) rfl (by kernel_rfl))) ?_
              refine XL_takeC _ rfl rfl (by kernel_rfl) hc40 (X_of_Y0 rfl (E_loadn (cs := [Ti y18.1.1, Ti y18.1.2.1, Ti y18.1.2.2]) [Ti y18.1.1, Ti y18.1.2.1, Ti y18.1.2.2] wd43 rfl (by kernel_rfl) (Nat.le_of_ble_eq_true rfl) (by kernel_rfl))) ?_
              refine XL_takeC _ rfl rfl (by kernel_rfl) hc40 (X_of_Y1 rfl (Y1_callS (s_laws_qHas hy41) cf_laws_qHas rfl (by kernel_rfl) rfl rfl)) ?_
              refine XL_takeC _ rfl rfl (by kernel_rfl) hc40 (X_of_Y0 rfl (Y0_not (b := y41) rfl (by kernel_rfl))) ?_
              refine XL_cons rfl (X_of_Y0 rfl (Y0_pickFe (b := b39) (p := !y41) rfl (by kernel_rfl) hc40 (by kernel_rfl) hb42)) ?_
              refine L0 rfl rfl (E_move (Bo b42) rfl (by kernel_rfl)) ?_
              refine XL_split b42 (fun hc43 => ?_) (fun hc43 => ?_)
              ·have hb45 := some_inj (of_true hb45 hc43)
               refine XL_skipF _ rfl rfl (by kernel_rfl) hc43 rfl ?_
               refine XL_skipF _ rfl rfl (by kernel_rfl) hc43 rfl ?_
               refine XL_skipF _ rfl rfl (by kernel_rfl) hc43 rfl ?_
               refine XL_skipF _ rfl rfl (by kernel_rfl) hc43 rfl ?_
               refine XL_cons rfl (X_of_Y0 rfl (Y0_pickTe (b := b42) (p := true) rfl (by kernel_rfl) hc43 (by kernel_rfl) hb45)) ?_
               refine XL_nil ?_
               kernel_rfl
              ·have hb45 := of_false hb45 hc43
               obtain ⟨y44, hy44, hb45⟩ := of_bind hb45
               have hb45 := some_inj hb45
               refine XL_takeC _ rfl rfl (by kernel_rfl) hc43 (X_of_Y0 rfl (E_move (.ow 560) rfl (by kernel_rfl))) ?_
               refine XL_takeC _ rfl rfl (by kernel_rfl) hc43 (X_of_Y0 rfl (E_loadn (cs := [Ti y26.1.1, Ti y26.1.2.1, Ti y26.1.2.2]) [Ti y26.1.1, Ti y26.1.2.1, Ti y26.1.2.2] wd43 rfl (by kernel_rfl) (Nat.le_of_ble_eq_true rfl) (by kernel_rfl))) ?_
               refine XL_takeC _ rfl rfl (by kernel_rfl) hc43 (X_of_Y1 rfl (Y1_callS (s_laws_qHas hy44) cf_laws_qHas rfl (by kernel_rfl) rfl rfl)) ?_
               refine XL_takeC _ rfl rfl (by kernel_rfl) hc43 (X_of_Y0 rfl (Y0_not (b := y44) rfl (by kernel_rfl))) ?_
               refine XL_cons rfl (X_of_Y0 rfl (Y0_pickFe (b := b42) (p := !y44) rfl (by kernel_rfl) hc43 (by kernel_rfl) hb45)) ?_
               refine XL_nil ?_
               kernel_rfl
            ·have hb39 := of_false hb39 hc37
             obtain ⟨y38, hy38, hb39⟩ := of_bind hb39
             have hb39 := some_inj hb39
             refine XL_takeC _ rfl rfl (by kernel_rfl) hc37 (X_of_Y0 rfl (E_move (.ow 904) rfl (by kernel_rfl))) ?_
             refine XL_takeC _ rfl rfl (by kernel_rfl) hc37 (X_of_Y0 rfl (E_loadn (cs := [Ti y26.1.1, Ti y26.1.2.1, Ti y26.1.2.2]) [Ti y26.1.1, Ti y26.1.2.1, Ti y26.1.2.2] wd43 rfl (by kernel_rfl) (Nat.le_of_ble_eq_true rfl) (by kernel_rfl))) ?_
             refine XL_takeC _ rfl rfl (by kernel_rfl) hc37 (X_of_Y1 rfl (Y1_callS (s_laws_qHas hy38) cf_laws_qHas rfl (by kernel_rfl) rfl rfl)) ?_
             refine XL_takeC _ rfl rfl (by kernel_rfl) hc37 (X_of_Y0 rfl (Y0_not (b := y38) rfl (by kernel_rfl))) ?_
             refine XL_cons rfl (X_of_Y0 rfl (Y0_pickFe (b := b36) (p := !y38) rfl (by kernel_rfl) hc37 (by kernel_rfl) hb39)) ?_
             refine L0 rfl rfl (E_move (Bo b39) rfl (by kernel_rfl)) ?_
             refine XL_split b39 (fun hc40 => ?_) (fun hc40 => ?_)
             ·have hb42 := some_inj (of_true hb42 hc40)
              refine XL_skipF _ rfl rfl (by kernel_rfl) hc40 rfl ?_
              refine XL_skipF _ rfl rfl (by kernel_rfl) hc40 rfl ?_
              refine XL_skipF _ rfl rfl (by kernel_rfl) hc40 rfl ?_
              refine XL_skipF _ rfl rfl (by kernel_rfl) hc40 rfl ?_
              refine XL_cons rfl (X_of_Y0 rfl (Y0_pickTe (b := b39) (p := true) rfl (by kernel_rfl) hc40 (by kernel_rfl) hb42)) ?_
              refine L0 rfl rfl (E_move (Bo b42) rfl (by kernel_rfl)) ?_
              refine XL_split b42 (fun hc43 => ?_) (fun hc43 => ?_)
              ·have hb45 := some_inj (of_true hb45 hc43)
               refine XL_skipF _ rfl rfl (by kernel_rfl) hc43 rfl ?_
               refine XL_skipF _ rfl rfl (by kernel_rfl) hc43 rfl ?_
               refine XL_skipF _ rfl rfl (by kernel_rfl) hc43 rfl ?_
               refine XL_skipF _ rfl rfl (by kernel_rfl) hc43 rfl ?_
               refine XL_cons rfl (X_of_Y0 rfl (Y0_pickTe (b := b42) (p := true) rfl (by kernel_rfl) hc43 (by kernel_rfl) hb45)) ?_
               refine XL_nil ?_
               kernel_rfl
              ·have hb45 := of_false hb45 hc43
               obtain ⟨y44, hy44, hb45⟩ := of_bind hb45
               have hb45 := some_inj hb45
               refine XL_takeC _ rfl rfl (by kernel_rfl) hc43 (X_of_Y0 rfl (E_move (.ow 560) rfl (by kernel_rfl))) ?_
               refine XL_takeC _ rfl rfl (by kernel_rfl) hc43 (X_of_Y0 rfl (E_loadn (cs := [Ti y26.1.1, Ti y26.1.2.1, Ti y26.1.2.2]) [Ti y26.1.1, Ti y26.1.2.1, Ti y26.1.2.2] wd43 rfl (by kernel_rfl) (Nat.le_of_ble_eq_true rfl) (by kernel_rfl))) ?_
               refine XL_takeC _ rfl rfl (by kernel_rfl) hc43 (X_of_Y1 rfl (Y1_callS (s_laws_qHas hy44) cf_laws_qHas rfl (by kernel_rfl) rfl rfl)) ?_
               refine XL_takeC _ rfl rfl (by kernel_rfl) hc43 (X_of_Y0 rfl (Y0_not (b := y44) rfl (by kernel_rfl))) ?_
               refine XL_cons rfl (X_of_Y0 rfl (Y0_pickFe (b := b42) (p := !y44) rfl (by kernel_rfl) hc43 (by kernel_rfl) hb45)) ?_
               refine XL_nil ?_
               kernel_rfl
             ·have hb42 := of_false hb42 hc40
              obtain ⟨y41, hy41, hb42⟩ := of_bind hb42
              have hb42 := some_inj hb42
              refine XL_takeC _ rfl rfl (by kernel_rfl) hc40 (X_of_Y0 rfl (E_move (.ow 560) rfl (by kernel_rfl))) ?_
              refine XL_takeC _ rfl rfl (by kernel_rfl) hc40 (X_of_Y0 rfl (E_loadn (cs := [Ti y18.1.1, Ti y18.1.2.1, Ti y18.1.2.2]) [Ti y18.1.1, Ti y18.1.2.1, Ti y18.1.2.2] wd43 rfl (by kernel_rfl) (Nat.le_of_ble_eq_true rfl) (by kernel_rfl))) ?_
              refine XL_takeC _ rfl rfl (by kernel_rfl) hc40 (X_of_Y1 rfl (Y1_callS (s_laws_qHas hy41) cf_laws_qHas rfl (by kernel_rfl) rfl rfl)) ?_
              refine XL_takeC _ rfl rfl (by kernel_rfl) hc40 (X_of_Y0 rfl (Y0_not (b := y41) rfl (by kernel_rfl))) ?_
              refine XL_cons rfl (X_of_Y0 rfl (Y0_pickFe (b := b39) (p := !y41) rfl (by kernel_rfl) hc40 (by kernel_rfl) hb42)) ?_
              refine L0 rfl rfl (E_move (Bo b42) rfl (by kernel_rfl)) ?_
              refine XL_split b42 (fun hc43 => ?_) (fun hc43 => ?_)
              ·have hb45 := some_inj (of_true hb45 hc43)
               refine XL_skipF _ rfl rfl (by kernel_rfl) hc43 rfl ?_
               refine XL_skipF _ rfl rfl (by kernel_rfl) hc43 rfl ?_
               refine XL_skipF _ rfl rfl (by kernel_rfl) hc43 rfl ?_
               refine XL_skipF _ rfl rfl (by kernel_rfl) hc43 rfl ?_
               refine XL_cons rfl (X_of_Y0 rfl (Y0_pickTe (b := b42) (p := true) rfl (by kernel_rfl) hc43 (by kernel_rfl) hb45)) ?_
               refine XL_nil ?_
               kernel_rfl
              ·have hb45 := of_false hb45 hc43
               obtain ⟨y44, hy44, hb45⟩ := of_bind hb45
               have hb45 := some_inj hb45
               refine XL_takeC _ rfl rfl (by kernel_rfl) hc43 (X_of_Y0 rfl (E_move (.ow 560) rfl (by kernel_rfl))) ?_
               refine XL_takeC _ rfl rfl (by kernel_rfl) hc43 (X_of_Y0 rfl (E_loadn (cs := [Ti y26.1.1, Ti y26.1.2.1, Ti y26.1.2.2]) [Ti y26.1.1, Ti y26.1.2.1, Ti y26.1.2.2] wd43 rfl (by kernel_rfl) (Nat.le_of_ble_eq_true rfl) (by kernel_rfl))) ?_
               refine XL_takeC _ rfl rfl (by kernel_rfl) hc43 (X_of_Y1 rfl (Y1_callS (s_laws_qHas hy44) cf_laws_qHas rfl (by kernel_rfl) rfl rfl)) ?_
               refine XL_takeC _ rfl rfl (by kernel_rfl) hc43 (X_of_Y0 rfl (Y0_not (b := y44) rfl (by kernel_rfl))) ?_
               refine XL_cons rfl (X_of_Y0 rfl (Y0_pickFe (b := b42) (p := !y44) rfl (by kernel_rfl) hc43 (by kernel_rfl) hb45)) ?_
               refine XL_nil ?_
               kernel_rfl
           ·have hb36 := of_false hb36 hc34
            obtain ⟨y35, hy35, hb36⟩ := of_bind hb36
            have hb36 := some_inj hb36
            refine XL_takeC _ rfl rfl (by kernel_rfl) hc34 (X_of_Y0 rfl (E_move (.ow 904) rfl (by kernel_rfl))) ?_
            refine XL_takeC _ rfl rfl (by kernel_rfl) hc34 (X_of_Y0 rfl (E_loadn (cs := [Ti y18.1.1, Ti y18.1.2.1, Ti y18.1.2.2]) [Ti y18.1.1, Ti y18.1.2.1, Ti y18.1.2.2] wd43 rfl (by kernel_rfl) (Nat.le_of_ble_eq_true rfl) (by kernel_rfl))) ?_
            refine XL_takeC _ rfl rfl (by kernel_rfl) hc34 (X_of_Y1 rfl (Y1_callS (s_laws_qHas hy35) cf_laws_qHas rfl (by kernel_rfl) rfl rfl)) ?_
            refine XL_takeC _ rfl rfl (by kernel_rfl) hc34 (X_of_Y0 rfl (Y0_not (b := y35) rfl (by kernel_rfl))) ?_
            refine XL_cons rfl (X_of_Y0 rfl (Y0_pickFe (b := bif b32 then true else (!y28.2)) (p := !y35) rfl (by kernel_rfl) hc34 (by kernel_rfl) hb36)) ?_
            refine L0 rfl rfl (E_move (Bo b36) rfl (by kernel_rfl)) ?_
            refine XL_split b36 (fun hc37 => ?_) (fun hc37 => ?_)
            ·have hb39 := some_inj (of_true hb39 hc37)
             refine XL_skipF _ rfl rfl (by kernel_rfl) hc37 rfl ?_
             refine XL_skipF _ rfl rfl (by kernel_rfl) hc37 rfl ?_
             refine XL_skipF _ rfl rfl (by kernel_rfl) hc37 rfl ?_
             refine XL_skipF _ rfl rfl (by kernel_rfl) hc37 rfl ?_
             refine XL_cons rfl (X_of_Y0 rfl (Y0_pickTe (b := b36) (p := true) rfl (by kernel_rfl) hc37 (by kernel_rfl) hb39)) ?_
             refine L0 rfl rfl (E_move (Bo b39) rfl (by kernel_rfl)) ?_
             refine XL_split b39 (fun hc40 => ?_) (fun hc40 => ?_)
             ·have hb42 := some_inj (of_true hb42 hc40)
              refine XL_skipF _ rfl rfl (by kernel_rfl) hc40 rfl ?_
              refine XL_skipF _ rfl rfl (by kernel_rfl) hc40 rfl ?_
              refine XL_skipF _ rfl rfl (by kernel_rfl) hc40 rfl ?_
              refine XL_skipF _ rfl rfl (by kernel_rfl) hc40 rfl ?_
              refine XL_cons rfl (X_of_Y0 rfl (Y0_pickTe (b := b39) (p := true) rfl (by kernel_rfl) hc40 (by kernel_rfl) hb42)) ?_
              refine L0 rfl rfl (E_move (Bo b42) rfl (by kernel_rfl)) ?_
              refine XL_split b42 (fun hc43 => ?_) (fun hc43 => ?_)
              ·have hb45 := some_inj (of_true hb45 hc43)
               refine XL_skipF _ rfl rfl (by kernel_rfl) hc43 rfl ?_
               refine XL_skipF _ rfl rfl (by kernel_rfl) hc43 rfl ?_
               refine XL_skipF _ rfl rfl (by kernel_rfl) hc43 rfl ?_
               refine XL_skipF _ rfl rfl (by kernel_rfl) hc43 rfl ?_
               refine XL_cons rfl (X_of_Y0 rfl (Y0_pickTe (b := b42) (p := true) rfl (by kernel_rfl) hc43 (by kernel_rfl) hb45)) ?_
               refine XL_nil ?_
               kernel_rfl
              ·have hb45 := of_false hb45 hc43
               obtain ⟨y44, hy44, hb45⟩ := of_bind hb45
               have hb45 := some_inj hb45
               refine XL_takeC _ rfl rfl (by kernel_rfl) hc43 (X_of_Y0 rfl (E_move (.ow 560) rfl (by kernel_rfl))) ?_
               refine XL_takeC _ rfl rfl (by kernel_rfl) hc43 (X_of_Y0 rfl (E_loadn (cs := [Ti y26.1.1, Ti y26.1.2.1, Ti y26.1.2.2]) [Ti y26.1.1, Ti y26.1.2.1, Ti y26.1.2.2] wd43 rfl (by kernel_rfl) (Nat.le_of_ble_eq_true rfl) (by kernel_rfl))) ?_
               refine XL_takeC _ rfl rfl (by kernel_rfl) hc43 (X_of_Y1 rfl (Y1_callS (s_laws_qHas hy44) cf_laws_qHas rfl (by kernel_rfl) rfl rfl)) ?_
               refine XL_takeC _ rfl rfl (by kernel_rfl) hc43 (X_of_Y0 rfl (Y0_not (b := y44) rfl (by kernel_rfl))) ?_
               refine XL_cons rfl (X_of_Y0 rfl (Y0_pickFe (b := b42) (p := !y44) rfl (by kernel_rfl) hc43 (by kernel_rfl) hb45)) ?_
               refine XL_nil ?_
               kernel_rfl
             ·have hb42 := of_false hb42 hc40
              obtain ⟨y41, hy41, hb42⟩ := of_bind hb42
              have hb42 := some_inj hb42
              refine XL_takeC _ rfl rfl (by kernel_rfl) hc40 (X_of_Y0 rfl (E_move (.ow 560) rfl (by kernel_rfl))) ?_
              refine XL_takeC _ rfl rfl (by kernel_rfl) hc40 (X_of_Y0 rfl (E_loadn (cs := [Ti y18.1.1, Ti y18.1.2.1, Ti y18.1.2.2]) [Ti y18.1.1, Ti y18.1.2.1, Ti y18.1.2.2] wd43 rfl (by kernel_rfl) (Nat.le_of_ble_eq_true rfl) (by kernel_rfl))) ?_
              refine XL_takeC _ rfl rfl (by kernel_rfl) hc40 (X_of_Y1 rfl (Y1_callS (s_laws_qHas hy41) cf_laws_qHas rfl (by kernel_rfl) rfl rfl)) ?_
              refine XL_takeC _ rfl rfl (by kernel_rfl) hc40 (X_of_Y0 rfl (Y0_not (b := y41) rfl (by kernel_rfl))) ?_
              refine XL_cons rfl (X_of_Y0 rfl (Y0_pickFe (b := b39) (p := !y41) rfl (by kernel_rfl) hc40 (by kernel_rfl) hb42)) ?_
              refine L0 rfl rfl (E_move (Bo b42) rfl (by kernel_rfl)) ?_
              refine XL_split b42 (fun hc43 => ?_) (fun hc43 => ?_)
              ·have hb45 := some_inj (of_true hb45 hc43)
               refine XL_skipF _ rfl rfl (by kernel_rfl) hc43 rfl ?_
               refine XL_skipF _ rfl rfl (by kernel_rfl) hc43 rfl ?_
               refine XL_skipF _ rfl rfl (by kernel_rfl) hc43 rfl ?_
               refine XL_skipF _ rfl rfl (by kernel_rfl) hc43 rfl ?_
               refine XL_cons rfl (X_of_Y0 rfl (Y0_pickTe (b := b42) (p := true) rfl (by kernel_rfl) hc43 (by kernel_rfl) hb45)) ?_
               refine XL_nil ?_
               kernel_rfl
              ·have hb45 := of_false hb45 hc43
               obtain ⟨y44, hy44, hb45⟩ := of_bind hb45
               have hb45 := some_inj hb45
               refine XL_takeC _ rfl rfl (by kernel_rfl) hc43 (X_of_Y0 rfl (E_move (.ow 560) rfl (by kernel_rfl))) ?_
               refine XL_takeC _ rfl rfl (by kernel_rfl) hc43 (X_of_Y0 rfl (E_loadn (cs := [Ti y26.1.1, Ti y26.1.2.1, Ti y26.1.2.2]) [Ti y26.1.1, Ti y26.1.2.1, Ti y26.1.2.2] wd43 rfl (by kernel_rfl) (Nat.le_of_ble_eq_true rfl) (by kernel_rfl))) ?_
               refine XL_takeC _ rfl rfl (by kernel_rfl) hc43 (X_of_Y1 rfl (Y1_callS (s_laws_qHas hy44) cf_laws_qHas rfl (by kernel_rfl) rfl rfl)) ?_
               refine XL_takeC _ rfl rfl (by kernel_rfl) hc43 (X_of_Y0 rfl (Y0_not (b := y44) rfl (by kernel_rfl))) ?_
               refine XL_cons rfl (X_of_Y0 rfl (Y0_pickFe (b := b42) (p := !y44) rfl (by kernel_rfl) hc43 (by kernel_rfl) hb45)) ?_
               refine XL_nil ?_
               kernel_rfl
            ·have hb39 := of_false hb39 hc37
             obtain ⟨y38, hy38, hb39⟩ := of_bind hb39
             have hb39 := some_inj hb39
             refine XL_takeC _ rfl rfl (by kernel_rfl) hc37 (X_of_Y0 rfl (E_move (.ow 904) rfl (by kernel_rfl))) ?_
             refine XL_takeC _ rfl rfl (by kernel_rfl) hc37 (X_of_Y0 rfl (E_loadn (cs := [Ti y26.1.1, Ti y26.1.2.1, Ti y26.1.2.2]) [Ti y26.1.1, Ti y26.1.2.1, Ti y26.1.2.2] wd43 rfl (by kernel_rfl) (Nat.le_of_ble_eq_true rfl) (by kernel_rfl))) ?_
             refine XL_takeC _ rfl rfl (by kernel_rfl) hc37 (X_of_Y1 rfl (Y1_callS (s_laws_qHas hy38) cf_laws_qHas rfl (by kernel_rfl) rfl rfl)) ?_
             refine XL_takeC _ rfl rfl (by kernel_rfl) hc37 (X_of_Y0 rfl (Y0_not (b := y38) rfl (by kernel_rfl))) ?_
             refine XL_cons rfl (X_of_Y0 rfl (Y0_pickFe (b := b36) (p := !y38) rfl (by kernel_rfl) hc37 (by kernel_rfl) hb39)) ?_
             refine L0 rfl rfl (E_move (Bo b39) rfl (by kernel_rfl)) ?_
             refine XL_split b39 (fun hc40 => ?_) (fun hc40 => ?_)
             ·have hb42 := some_inj (of_true hb42 hc40)
              refine XL_skipF _ rfl rfl (by kernel_rfl) hc40 rfl ?_
              refine XL_skipF _ rfl rfl (by kernel_rfl) hc40 rfl ?_
              refine XL_skipF _ rfl rfl (by kernel_rfl) hc40 rfl ?_
              refine XL_skipF _ rfl rfl (by kernel_rfl) hc40 rfl ?_
              refine XL_cons rfl (X_of_Y0 rfl (Y0_pickTe (b := b39) (p := true) rfl (by kernel_rfl) hc40 (by kernel_rfl) hb42)) ?_
              refine L0 rfl rfl (E_move (Bo b42) rfl (by kernel_rfl)) ?_
              refine XL_split b42 (fun hc43 => ?_) (fun hc43 => ?_)
              ·have hb45 := some_inj (of_true hb45 hc43)
               refine XL_skipF _ rfl rfl (by kernel_rfl) hc43 rfl ?_
               refine XL_skipF _ rfl rfl (by kernel_rfl) hc43 rfl ?_
               refine XL_skipF _ rfl rfl (by kernel_rfl) hc43 rfl ?_
               refine XL_skipF _ rfl rfl (by kernel_rfl) hc43 rfl ?_
               refine XL_cons rfl (X_of_Y0 rfl (Y0_pickTe (b := b42) (p := true) rfl (by kernel_rfl) hc43 (by kernel_rfl) hb45)) ?_
               refine XL_nil ?_
               kernel_rfl
              ·have hb45 := of_false hb45 hc43
               obtain ⟨y44, hy44, hb45⟩ := of_bind hb45
               have hb45 := some_inj hb45
               refine XL_takeC _ rfl rfl (by kernel_rfl) hc43 (X_of_Y0 rfl (E_move (.ow 560) rfl (by kernel_rfl))) ?_
               refine XL_takeC _ rfl rfl (by kernel_rfl) hc43 (X_of_Y0 rfl (E_loadn (cs := [Ti y26.1.1, Ti y26.1.2.1, Ti y26.1.2.2]) [Ti y26.1.1, Ti y26.1.2.1, Ti y26.1.2.2] wd43 rfl (by kernel_rfl) (Nat.le_of_ble_eq_true rfl) (by kernel_rfl))) ?_
               refine XL_takeC _ rfl rfl (by kernel_rfl) hc43 (X_of_Y1 rfl (Y1_callS (s_laws_qHas hy44) cf_laws_qHas rfl (by kernel_rfl) rfl rfl)) ?_
               refine XL_takeC _ rfl rfl (by kernel_rfl) hc43 (X_of_Y0 rfl (Y0_not (b := y44) rfl (by kernel_rfl))) ?_
               refine XL_cons rfl (X_of_Y0 rfl (Y0_pickFe (b := b42) (p := !y44) rfl (by kernel_rfl) hc43 (by kernel_rfl) hb45)) ?_
               refine XL_nil ?_
               kernel_rfl
             ·have hb42 := of_false hb42 hc40
              obtain ⟨y41, hy41, hb42⟩ := of_bind hb42
              have hb42 := some_inj hb42
              refine XL_takeC _ rfl rfl (by kernel_rfl) hc40 (X_of_Y0 rfl (E_move (.ow 560) rfl (by kernel_rfl))) ?_
              refine XL_takeC _ rfl rfl (by kernel_rfl) hc40 (X_of_Y0 rfl (E_loadn (cs := [Ti y18.1.1, Ti y18.1.2.1, Ti y18.1.2.2]) [Ti y18.1.1, Ti y18.1.2.1, Ti y18.1.2.2] wd43 rfl (by kernel_rfl) (Nat.le_of_ble_eq_true rfl) (by kernel_rfl))) ?_
              refine XL_takeC _ rfl rfl (by kernel_rfl) hc40 (X_of_Y1 rfl (Y1_callS (s_laws_qHas hy41) cf_laws_qHas rfl (by kernel_rfl) rfl rfl)) ?_
              refine XL_takeC _ rfl rfl (by kernel_rfl) hc40 (X_of_Y0 rfl (Y0_not (b := y41) rfl (by kernel_rfl))) ?_
              refine XL_cons rfl (X_of_Y0 rfl (Y0_pickFe (b := b39) (p := !y41) rfl (by kernel_rfl) hc40 (by kernel_rfl) hb42)) ?_
              refine L0 rfl rfl (E_move (Bo b42) rfl (by kernel_rfl)) ?_
              refine XL_split b42 (fun hc43 => ?_) (fun hc43 => ?_)
              ·have hb45 := some_inj (of_true hb45 hc43)
               refine XL_skipF _ rfl rfl (by kernel_rfl) hc43 rfl ?_
               refine XL_skipF _ rfl rfl (by kernel_rfl) hc43 rfl ?_
               refine XL_skipF _ rfl rfl (by kernel_rfl) hc43 rfl ?_
               refine XL_skipF _ rfl rfl (by kernel_rfl) hc43 rfl ?_
               refine XL_cons rfl (X_of_Y0 rfl (Y0_pickTe (b := b42) (p := true) rfl (by kernel_rfl) hc43 (by kernel_rfl) hb45)) ?_
               refine XL_nil ?_
               kernel_rfl
              ·have hb45 := of_false hb45 hc43
               obtain ⟨y44, hy44, hb45⟩ := of_bind hb45
               have hb45 := some_inj hb45
               refine XL_takeC _ rfl rfl (by kernel_rfl) hc43 (X_of_Y0 rfl (E_move (.ow 560) rfl (by kernel_rfl))) ?_
               refine XL_takeC _ rfl rfl (by kernel_rfl) hc43 (X_of_Y0 rfl (E_loadn (cs := [Ti y26.1.1, Ti y26.1.2.1, Ti y26.1.2.2]) [Ti y26.1.1, Ti y26.1.2.1, Ti y26.1.2.2] wd43 rfl (by kernel_rfl) (Nat.le_of_ble_eq_true rfl) (by kernel_rfl))) ?_
               refine XL_takeC _ rfl rfl (by kernel_rfl) hc43 (X_of_Y1 rfl (Y1_callS (s_laws_qHas hy44) cf_laws_qHas rfl (by kernel_rfl) rfl rfl)) ?_
               refine XL_takeC _ rfl rfl (by kernel_rfl) hc43 (X_of_Y0 rfl (Y0_not (b := y44) rfl (by kernel_rfl))) ?_
               refine XL_cons rfl (X_of_Y0 rfl (Y0_pickFe (b := b42) (p := !y44) rfl (by kernel_rfl) hc43 (by kernel_rfl) hb45)) ?_
               refine XL_nil ?_
               kernel_rfl
         ·have hb32 := of_false hb32 hc30
          obtain ⟨y31, hy31, hb32⟩ := of_bind hb32
          have hb32 := some_inj hb32
          refine XL_takeC _ rfl rfl (by kernel_rfl) hc30 (X_of_Y0 rfl (E_move (.ow 856) rfl (by kernel_rfl))) ?_
          refine XL_takeC _ rfl rfl (by kernel_rfl) hc30 (X_of_Y0 rfl (E_move (.ow 328) rfl (by kernel_rfl))) ?_
          refine XL_takeC _ rfl rfl (by kernel_rfl) hc30 (X_of_Y1 rfl (Y1_callS (s_laws_sameInts hy31) cf_laws_sameInts rfl (by kernel_rfl) rfl rfl)) ?_
          refine XL_takeC _ rfl rfl (by kernel_rfl) hc30 (X_of_Y0 rfl (Y0_not (b := y31) rfl (by kernel_rfl))) ?_
          refine XL_cons rfl (X_of_Y0 rfl (Y0_pickFe (b := bif (!y26.2) then true else (!y27.2)) (p := !y31) rfl (by kernel_rfl) hc30 (by kernel_rfl) hb32)) ?_
          refine L0 rfl rfl (E_move (Bo b32) rfl (by kernel_rfl)) ?_
          refine XL_split b32 (fun hc33 => ?_) (fun hc33 => ?_)
          ·refine XL_skipF _ rfl rfl (by kernel_rfl) hc33 rfl ?_
           refine XL_skipF _ rfl rfl (by kernel_rfl) hc33 rfl ?_
           refine XL_cons rfl (X_of_Y0 rfl (Y0_pick1 (b := b32) (p := true) (q := !y28.2) rfl (by kernel_rfl) hc33 (by kernel_rfl))) ?_
           refine L0 rfl rfl (E_move (Bo (bif b32 then true else (!y28.2))) rfl (by kernel_rfl)) ?_
           refine XL_split (bif b32 then true else (!y28.2)) (fun hc34 => ?_) (fun hc34 => ?_)
           ·have hb36 := some_inj (of_true hb36 hc34)
            refine XL_skipF _ rfl rfl (by kernel_rfl) hc34 rfl ?_
            refine XL_skipF _ rfl rfl (by kernel_rfl) hc34 rfl ?_
            refine XL_skipF _ rfl rfl (by kernel_rfl) hc34 rfl ?_
            refine XL_skipF _ rfl rfl (by kernel_rfl) hc34 rfl ?_
            refine XL_cons rfl (X_of_Y0 rfl (Y0_pickTe (b := bif b32 then true else (!y28.2)) (p := true) rfl (by kernel_rfl) hc34 (by kernel_rfl) hb36)) ?_
            refine L0 rfl rfl (E_move (Bo b36) rfl (by kernel_rfl)) ?_
            refine XL_split b36 (fun hc37 => ?_) (fun hc37 => ?_)
            ·have hb39 := some_inj (of_true hb39 hc37)
             refine XL_skipF _ rfl rfl (by kernel_rfl) hc37 rfl ?_
             refine XL_skipF _ rfl rfl (by kernel_rfl) hc37 rfl ?_
             refine XL_skipF _ rfl rfl (by kernel_rfl) hc37 rfl ?_
             refine XL_skipF _ rfl rfl (by kernel_rfl) hc37 rfl ?_
             refine XL_cons rfl (X_of_Y0 rfl (Y0_pickTe (b := b36) (p := true) rfl (by kernel_rfl) hc37 (by kernel_rfl) hb39)) ?_
             refine L0 rfl rfl (E_move (Bo b39) rfl (by kernel_rfl)) ?_
             refine XL_split b39 (fun hc40 => ?_) (fun hc40 => ?_)
             ·have hb42 := some_inj (of_true hb42 hc40)
              refine XL_skipF _ rfl rfl (by kernel_rfl) hc40 rfl ?_
              refine XL_skipF _ rfl rfl (by kernel_rfl) hc40 rfl ?_
              refine XL_skipF _ rfl rfl (by kernel_rfl) hc40 rfl ?_
              refine XL_skipF _ rfl rfl (by kernel_rfl) hc40 rfl ?_
              refine XL_cons rfl (X_of_Y0 rfl (Y0_pickTe (b := b39) (p := true) rfl (by kernel_rfl) hc40 (by kernel_rfl) hb42)) ?_
              refine L0 rfl rfl (E_move (Bo b42) rfl (by kernel_rfl)) ?_
              refine XL_split b42 (fun hc43 => ?_) (fun hc43 => ?_)
              ·have hb45 := some_inj (of_true hb45 hc43)
               refine XL_skipF _ rfl rfl (by kernel_rfl) hc43 rfl ?_
               refine XL_skipF _ rfl rfl (by kernel_rfl) hc43 rfl ?_
               refine XL_skipF _ rfl rfl (by kernel_rfl) hc43 rfl ?_
               refine XL_skipF _ rfl rfl (by kernel_rfl) hc43 rfl ?_
               refine XL_cons rfl (X_of_Y0 rfl (Y0_pickTe (b := b42) (p := true) rfl (by kernel_rfl) hc43 (by kernel_rfl) hb45)) ?_
               refine XL_nil ?_
               kernel_rfl
              ·have hb45 := of_false hb45 hc43
               obtain ⟨y44, hy44, hb45⟩ := of_bind hb45
               have hb45 := some_inj hb45
               refine XL_takeC _ rfl rfl (by kernel_rfl) hc43 (X_of_Y0 rfl (E_move (.ow 560) rfl (by kernel_rfl))) ?_
               refine XL_takeC _ rfl rfl (by kernel_rfl) hc43 (X_of_Y0 rfl (E_loadn (cs := [Ti y26.1.1, Ti y26.1.2.1, Ti y26.1.2.2]) [Ti y26.1.1, Ti y26.1.2.1, Ti y26.1.2.2] wd43 rfl (by kernel_rfl) (Nat.le_of_ble_eq_true rfl) (by kernel_rfl))) ?_
               refine XL_takeC _ rfl rfl (by kernel_rfl) hc43 (X_of_Y1 rfl (Y1_callS (s_laws_qHas hy44) cf_laws_qHas rfl (by kernel_rfl) rfl rfl)) ?_
               refine XL_takeC _ rfl rfl (by kernel_rfl) hc43 (X_of_Y0 rfl (Y0_not (b := y44) rfl (by kernel_rfl))) ?_
               refine XL_cons rfl (X_of_Y0 rfl (Y0_pickFe (b := b42) (p := !y44) rfl (by kernel_rfl) hc43 (by kernel_rfl) hb45)) ?_
               refine XL_nil ?_
               kernel_rfl
             ·have hb42 := of_false hb42 hc40
              obtain ⟨y41, hy41, hb42⟩ := of_bind hb42
              have hb42 := some_inj hb42
              refine XL_takeC _ rfl rfl (by kernel_rfl) hc40 (X_of_Y0 rfl (E_move (.ow 560) rfl (by kernel_rfl))) ?_
              refine XL_takeC _ rfl rfl (by kernel_rfl) hc40 (X_of_Y0 rfl (E_loadn (cs := [Ti y18.1.1, Ti y18.1.2.1, Ti y18.1.2.2]) [Ti y18.1.1, Ti y18.1.2.1, Ti y18.1.2.2] wd43 rfl (by kernel_rfl) (Nat.le_of_ble_eq_true rfl) (by kernel_rfl))) ?_
              refine XL_takeC _ rfl rfl (by kernel_rfl) hc40 (X_of_Y1 rfl (Y1_callS (s_laws_qHas hy41) cf_laws_qHas rfl (by kernel_rfl) rfl rfl)) ?_
              refine XL_takeC _ rfl rfl (by kernel_rfl) hc40 (X_of_Y0 rfl (Y0_not (b := y41) rfl (by kernel_rfl))) ?_
              refine XL_cons rfl (X_of_Y0 rfl (Y0_pickFe (b := b39) (p := !y41) rfl (by kernel_rfl) hc40 (by kernel_rfl) hb42)) ?_
              refine L0 rfl rfl (E_move (Bo b42) rfl (by kernel_rfl)) ?_
              refine XL_split b42 (fun hc43 => ?_) (fun hc43 => ?_)
              ·have hb45 := some_inj (of_true hb45 hc43)
               refine XL_skipF _ rfl rfl (by kernel_rfl) hc43 rfl ?_
               refine XL_skipF _ rfl rfl (by kernel_rfl) hc43 rfl ?_
               refine XL_skipF _ rfl rfl (by kernel_rfl) hc43 rfl ?_
               refine XL_skipF _ rfl rfl (by kernel_rfl) hc43 rfl ?_
               refine XL_cons rfl (X_of_Y0 rfl (Y0_pickTe (b := b42) (p := true) rfl (by kernel_rfl) hc43 (by kernel_rfl) hb45)) ?_
               refine XL_nil ?_
               kernel_rfl
              ·have hb45 := of_false hb45 hc43
               obtain ⟨y44, hy44, hb45⟩ := of_bind hb45
               have hb45 := some_inj hb45
               refine XL_takeC _ rfl rfl (by kernel_rfl) hc43 (X_of_Y0 rfl (E_move (.ow 560) rfl (by kernel_rfl))) ?_
               refine XL_takeC _ rfl rfl (by kernel_rfl) hc43 (X_of_Y0 rfl (E_loadn (cs := [Ti y26.1.1, Ti y26.1.2.1, Ti y26.1.2.2]) [Ti y26.1.1, Ti y26.1.2.1, Ti y26.1.2.2] wd43 rfl (by kernel_rfl) (Nat.le_of_ble_eq_true rfl) (by kernel_rfl))) ?_
               refine XL_takeC _ rfl rfl (by kernel_rfl) hc43 (X_of_Y1 rfl (Y1_callS (s_laws_qHas hy44) cf_laws_qHas rfl (by kernel_rfl) rfl rfl)) ?_
               refine XL_takeC _ rfl rfl (by kernel_rfl) hc43 (X_of_Y0 rfl (Y0_not (b := y44) rfl (by kernel_rfl))) ?_
               refine XL_cons rfl (X_of_Y0 rfl (Y0_pickFe (b := b42) (p := !y44) rfl (by kernel_rfl) hc43 (by kernel_rfl) hb45)) ?_
               refine XL_nil ?_
               kernel_rfl
            ·have hb39 := of_false hb39 hc37
             obtain ⟨y38, hy38, hb39⟩ := of_bind hb39
             have hb39 := some_inj hb39
             refine XL_takeC _ rfl rfl (by kernel_rfl) hc37 (X_of_Y0 rfl (E_move (.ow 904) rfl (by kernel_rfl))) ?_
             refine XL_takeC _ rfl rfl (by kernel_rfl) hc37 (X_of_Y0 rfl (E_loadn (cs := [Ti y26.1.1, Ti y26.1.2.1, Ti y26.1.2.2]) [Ti y26.1.1, Ti y26.1.2.1, Ti y26.1.2.2] wd43 rfl (by kernel_rfl) (Nat.le_of_ble_eq_true rfl) (by kernel_rfl))) ?_
             refine XL_takeC _ rfl rfl (by kernel_rfl) hc37 (X_of_Y1 rfl (Y1_callS (s_laws_qHas hy38) cf_laws_qHas rfl (by kernel_rfl) rfl rfl)) ?_
             refine XL_takeC _ rfl rfl (by kernel_rfl) hc37 (X_of_Y0 rfl (Y0_not (b := y38) rfl (by kernel_rfl))) ?_
             refine XL_cons rfl (X_of_Y0 rfl (Y0_pickFe (b := b36) (p := !y38) rfl (by kernel_rfl) hc37 (by kernel_rfl) hb39)) ?_
             refine L0 rfl rfl (E_move (Bo b39) rfl (by kernel_rfl)) ?_
             refine XL_split b39 (fun hc40 => ?_) (fun hc40 => ?_)
             ·have hb42 := some_inj (of_true hb42 hc40)
              refine XL_skipF _ rfl rfl (by kernel_rfl) hc40 rfl ?_
              refine XL_skipF _ rfl rfl (by kernel_rfl) hc40 rfl ?_
              refine XL_skipF _ rfl rfl (by kernel_rfl) hc40 rfl ?_
              refine XL_skipF _ rfl rfl (by kernel_rfl) hc40 rfl ?_
              refine XL_cons rfl (X_of_Y0 rfl (Y0_pickTe (b := b39) (p := true) rfl (by kernel_rfl) hc40 (by kernel_rfl) hb42)) ?_
              refine L0 rfl rfl (E_move (Bo b42) rfl (by kernel_rfl)) ?_
              refine XL_split b42 (fun hc43 => ?_) (fun hc43 => ?_)
              ·have hb45 := some_inj (of_true hb45 hc43)
               refine XL_skipF _ rfl rfl (by kernel_rfl) hc43 rfl ?_
               refine XL_skipF _ rfl rfl (by kernel_rfl) hc43 rfl ?_
               refine XL_skipF _ rfl rfl (by kernel_rfl) hc43 rfl ?_
               refine XL_skipF _ rfl rfl (by kernel_rfl) hc43 rfl ?_
               refine XL_cons rfl (X_of_Y0 rfl (Y0_pickTe (b := b42) (p := true) rfl (by kernel_rfl) hc43 (by kernel_rfl) hb45)) ?_
               refine XL_nil ?_
               kernel_rfl
              ·have hb45 := of_false hb45 hc43
               obtain ⟨y44, hy44, hb45⟩ := of_bind hb45
               have hb45 := some_inj hb45
               refine XL_takeC _ rfl rfl (by kernel_rfl) hc43 (X_of_Y0 rfl (E_move (.ow 560) rfl (by kernel_rfl))) ?_
               refine XL_takeC _ rfl rfl (by kernel_rfl) hc43 (X_of_Y0 rfl (E_loadn (cs := [Ti y26.1.1, Ti y26.1.2.1, Ti y26.1.2.2]) [Ti y26.1.1, Ti y26.1.2.1, Ti y26.1.2.2] wd43 rfl (by kernel_rfl) (Nat.le_of_ble_eq_true rfl) (by kernel_rfl))) ?_
               refine XL_takeC _ rfl rfl (by kernel_rfl) hc43 (X_of_Y1 rfl (Y1_callS (s_laws_qHas hy44) cf_laws_qHas rfl (by kernel_rfl) rfl rfl)) ?_
               refine XL_takeC _ rfl rfl (by kernel_rfl) hc43 (X_of_Y0 rfl (Y0_not (b := y44) rfl (by kernel_rfl))) ?_
               refine XL_cons rfl (X_of_Y0 rfl (Y0_pickFe (b := b42) (p := !y44) rfl (by kernel_rfl) hc43 (by kernel_rfl) hb45)) ?_
               refine XL_nil ?_
               kernel_rfl
             ·have hb42 := of_false hb42 hc40
              obtain ⟨y41, hy41, hb42⟩ := of_bind hb42
              have hb42 := some_inj hb42
              refine XL_takeC _ rfl rfl (by kernel_rfl) hc40 (X_of_Y0 rfl (E_move (.ow 560) rfl (by kernel_rfl))) ?_
              refine XL_takeC _ rfl rfl (by kernel_rfl) hc40 (X_of_Y0 rfl (E_loadn (cs := [Ti y18.1.1, Ti y18.1.2.1, Ti y18.1.2.2]) [Ti y18.1.1, Ti y18.1.2.1, Ti y18.1.2.2] wd43 rfl (by kernel_rfl) (Nat.le_of_ble_eq_true rfl) (by kernel_rfl))) ?_
              refine XL_takeC _ rfl rfl (by kernel_rfl) hc40 (X_of_Y1 rfl (Y1_callS (s_laws_qHas hy41) cf_laws_qHas rfl (by kernel_rfl) rfl rfl)) ?_
              refine XL_takeC _ rfl rfl (by kernel_rfl) hc40 (X_of_Y0 rfl (Y0_not (b := y41) rfl (by kernel_rfl))) ?_
              refine XL_cons rfl (X_of_Y0 rfl (Y0_pickFe (b := b39) (p := !y41) rfl (by kernel_rfl) hc40 (by kernel_rfl) hb42)) ?_
              refine L0 rfl rfl (E_move (Bo b42) rfl (by kernel_rfl)) ?_
              refine XL_split b42 (fun hc43 => ?_) (fun hc43 => ?_)
              ·have hb45 := some_inj (of_true hb45 hc43)
               refine XL_skipF _ rfl rfl (by kernel_rfl) hc43 rfl ?_
               refine XL_skipF _ rfl rfl (by kernel_rfl) hc43 rfl ?_
               refine XL_skipF _ rfl rfl (by kernel_rfl) hc43 rfl ?_
               refine XL_skipF _ rfl rfl (by kernel_rfl) hc43 rfl ?_
               refine XL_cons rfl (X_of_Y0 rfl (Y0_pickTe (b := b42) (p := true) rfl (by kernel_rfl) hc43 (by kernel_rfl) hb45)) ?_
               refine XL_nil ?_
               kernel_rfl
              ·have hb45 := of_false hb45 hc43
               obtain ⟨y44, hy44, hb45⟩ := of_bind hb45
               have hb45 := some_inj hb45
               refine XL_takeC _ rfl rfl (by kernel_rfl) hc43 (X_of_Y0 rfl (E_move (.ow 560) rfl (by kernel_rfl))) ?_
               refine XL_takeC _ rfl rfl (by kernel_rfl) hc43 (X_of_Y0 rfl (E_loadn (cs := [Ti y26.1.1, Ti y26.1.2.1, Ti y26.1.2.2]) [Ti y26.1.1, Ti y26.1.2.1, Ti y26.1.2.2] wd43 rfl (by kernel_rfl) (Nat.le_of_ble_eq_true rfl) (by kernel_rfl))) ?_
               refine XL_takeC _ rfl rfl (by kernel_rfl) hc43 (X_of_Y1 rfl (Y1_callS (s_laws_qHas hy44) cf_laws_qHas rfl (by kernel_rfl) rfl rfl)) ?_
               refine XL_takeC _ rfl rfl (by kernel_rfl) hc43 (X_of_Y0 rfl (Y0_not (b := y44) rfl (by kernel_rfl))) ?_
               refine XL_cons rfl (X_of_Y0 rfl (Y0_pickFe (b := b42) (p := !y44) rfl (by kernel_rfl) hc43 (by kernel_rfl) hb45)) ?_
               refine XL_nil ?_
               kernel_rfl
           ·have hb36 := of_false hb36 hc34
            obtain ⟨y35, hy35, hb36⟩ := of_bind hb36
            have hb36 := some_inj hb36
            refine XL_takeC _ rfl rfl (by kernel_rfl) hc34 (X_of_Y0 rfl (E_move (.ow 904) rfl (by kernel_rfl))) ?_
            refine XL_takeC _ rfl rfl (by kernel_rfl) hc34 (X_of_Y0 rfl (E_loadn (cs := [Ti y18.1.1, Ti y18.1.2.1, Ti y18.1.2.2]) [Ti y18.1.1, Ti y18.1.2.1, Ti y18.1.2.2] wd43 rfl (by kernel_rfl) (Nat.le_of_ble_eq_true rfl) (by kernel_rfl))) ?_
            refine XL_takeC _ rfl rfl (by kernel_rfl) hc34 (X_of_Y1 rfl (Y1_callS (s_laws_qHas hy35) cf_laws_qHas rfl (by kernel_rfl) rfl rfl)) ?_
            refine XL_takeC _ rfl rfl (by kernel_rfl) hc34 (X_of_Y0 rfl (Y0_not (b := y35) rfl (by kernel_rfl))) ?_
            refine XL_cons rfl (X_of_Y0 rfl (Y0_pickFe (b := bif b32 then true else (!y28.2)) (p := !y35) rfl (by kernel_rfl) hc34 (by kernel_rfl) hb36)) ?_
            refine L0 rfl rfl (E_move (Bo b36) rfl (by kernel_rfl)) ?_
            refine XL_split b36 (fun hc37 => ?_) (fun hc37 => ?_)
            ·have hb39 := some_inj (of_true hb39 hc37)
             refine XL_skipF _ rfl rfl (by kernel_rfl) hc37 rfl ?_
             refine XL_skipF _ rfl rfl (by kernel_rfl) hc37 rfl ?_
             refine XL_skipF _ rfl rfl (by kernel_rfl) hc37 rfl ?_
             refine XL_skipF _ rfl rfl (by kernel_rfl) hc37 rfl ?_
             refine XL_cons rfl (X_of_Y0 rfl (Y0_pickTe (b := b36) (p := true) rfl (by kernel_rfl) hc37 (by kernel_rfl) hb39)) ?_
             refine L0 rfl rfl (E_move (Bo b39) rfl (by kernel_rfl)) ?_
             refine XL_split b39 (fun hc40 => ?_) (fun hc40 => ?_)
             ·have hb42 := some_inj (of_true hb42 hc40)
              refine XL_skipF _ rfl rfl (by kernel_rfl) hc40 rfl ?_
              refine XL_skipF _ rfl rfl (by kernel_rfl) hc40 rfl ?_
              refine XL_skipF _ rfl rfl (by kernel_rfl) hc40 rfl ?_
              refine XL_skipF _ rfl rfl (by kernel_rfl) hc40 rfl ?_
              refine XL_cons rfl (X_of_Y0 rfl (Y0_pickTe (b := b39) (p := true) rfl (by kernel_rfl) hc40 (by kernel_rfl) hb42)) ?_
              refine L0 rfl rfl (E_move (Bo b42) rfl (by kernel_rfl)) ?_
              refine XL_split b42 (fun hc43 => ?_) (fun hc43 => ?_)
              ·have hb45 := some_inj (of_true hb45 hc43)
               refine XL_skipF _ rfl rfl (by kernel_rfl) hc43 rfl ?_
               refine XL_skipF _ rfl rfl (by kernel_rfl) hc43 rfl ?_
               refine XL_skipF _ rfl rfl (by kernel_rfl) hc43 rfl ?_
               refine XL_skipF _ rfl rfl (by kernel_rfl) hc43 rfl ?_
               refine XL_cons rfl (X_of_Y0 rfl (Y0_pickTe (b := b42) (p := true) rfl (by kernel_rfl) hc43 (by kernel_rfl) hb45)) ?_
               refine XL_nil ?_
               kernel_rfl
              ·have hb45 := of_false hb45 hc43
               obtain ⟨y44, hy44, hb45⟩ := of_bind hb45
               have hb45 := some_inj hb45
               refine XL_takeC _ rfl rfl (by kernel_rfl) hc43 (X_of_Y0 rfl (E_move (.ow 560) rfl (by kernel_rfl))) ?_
               refine XL_takeC _ rfl rfl (by kernel_rfl) hc43 (X_of_Y0 rfl (E_loadn (cs := [Ti y26.1.1, Ti y26.1.2.1, Ti y26.1.2.2]) [Ti y26.1.1, Ti y26.1.2.1, Ti y26.1.2.2] wd43 rfl (by kernel_rfl) (Nat.le_of_ble_eq_true rfl) (by kernel_rfl))) ?_
               refine XL_takeC _ rfl rfl (by kernel_rfl) hc43 (X_of_Y1 rfl (Y1_callS (s_laws_qHas hy44) cf_laws_qHas rfl (by kernel_rfl) rfl rfl)) ?_
               refine XL_takeC _ rfl rfl (by kernel_rfl) hc43 (X_of_Y0 rfl (Y0_not (b := y44) rfl (by kernel_rfl))) ?_
               refine XL_cons rfl (X_of_Y0 rfl (Y0_pickFe (b := b42) (p := !y44) rfl (by kernel_rfl) hc43 (by kernel_rfl) hb45)) ?_
               refine XL_nil ?_
               kernel_rfl
             ·have hb42 := of_false hb42 hc40
              obtain ⟨y41, hy41, hb42⟩ := of_bind hb42
              have hb42 := some_inj hb42
              refine XL_takeC _ rfl rfl (by kernel_rfl) hc40 (X_of_Y0 rfl (E_move (.ow 560) rfl (by kernel_rfl))) ?_
              refine XL_takeC _ rfl rfl (by kernel_rfl) hc40 (X_of_Y0 rfl (E_loadn (cs := [Ti y18.1.1, Ti y18.1.2.1, Ti y18.1.2.2]) [Ti y18.1.1, Ti y18.1.2.1, Ti y18.1.2.2] wd43 rfl (by kernel_rfl) (Nat.le_of_ble_eq_true rfl) (by kernel_rfl))) ?_
              refine XL_takeC _ rfl rfl (by kernel_rfl) hc40 (X_of_Y1 rfl (Y1_callS (s_laws_qHas hy41) cf_laws_qHas rfl (by kernel_rfl) rfl rfl)) ?_
              refine XL_takeC _ rfl rfl (by kernel_rfl) hc40 (X_of_Y0 rfl (Y0_not (b := y41) rfl (by kernel_rfl))) ?_
              refine XL_cons rfl (X_of_Y0 rfl (Y0_pickFe (b := b39) (p := !y41) rfl (by kernel_rfl) hc40 (by kernel_rfl) hb42)) ?_
              refine L0 rfl rfl (E_move (Bo b42) rfl (by kernel_rfl)) ?_
              refine XL_split b42 (fun hc43 => ?_) (fun hc43 => ?_)
              ·have hb45 := some_inj (of_true hb45 hc43)
               refine XL_skipF _ rfl rfl (by kernel_rfl) hc43 rfl ?_
               refine XL_skipF _ rfl rfl (by kernel_rfl) hc43 rfl ?_
               refine XL_skipF _ rfl rfl (by kernel_rfl) hc43 rfl ?_
               refine XL_skipF _ rfl rfl (by kernel_rfl) hc43 rfl ?_
               refine XL_cons rfl (X_of_Y0 rfl (Y0_pickTe (b := b42) (p := true) rfl (by kernel_rfl) hc43 (by kernel_rfl) hb45)) ?_
               refine XL_nil ?_
               kernel_rfl
              ·have hb45 := of_false hb45 hc43
               obtain ⟨y44, hy44, hb45⟩ := of_bind hb45
               have hb45 := some_inj hb45
               refine XL_takeC _ rfl rfl (by kernel_rfl) hc43 (X_of_Y0 rfl (E_move (.ow 560) rfl (by kernel_rfl))) ?_
               refine XL_takeC _ rfl rfl (by kernel_rfl) hc43 (X_of_Y0 rfl (E_loadn (cs := [Ti y26.1.1, Ti y26.1.2.1, Ti y26.1.2.2]) [Ti y26.1.1, Ti y26.1.2.1, Ti y26.1.2.2] wd43 rfl (by kernel_rfl) (Nat.le_of_ble_eq_true rfl) (by kernel_rfl))) ?_
               refine XL_takeC _ rfl rfl (by kernel_rfl) hc43 (X_of_Y1 rfl (Y1_callS (s_laws_qHas hy44) cf_laws_qHas rfl (by kernel_rfl) rfl rfl)) ?_
               refine XL_takeC _ rfl rfl (by kernel_rfl) hc43 (X_of_Y0 rfl (Y0_not (b := y44) rfl (by kernel_rfl))) ?_
               refine XL_cons rfl (X_of_Y0 rfl (Y0_pickFe (b := b42) (p := !y44) rfl (by kernel_rfl) hc43 (by kernel_rfl) hb45)) ?_
               refine XL_nil ?_
               kernel_rfl
            ·have hb39 := of_false hb39 hc37
             obtain ⟨y38, hy38, hb39⟩ := of_bind hb39
             have hb39 := some_inj hb39
             refine XL_takeC _ rfl rfl (by kernel_rfl) hc37 (X_of_Y0 rfl (E_move (.ow 904) rfl (by kernel_rfl))) ?_
             refine XL_takeC _ rfl rfl (by kernel_rfl) hc37 (X_of_Y0 rfl (E_loadn (cs := [Ti y26.1.1, Ti y26.1.2.1, Ti y26.1.2.2]) [Ti y26.1.1, Ti y26.1.2.1, Ti y26.1.2.2] wd43 rfl (by kernel_rfl) (Nat.le_of_ble_eq_true rfl) (by kernel_rfl))) ?_
             refine XL_takeC _ rfl rfl (by kernel_rfl) hc37 (X_of_Y1 rfl (Y1_callS (s_laws_qHas hy38) cf_laws_qHas rfl (by kernel_rfl) rfl rfl)) ?_
             refine XL_takeC _ rfl rfl (by kernel_rfl) hc37 (X_of_Y0 rfl (Y0_not (b := y38) rfl (by kernel_rfl))) ?_
             refine XL_cons rfl (X_of_Y0 rfl (Y0_pickFe (b := b36) (p := !y38) rfl (by kernel_rfl) hc37 (by kernel_rfl) hb39)) ?_
             refine L0 rfl rfl (E_move (Bo b39) rfl (by kernel_rfl)) ?_
             refine XL_split b39 (fun hc40 => ?_) (fun hc40 => ?_)
             ·have hb42 := some_inj (of_true hb42 hc40)
              refine XL_skipF _ rfl rfl (by kernel_rfl) hc40 rfl ?_
              refine XL_skipF _ rfl rfl (by kernel_rfl) hc40 rfl ?_
              refine XL_skipF _ rfl rfl (by kernel_rfl) hc40 rfl ?_
              refine XL_skipF _ rfl rfl (by kernel_rfl) hc40 rfl ?_
              refine XL_cons rfl (X_of_Y0 rfl (Y0_pickTe (b := b39) (p := true) rfl (by kernel_rfl) hc40 (by kernel_rfl) hb42)) ?_
              refine L0 rfl rfl (E_move (Bo b42) rfl (by kernel_rfl)) ?_
              refine XL_split b42 (fun hc43 => ?_) (fun hc43 => ?_)
              ·have hb45 := some_inj (of_true hb45 hc43)
               refine XL_skipF _ rfl rfl (by kernel_rfl) hc43 rfl ?_
               refine XL_skipF _ rfl rfl (by kernel_rfl) hc43 rfl ?_
               refine XL_skipF _ rfl rfl (by kernel_rfl) hc43 rfl ?_
               refine XL_skipF _ rfl rfl (by kernel_rfl) hc43 rfl ?_
               refine XL_cons rfl (X_of_Y0 rfl (Y0_pickTe (b := b42) (p := true) rfl (by kernel_rfl) hc43 (by kernel_rfl) hb45)) ?_
               refine XL_nil ?_
               kernel_rfl
              ·have hb45 := of_false hb45 hc43
               obtain ⟨y44, hy44, hb45⟩ := of_bind hb45
               have hb45 := some_inj hb45
               refine XL_takeC _ rfl rfl (by kernel_rfl) hc43 (X_of_Y0 rfl (E_move (.ow 560) rfl (by kernel_rfl))) ?_
               refine XL_takeC _ rfl rfl (by kernel_rfl) hc43 (X_of_Y0 rfl (E_loadn (cs := [Ti y26.1.1, Ti y26.1.2.1, Ti y26.1.2.2]) [Ti y26.1.1, Ti y26.1.2.1, Ti y26.1.2.2] wd43 rfl (by kernel_rfl) (Nat.le_of_ble_eq_true rfl) (by kernel_rfl))) ?_
               refine XL_takeC _ rfl rfl (by kernel_rfl) hc43 (X_of_Y1 rfl (Y1_callS (s_laws_qHas hy44) cf_laws_qHas rfl (by kernel_rfl) rfl rfl)) ?_
               refine XL_takeC _ rfl rfl (by kernel_rfl) hc43 (X_of_Y0 rfl (Y0_not (b := y44) rfl (by kernel_rfl))) ?_
               refine XL_cons rfl (X_of_Y0 rfl (Y0_pickFe (b := b42) (p := !y44) rfl (by kernel_rfl) hc43 (by kernel_rfl) hb45)) ?_
               refine XL_nil ?_
               kernel_rfl
             ·have hb42 := of_false hb42 hc40
              obtain ⟨y41, hy41, hb42⟩ := of_bind hb42
              have hb42 := some_inj hb42
              refine XL_takeC _ rfl rfl (by kernel_rfl) hc40 (X_of_Y0 rfl (E_move (.ow 560) rfl (by kernel_rfl))) ?_
              refine XL_takeC _ rfl rfl (by kernel_rfl) hc40 (X_of_Y0 rfl (E_loadn (cs := [Ti y18.1.1, Ti y18.1.2.1, Ti y18.1.2.2]) [Ti y18.1.1, Ti y18.1.2.1, Ti y18.1.2.2] wd43 rfl (by kernel_rfl) (Nat.le_of_ble_eq_true rfl) (by kernel_rfl))) ?_
              refine XL_takeC _ rfl rfl (by kernel_rfl) hc40 (X_of_Y1 rfl (Y1_callS (s_laws_qHas hy41) cf_laws_qHas rfl (by kernel_rfl) rfl rfl)) ?_
              refine XL_takeC _ rfl rfl (by kernel_rfl) hc40 (X_of_Y0 rfl (Y0_not (b := y41) rfl (by kernel_rfl))) ?_
              refine XL_cons rfl (X_of_Y0 rfl (Y0_pickFe (b := b39) (p := !y41) rfl (by kernel_rfl) hc40 (by kernel_rfl) hb42)) ?_
              refine L0 rfl rfl (E_move (Bo b42) rfl (by kernel_rfl)) ?_
              refine XL_split b42 (fun hc43 => ?_) (fun hc43 => ?_)
              ·have hb45 := some_inj (of_true hb45 hc43)
               refine XL_skipF _ rfl rfl (by kernel_rfl) hc43 rfl ?_
               refine XL_skipF _ rfl rfl (by kernel_rfl) hc43 rfl ?_
               refine XL_skipF _ rfl rfl (by kernel_rfl) hc43 rfl ?_
               refine XL_skipF _ rfl rfl (by kernel_rfl) hc43 rfl ?_
               refine XL_cons rfl (X_of_Y0 rfl (Y0_pickTe (b := b42) (p := true) rfl (by kernel_rfl) hc43 (by kernel_rfl) hb45)) ?_
               refine XL_nil ?_
               kernel_rfl
              ·have hb45 := of_false hb45 hc43
               obtain ⟨y44, hy44, hb45⟩ := of_bind hb45
               have hb45 := some_inj hb45
               refine XL_takeC _ rfl rfl (by kernel_rfl) hc43 (X_of_Y0 rfl (E_move (.ow 560) rfl (by kernel_rfl))) ?_
               refine XL_takeC _ rfl rfl (by kernel_rfl) hc43 (X_of_Y0 rfl (E_loadn (cs := [Ti y26.1.1, Ti y26.1.2.1, Ti y26.1.2.2]) [Ti y26.1.1, Ti y26.1.2.1, Ti y26.1.2.2] wd43 rfl (by kernel_rfl) (Nat.le_of_ble_eq_true rfl) (by kernel_rfl))) ?_
               refine XL_takeC _ rfl rfl (by kernel_rfl) hc43 (X_of_Y1 rfl (Y1_callS (s_laws_qHas hy44) cf_laws_qHas rfl (by kernel_rfl) rfl rfl)) ?_
               refine XL_takeC _ rfl rfl (by kernel_rfl) hc43 (X_of_Y0 rfl (Y0_not (b := y44) rfl (by kernel_rfl))) ?_
               refine XL_cons rfl (X_of_Y0 rfl (Y0_pickFe (b := b42) (p := !y44) rfl (by kernel_rfl) hc43 (by kernel_rfl) hb45)) ?_
               refine XL_nil ?_
               kernel_rfl
          ·refine XL_takeC _ rfl rfl (by kernel_rfl) hc33 (X_of_Y0 rfl (E_move (Bo y28.2) rfl (by kernel_rfl))) ?_
           refine XL_takeC _ rfl rfl (by kernel_rfl) hc33 (X_of_Y0 rfl (Y0_not (b := y28.2) rfl (by kernel_rfl))) ?_
           refine XL_cons rfl (X_of_Y0 rfl (Y0_pick0 (b := b32) (p := true) (q := !y28.2) rfl (by kernel_rfl) hc33 (by kernel_rfl))) ?_
           refine L0 rfl rfl (E_move (Bo (bif b32 then true else (!y28.2))) rfl (by kernel_rfl)) ?_
           refine XL_split (bif b32 then true else (!y28.2)) (fun hc34 => ?_) (fun hc34 => ?_)
           ·have hb36 := some_inj (of_true hb36 hc34)
            refine XL_skipF _ rfl rfl (by kernel_rfl) hc34 rfl ?_
            refine XL_skipF _ rfl rfl (by kernel_rfl) hc34 rfl ?_
            refine XL_skipF _ rfl rfl (by kernel_rfl) hc34 rfl ?_
            refine XL_skipF _ rfl rfl (by kernel_rfl) hc34 rfl ?_
            refine XL_cons rfl (X_of_Y0 rfl (Y0_pickTe (b := bif b32 then true else (!y28.2)) (p := true) rfl (by kernel_rfl) hc34 (by kernel_rfl) hb36)) ?_
            refine L0 rfl rfl (E_move (Bo b36) rfl (by kernel_rfl)) ?_
            refine XL_split b36 (fun hc37 => ?_) (fun hc37 => ?_)
            ·have hb39 := some_inj (of_true hb39 hc37)
             refine XL_skipF _ rfl rfl (by kernel_rfl) hc37 rfl ?_
             refine XL_skipF _ rfl rfl (by kernel_rfl) hc37 rfl ?_
             refine XL_skipF _ rfl rfl (by kernel_rfl) hc37 rfl ?_
             refine XL_skipF _ rfl rfl (by kernel_rfl) hc37 rfl ?_
             refine XL_cons rfl (X_of_Y0 rfl (Y0_pickTe (b := b36) (p := true) rfl (by kernel_rfl) hc37 (by kernel_rfl) hb39)) ?_
             refine L0 rfl rfl (E_move (Bo b39) rfl (by kernel_rfl)) ?_
             refine XL_split b39 (fun hc40 => ?_) (fun hc40 => ?_)
             ·have hb42 := some_inj (of_true hb42 hc40)
              refine XL_skipF _ rfl rfl (by kernel_rfl) hc40 rfl ?_
              refine XL_skipF _ rfl rfl (by kernel_rfl) hc40 rfl ?_
              refine XL_skipF _ rfl rfl (by kernel_rfl) hc40 rfl ?_
              refine XL_skipF _ rfl rfl (by kernel_rfl) hc40 rfl ?_
              refine XL_cons rfl (X_of_Y0 rfl (Y0_pickTe (b := b39) (p := true) rfl (by kernel_rfl) hc40 (by kernel_rfl) hb42)) ?_
              refine L0 rfl rfl (E_move (Bo b42) rfl (by kernel_rfl)) ?_
              refine XL_split b42 (fun hc43 => ?_) (fun hc43 => ?_)
              ·have hb45 := some_inj (of_true hb45 hc43)
               refine XL_skipF _ rfl rfl (by kernel_rfl) hc43 rfl ?_
               refine XL_skipF _ rfl rfl (by kernel_rfl) hc43 rfl ?_
               refine XL_skipF _ rfl rfl (by kernel_rfl) hc43 rfl ?_
               refine XL_skipF _ rfl rfl (by kernel_rfl) hc43 rfl ?_
               refine XL_cons rfl (X_of_Y0 rfl (Y0_pickTe (b := b42) (p := true) rfl (by kernel_rfl) hc43 (by kernel_rfl) hb45)) ?_
               refine XL_nil ?_
               kernel_rfl
              ·have hb45 := of_false hb45 hc43
               obtain ⟨y44, hy44, hb45⟩ := of_bind hb45
               have hb45 := some_inj hb45
               refine XL_takeC _ rfl rfl (by kernel_rfl) hc43 (X_of_Y0 rfl (E_move (.ow 560) rfl (by kernel_rfl))) ?_
               refine XL_takeC _ rfl rfl (by kernel_rfl) hc43 (X_of_Y0 rfl (E_loadn (cs := [Ti y26.1.1, Ti y26.1.2.1, Ti y26.1.2.2]) [Ti y26.1.1, Ti y26.1.2.1, Ti y26.1.2.2] wd43 rfl (by kernel_rfl) (Nat.le_of_ble_eq_true rfl) (by kernel_rfl))) ?_
               refine XL_takeC _ rfl rfl (by kernel_rfl) hc43 (X_of_Y1 rfl (Y1_callS (s_laws_qHas hy44) cf_laws_qHas rfl (by kernel_rfl) rfl rfl)) ?_
               refine XL_takeC _ rfl rfl (by kernel_rfl) hc43 (X_of_Y0 rfl (Y0_not (b := y44) rfl (by kernel_rfl))) ?_
               refine XL_cons rfl (X_of_Y0 rfl (Y0_pickFe (b := b42) (p := !y44) rfl (by kernel_rfl) hc43 (by kernel_rfl) hb45)) ?_
               refine XL_nil ?_
               kernel_rfl
             ·have hb42 := of_false hb42 hc40
              obtain ⟨y41, hy41, hb42⟩ := of_bind hb42
              have hb42 := some_inj hb42
              refine XL_takeC _ rfl rfl (by kernel_rfl) hc40 (X_of_Y0 rfl (E_move (.ow 560) rfl (by kernel_rfl))) ?_
              refine XL_takeC _ rfl rfl (by kernel_rfl) hc40 (X_of_Y0 rfl (E_loadn (cs := [Ti y18.1.1, Ti y18.1.2.1, Ti y18.1.2.2]) [Ti y18.1.1, Ti y18.1.2.1, Ti y18.1.2.2] wd43 rfl (by kernel_rfl) (Nat.le_of_ble_eq_true rfl) (by kernel_rfl))) ?_
              refine XL_takeC _ rfl rfl (by kernel_rfl) hc40 (X_of_Y1 rfl (Y1_callS (s_laws_qHas hy41) cf_laws_qHas rfl (by kernel_rfl) rfl rfl)) ?_
              refine XL_takeC _ rfl rfl (by kernel_rfl) hc40 (X_of_Y0 rfl (Y0_not (b := y41) rfl (by kernel_rfl))) ?_
              refine XL_cons rfl (X_of_Y0 rfl (Y0_pickFe (b := b39) (p := !y41) rfl (by kernel_rfl) hc40 (by kernel_rfl) hb42)) ?_
              refine L0 rfl rfl (E_move (Bo b42) rfl (by kernel_rfl)) ?_
              refine XL_split b42 (fun hc43 => ?_) (fun hc43 => ?_)
              ·have hb45 := some_inj (of_true hb45 hc43)
               refine XL_skipF _ rfl rfl (by kernel_rfl) hc43 rfl ?_
               refine XL_skipF _ rfl rfl (by kernel_rfl) hc43 rfl ?_
               refine XL_skipF _ rfl rfl (by kernel_rfl) hc43 rfl ?_
               refine XL_skipF _ rfl rfl (by kernel_rfl) hc43 rfl ?_
               refine XL_cons rfl (X_of_Y0 rfl (Y0_pickTe (b := b42) (p := true) rfl (by kernel_rfl) hc43 (by kernel_rfl) hb45)) ?_
               refine XL_nil ?_
               kernel_rfl
              ·have hb45 := of_false hb45 hc43
               obtain ⟨y44, hy44, hb45⟩ := of_bind hb45
               have hb45 := some_inj hb45
               refine XL_takeC _ rfl rfl (by kernel_rfl) hc43 (X_of_Y0 rfl (E_move (.ow 560) rfl (by kernel_rfl))) ?_
               refine XL_takeC _ rfl rfl (by kernel_rfl) hc43 (X_of_Y0 rfl (E_loadn (cs := [Ti y26.1.1, Ti y26.1.2.1, Ti y26.1.2.2]) [Ti y26.1.1, Ti y26.1.2.1, Ti y26.1.2.2] wd43 rfl (by kernel_rfl) (Nat.le_of_ble_eq_true rfl) (by kernel_rfl))) ?_
               refine XL_takeC _ rfl rfl (by kernel_rfl) hc43 (X_of_Y1 rfl (Y1_callS (s_laws_qHas hy44) cf_laws_qHas rfl (by kernel_rfl) rfl rfl)) ?_
               refine XL_takeC _ rfl rfl (by kernel_rfl) hc43 (X_of_Y0 rfl (Y0_not (b := y44) rfl (by kernel_rfl))) ?_
               refine XL_cons rfl (X_of_Y0 rfl (Y0_pickFe (b := b42) (p := !y44) rfl (by kernel_rfl) hc43 (by kernel_rfl) hb45)) ?_
               refine XL_nil ?_
               kernel_rfl
            ·have hb39 := of_false hb39 hc37
             obtain ⟨y38, hy38, hb39⟩ := of_bind hb39
             have hb39 := some_inj hb39
             refine XL_takeC _ rfl rfl (by kernel_rfl) hc37 (X_of_Y0 rfl (E_move (.ow 904) rfl (by kernel_rfl))) ?_
             refine XL_takeC _ rfl rfl (by kernel_rfl) hc37 (X_of_Y0 rfl (E_loadn (cs := [Ti y26.1.1, Ti y26.1.2.1, Ti y26.1.2.2]) [Ti y26.1.1, Ti y26.1.2.1, Ti y26.1.2.2] wd43 rfl (by kernel_rfl) (Nat.le_of_ble_eq_true rfl) (by kernel_rfl))) ?_
             refine XL_takeC _ rfl rfl (by kernel_rfl) hc37 (X_of_Y1 rfl (Y1_callS (s_laws_qHas hy38) cf_laws_qHas rfl (by kernel_rfl) rfl rfl)) ?_
             refine XL_takeC _ rfl rfl (by kernel_rfl) hc37 (X_of_Y0 rfl (Y0_not (b := y38) rfl (by kernel_rfl))) ?_
             refine XL_cons rfl (X_of_Y0 rfl (Y0_pickFe (b := b36) (p := !y38) rfl (by kernel_rfl) hc37 (by kernel_rfl) hb39)) ?_
             refine L0 rfl rfl (E_move (Bo b39) rfl (by kernel_rfl)) ?_
             refine XL_split b39 (fun hc40 => ?_) (fun hc40 => ?_)
             ·have hb42 := some_inj (of_true hb42 hc40)
              refine XL_skipF _ rfl rfl (by kernel_rfl) hc40 rfl ?_
              refine XL_skipF _ rfl rfl (by kernel_rfl) hc40 rfl ?_
              refine XL_skipF _ rfl rfl (by kernel_rfl) hc40 rfl ?_
              refine XL_skipF _ rfl rfl (by kernel_rfl) hc40 rfl ?_
              refine XL_cons rfl (X_of_Y0 rfl (Y0_pickTe (b := b39) (p := true) rfl (by kernel_rfl) hc40 (by kernel_rfl) hb42)) ?_
              refine L0 rfl rfl (E_move (Bo b42) rfl (by kernel_rfl)) ?_
              refine XL_split b42 (fun hc43 => ?_) (fun hc43 => ?_)
              ·have hb45 := some_inj (of_true hb45 hc43)
               refine XL_skipF _ rfl rfl (by kernel_rfl) hc43 rfl ?_
               refine XL_skipF _ rfl rfl (by kernel_rfl) hc43 rfl ?_
               refine XL_skipF _ rfl rfl (by kernel_rfl) hc43 rfl ?_
               refine XL_skipF _ rfl rfl (by kernel_rfl) hc43 rfl ?_
               refine XL_cons rfl (X_of_Y0 rfl (Y0_pickTe (b := b42) (p := true) rfl (by kernel_rfl) hc43 (by kernel_rfl) hb45)) ?_
               refine XL_nil ?_
               kernel_rfl
              ·have hb45 := of_false hb45 hc43
               obtain ⟨y44, hy44, hb45⟩ := of_bind hb45
               have hb45 := some_inj hb45
               refine XL_takeC _ rfl rfl (by kernel_rfl) hc43 (X_of_Y0 rfl (E_move (.ow 560) rfl (by kernel_rfl))) ?_
               refine XL_takeC _ rfl rfl (by kernel_rfl) hc43 (X_of_Y0 rfl (E_loadn (cs := [Ti y26.1.1, Ti y26.1.2.1, Ti y26.1.2.2]) [Ti y26.1.1, Ti y26.1.2.1, Ti y26.1.2.2] wd43 rfl (by kernel_rfl) (Nat.le_of_ble_eq_true rfl) (by kernel_rfl))) ?_
               refine XL_takeC _ rfl rfl (by kernel_rfl) hc43 (X_of_Y1 rfl (Y1_callS (s_laws_qHas hy44) cf_laws_qHas rfl (by kernel_rfl) rfl rfl)) ?_
               refine XL_takeC _ rfl rfl (by kernel_rfl) hc43 (X_of_Y0 rfl (Y0_not (b := y44) rfl (by kernel_rfl))) ?_
               refine XL_cons rfl (X_of_Y0 rfl (Y0_pickFe (b := b42) (p := !y44) rfl (by kernel_rfl) hc43 (by kernel_rfl) hb45)) ?_
               refine XL_nil ?_
               kernel_rfl
             ·have hb42 := of_false hb42 hc40
              obtain ⟨y41, hy41, hb42⟩ := of_bind hb42
              have hb42 := some_inj hb42
              refine XL_takeC _ rfl rfl (by kernel_rfl) hc40 (X_of_Y0 rfl (E_move (.ow 560) rfl (by kernel_rfl))) ?_
              refine XL_takeC _ rfl rfl (by kernel_rfl) hc40 (X_of_Y0 rfl (E_loadn (cs := [Ti y18.1.1, Ti y18.1.2.1, Ti y18.1.2.2]) [Ti y18.1.1, Ti y18.1.2.1, Ti y18.1.2.2] wd43 rfl (by kernel_rfl) (Nat.le_of_ble_eq_true rfl) (by kernel_rfl))) ?_
              refine XL_takeC _ rfl rfl (by kernel_rfl) hc40 (X_of_Y1 rfl (Y1_callS (s_laws_qHas hy41) cf_laws_qHas rfl (by kernel_rfl) rfl rfl)) ?_
              refine XL_takeC _ rfl rfl (by kernel_rfl) hc40 (X_of_Y0 rfl (Y0_not (b := y41) rfl (by kernel_rfl))) ?_
              refine XL_cons rfl (X_of_Y0 rfl (Y0_pickFe (b := b39) (p := !y41) rfl (by kernel_rfl) hc40 (by kernel_rfl) hb42)) ?_
              refine L0 rfl rfl (E_move (Bo b42) rfl (by kernel_rfl)) ?_
              refine XL_split b42 (fun hc43 => ?_) (fun hc43 => ?_)
              ·have hb45 := some_inj (of_true hb45 hc43)
               refine XL_skipF _ rfl rfl (by kernel_rfl) hc43 rfl ?_
               refine XL_skipF _ rfl rfl (by kernel_rfl) hc43 rfl ?_
               refine XL_skipF _ rfl rfl (by kernel_rfl) hc43 rfl ?_
               refine XL_skipF _ rfl rfl (by kernel_rfl) hc43 rfl ?_
               refine XL_cons rfl (X_of_Y0 rfl (Y0_pickTe (b := b42) (p := true) rfl (by kernel_rfl) hc43 (by kernel_rfl) hb45)) ?_
               refine XL_nil ?_
               kernel_rfl
              ·have hb45 := of_false hb45 hc43
               obtain ⟨y44, hy44, hb45⟩ := of_bind hb45
               have hb45 := some_inj hb45
               refine XL_takeC _ rfl rfl (by kernel_rfl) hc43 (X_of_Y0 rfl (E_move (.ow 560) rfl (by kernel_rfl))) ?_
               refine XL_takeC _ rfl rfl (by kernel_rfl) hc43 (X_of_Y0 rfl (E_loadn (cs := [Ti y26.1.1, Ti y26.1.2.1, Ti y26.1.2.2]) [Ti y26.1.1, Ti y26.1.2.1, Ti y26.1.2.2] wd43 rfl (by kernel_rfl) (Nat.le_of_ble_eq_true rfl) (by kernel_rfl))) ?_
               refine XL_takeC _ rfl rfl (by kernel_rfl) hc43 (X_of_Y1 rfl (Y1_callS (s_laws_qHas hy44) cf_laws_qHas rfl (by kernel_rfl) rfl rfl)) ?_
               refine XL_takeC _ rfl rfl (by kernel_rfl) hc43 (X_of_Y0 rfl (Y0_not (b := y44) rfl (by kernel_rfl))) ?_
               refine XL_cons rfl (X_of_Y0 rfl (Y0_pickFe (b := b42) (p := !y44) rfl (by kernel_rfl) hc43 (by kernel_rfl) hb45)) ?_
               refine XL_nil ?_
               kernel_rfl
           ·have hb36 := of_false hb36 hc34
            obtain ⟨y35, hy35, hb36⟩ := of_bind hb36
            have hb36 := some_inj hb36
            refine XL_takeC _ rfl rfl (by kernel_rfl) hc34 (X_of_Y0 rfl (E_move (.ow 904) rfl (by kernel_rfl))) ?_
            refine XL_takeC _ rfl rfl (by kernel_rfl) hc34 (X_of_Y0 rfl (E_loadn (cs := [Ti y18.1.1, Ti y18.1.2.1, Ti y18.1.2.2]) [Ti y18.1.1, Ti y18.1.2.1, Ti y18.1.2.2] wd43 rfl (by kernel_rfl) (Nat.le_of_ble_eq_true rfl) (by kernel_rfl))) ?_
            refine XL_takeC _ rfl rfl (by kernel_rfl) hc34 (X_of_Y1 rfl (Y1_callS (s_laws_qHas hy35) cf_laws_qHas rfl (by kernel_rfl) rfl rfl)) ?_
            refine XL_takeC _ rfl rfl (by kernel_rfl) hc34 (X_of_Y0 rfl (Y0_not (b := y35) rfl (by kernel_rfl))) ?_
            refine XL_cons rfl (X_of_Y0 rfl (Y0_pickFe (b := bif b32 then true else (!y28.2)) (p := !y35) rfl (by kernel_rfl) hc34 (by kernel_rfl) hb36)) ?_
            refine L0 rfl rfl (E_move (Bo b36) rfl (by kernel_rfl)) ?_
            refine XL_split b36 (fun hc37 => ?_) (fun hc37 => ?_)
            ·have hb39 := some_inj (of_true hb39 hc37)
             refine XL_skipF _ rfl rfl (by kernel_rfl) hc37 rfl ?_
             refine XL_skipF _ rfl rfl (by kernel_rfl) hc37 rfl ?_
             refine XL_skipF _ rfl rfl (by kernel_rfl) hc37 rfl ?_
             refine XL_skipF _ rfl rfl (by kernel_rfl) hc37 rfl ?_
             refine XL_cons rfl (X_of_Y0 rfl (Y0_pickTe (b := b36) (p := true) rfl (by kernel_rfl) hc37 (by kernel_rfl) hb39)) ?_
             refine L0 rfl rfl (E_move (Bo b39) rfl (by kernel_rfl)) ?_
             refine XL_split b39 (fun hc40 => ?_) (fun hc40 => ?_)
             ·have hb42 := some_inj (of_true hb42 hc40)
              refine XL_skipF _ rfl rfl (by kernel_rfl) hc40 rfl ?_
              refine XL_skipF _ rfl rfl (by kernel_rfl) hc40 rfl ?_
              refine XL_skipF _ rfl rfl (by kernel_rfl) hc40 rfl ?_
              refine XL_skipF _ rfl rfl (by kernel_rfl) hc40 rfl ?_
              refine XL_cons rfl (X_of_Y0 rfl (Y0_pickTe (b := b39) (p := true) rfl (by kernel_rfl) hc40 (by kernel_rfl) hb42)) ?_
              refine L0 rfl rfl (E_move (Bo b42) rfl (by kernel_rfl)) ?_
              refine XL_split b42 (fun hc43 => ?_) (fun hc43 => ?_)
              ·have hb45 := some_inj (of_true hb45 hc43)
               refine XL_skipF _ rfl rfl (by kernel_rfl) hc43 rfl ?_
               refine XL_skipF _ rfl rfl (by kernel_rfl) hc43 rfl ?_
               refine XL_skipF _ rfl rfl (by kernel_rfl) hc43 rfl ?_
               refine XL_skipF _ rfl rfl (by kernel_rfl) hc43 rfl ?_
               refine XL_cons rfl (X_of_Y0 rfl (Y0_pickTe (b := b42) (p := true) rfl (by kernel_rfl) hc43 (by kernel_rfl) hb45)) ?_
               refine XL_nil ?_
               kernel_rfl
              ·have hb45 := of_false hb45 hc43
               obtain ⟨y44, hy44, hb45⟩ := of_bind hb45
               have hb45 := some_inj hb45
               refine XL_takeC _ rfl rfl (by kernel_rfl) hc43 (X_of_Y0 rfl (E_move (.ow 560) rfl (by kernel_rfl))) ?_
               refine XL_takeC _ rfl rfl (by kernel_rfl) hc43 (X_of_Y0 rfl (E_loadn (cs := [Ti y26.1.1, Ti y26.1.2.1, Ti y26.1.2.2]) [Ti y26.1.1, Ti y26.1.2.1, Ti y26.1.2.2] wd43 rfl (by kernel_rfl) (Nat.le_of_ble_eq_true rfl) (by kernel_rfl))) ?_
               refine XL_takeC _ rfl rfl (by kernel_rfl) hc43 (X_of_Y1 rfl (Y1_callS (s_laws_qHas hy44) cf_laws_qHas rfl (by kernel_rfl) rfl rfl)) ?_
               refine XL_takeC _ rfl rfl (by kernel_rfl) hc43 (X_of_Y0 rfl (Y0_not (b := y44) rfl (by kernel_rfl))) ?_
               refine XL_cons rfl (X_of_Y0 rfl (Y0_pickFe (b := b42) (p := !y44) rfl (by kernel_rfl) hc43 (by kernel_rfl) hb45)) ?_
               refine XL_nil ?_
               kernel_rfl
             ·have hb42 := of_false hb42 hc40
              obtain ⟨y41, hy41, hb42⟩ := of_bind hb42
              have hb42 := some_inj hb42
              refine XL_takeC _ rfl rfl (by kernel_rfl) hc40 (X_of_Y0 rfl (E_move (.ow 560) rfl (by kernel_rfl))) ?_
              refine XL_takeC _ rfl rfl (by kernel_rfl) hc40 (X_of_Y0 rfl (E_loadn (cs := [Ti y18.1.1, Ti y18.1.2.1, Ti y18.1.2.2]) [Ti y18.1.1, Ti y18.1.2.1, Ti y18.1.2.2] wd43 rfl (by kernel_rfl) (Nat.le_of_ble_eq_true rfl) (by kernel_rfl))) ?_
              refine XL_takeC _ rfl rfl (by kernel_rfl) hc40 (X_of_Y1 rfl (Y1_callS (s_laws_qHas hy41) cf_laws_qHas rfl (by kernel_rfl) rfl rfl)) ?_
              refine XL_takeC _ rfl rfl (by kernel_rfl) hc40 (X_of_Y0 rfl (Y0_not (b := y41) rfl (by kernel_rfl))) ?_
              refine XL_cons rfl (X_of_Y0 rfl (Y0_pickFe (b := b39) (p := !y41) rfl (by kernel_rfl) hc40 (by kernel_rfl) hb42)) ?_
              refine L0 rfl rfl (E_move (Bo b42) rfl (by kernel_rfl)) ?_
              refine XL_split b42 (fun hc43 => ?_) (fun hc43 => ?_)
              ·have hb45 := some_inj (of_true hb45 hc43)
               refine XL_skipF _ rfl rfl (by kernel_rfl) hc43 rfl ?_
               refine XL_skipF _ rfl rfl (by kernel_rfl) hc43 rfl ?_
               refine XL_skipF _ rfl rfl (by kernel_rfl) hc43 rfl ?_
               refine XL_skipF _ rfl rfl (by kernel_rfl) hc43 rfl ?_
               refine XL_cons rfl (X_of_Y0 rfl (Y0_pickTe (b := b42) (p := true) rfl (by kernel_rfl) hc43 (by kernel_rfl) hb45)) ?_
               refine XL_nil ?_
               kernel_rfl
              ·have hb45 := of_false hb45 hc43
               obtain ⟨y44, hy44, hb45⟩ := of_bind hb45
               have hb45 := some_inj hb45
               refine XL_takeC _ rfl rfl (by kernel_rfl) hc43 (X_of_Y0 rfl (E_move (.ow 560) rfl (by kernel_rfl))) ?_
               refine XL_takeC _ rfl rfl (by kernel_rfl) hc43 (X_of_Y0 rfl (E_loadn (cs := [Ti y26.1.1, Ti y26.1.2.1, Ti y26.1.2.2]) [Ti y26.1.1, Ti y26.1.2.1, Ti y26.1.2.2] wd43 rfl (by kernel_rfl) (Nat.le_of_ble_eq_true rfl) (by kernel_rfl))) ?_
               refine XL_takeC _ rfl rfl (by kernel_rfl) hc43 (X_of_Y1 rfl (Y1_callS (s_laws_qHas hy44) cf_laws_qHas rfl (by kernel_rfl) rfl rfl)) ?_
               refine XL_takeC _ rfl rfl (by kernel_rfl) hc43 (X_of_Y0 rfl (Y0_not (b := y44) rfl (by kernel_rfl))) ?_
               refine XL_cons rfl (X_of_Y0 rfl (Y0_pickFe (b := b42) (p := !y44) rfl (by kernel_rfl) hc43 (by kernel_rfl) hb45)) ?_
               refine XL_nil ?_
               kernel_rfl
            ·have hb39 := of_false hb39 hc37
             obtain ⟨y38, hy38, hb39⟩ := of_bind hb39
             have hb39 := some_inj hb39
             refine XL_takeC _ rfl rfl (by kernel_rfl) hc37 (X_of_Y0 rfl (E_move (.ow 904) rfl (by kernel_rfl))) ?_
             refine XL_takeC _ rfl rfl (by kernel_rfl) hc37 (X_of_Y0 rfl (E_loadn (cs := [Ti y26.1.1, Ti y26.1.2.1, Ti y26.1.2.2]) [Ti y26.1.1, Ti y26.1.2.1, Ti y26.1.2.2] wd43 rfl (by kernel_rfl) (Nat.le_of_ble_eq_true rfl) (by kernel_rfl))) ?_
             refine XL_takeC _ rfl rfl (by kernel_rfl) hc37 (X_of_Y1 rfl (Y1_callS (s_laws_qHas hy38) cf_laws_qHas rfl (by kernel_rfl) rfl rfl)) ?_
             refine XL_takeC _ rfl rfl (by kernel_rfl) hc37 (X_of_Y0 rfl (Y0_not (b := y38) rfl (by kernel_rfl))) ?_
             refine XL_cons rfl (X_of_Y0 rfl (Y0_pickFe (b := b36) (p := !y38) rfl (by kernel_rfl) hc37 (by kernel_rfl) hb39)) ?_
             refine L0 rfl rfl (E_move (Bo b39) rfl (by kernel_rfl)) ?_
             refine XL_split b39 (fun hc40 => ?_) (fun hc40 => ?_)
             ·have hb42 := some_inj (of_true hb42 hc40)
              refine XL_skipF _ rfl rfl (by kernel_rfl) hc40 rfl ?_
              refine XL_skipF _ rfl rfl (by kernel_rfl) hc40 rfl ?_
              refine XL_skipF _ rfl rfl (by kernel_rfl) hc40 rfl ?_
              refine XL_skipF _ rfl rfl (by kernel_rfl) hc40 rfl ?_
              refine XL_cons rfl (X_of_Y0 rfl (Y0_pickTe (b := b39) (p := true) rfl (by kernel_rfl) hc40 (by kernel_rfl) hb42)) ?_
              refine L0 rfl rfl (E_move (Bo b42) rfl (by kernel_rfl)) ?_
              refine XL_split b42 (fun hc43 => ?_) (fun hc43 => ?_)
              ·have hb45 := some_inj (of_true hb45 hc43)
               refine XL_skipF _ rfl rfl (by kernel_rfl) hc43 rfl ?_
               refine XL_skipF _ rfl rfl (by kernel_rfl) hc43 rfl ?_
               refine XL_skipF _ rfl rfl (by kernel_rfl) hc43 rfl ?_
               refine XL_skipF _ rfl rfl (by kernel_rfl) hc43 rfl ?_
               refine XL_cons rfl (X_of_Y0 rfl (Y0_pickTe (b := b42) (p := true) rfl (by kernel_rfl) hc43 (by kernel_rfl) hb45)) ?_
               refine XL_nil ?_
               kernel_rfl
              ·have hb45 := of_false hb45 hc43
               obtain ⟨y44, hy44, hb45⟩ := of_bind hb45
               have hb45 := some_inj hb45
               refine XL_takeC _ rfl rfl (by kernel_rfl) hc43 (X_of_Y0 rfl (E_move (.ow 560) rfl (by kernel_rfl))) ?_
               refine XL_takeC _ rfl rfl (by kernel_rfl) hc43 (X_of_Y0 rfl (E_loadn (cs := [Ti y26.1.1, Ti y26.1.2.1, Ti y26.1.2.2]) [Ti y26.1.1, Ti y26.1.2.1, Ti y26.1.2.2] wd43 rfl (by kernel_rfl) (Nat.le_of_ble_eq_true rfl) (by kernel_rfl))) ?_
               refine XL_takeC _ rfl rfl (by kernel_rfl) hc43 (X_of_Y1 rfl (Y1_callS (s_laws_qHas hy44) cf_laws_qHas rfl (by kernel_rfl) rfl rfl)) ?_
               refine XL_takeC _ rfl rfl (by kernel_rfl) hc43 (X_of_Y0 rfl (Y0_not (b := y44) rfl (by kernel_rfl))) ?_
               refine XL_cons rfl (X_of_Y0 rfl (Y0_pickFe (b := b42) (p := !y44) rfl (by kernel_rfl) hc43 (by kernel_rfl) hb45)) ?_
               refine XL_nil ?_
               kernel_rfl
             ·have hb42 := of_false hb42 hc40
              obtain ⟨y41, hy41, hb42⟩ := of_bind hb42
              have hb42 := some_inj hb42
              refine XL_takeC _ rfl rfl (by kernel_rfl) hc40 (X_of_Y0 rfl (E_move (.ow 560) rfl (by kernel_rfl))) ?_
              refine XL_takeC _ rfl rfl (by kernel_rfl) hc40 (X_of_Y0 rfl (E_loadn (cs := [Ti y18.1.1, Ti y18.1.2.1, Ti y18.1.2.2]) [Ti y18.1.1, Ti y18.1.2.1, Ti y18.1.2.2] wd43 rfl (by kernel_rfl) (Nat.le_of_ble_eq_true rfl) (by kernel_rfl))) ?_
              refine XL_takeC _ rfl rfl (by kernel_rfl) hc40 (X_of_Y1 rfl (Y1_callS (s_laws_qHas hy41) cf_laws_qHas rfl (by kernel_rfl) rfl rfl)) ?_
              refine XL_takeC _ rfl rfl (by kernel_rfl) hc40 (X_of_Y0 rfl (Y0_not (b := y41) rfl (by kernel_rfl))) ?_
              refine XL_cons rfl (X_of_Y0 rfl (Y0_pickFe (b := b39) (p := !y41) rfl (by kernel_rfl) hc40 (by kernel_rfl) hb42)) ?_
              refine L0 rfl rfl (E_move (Bo b42) rfl (by kernel_rfl)) ?_
              refine XL_split b42 (fun hc43 => ?_) (fun hc43 => ?_)
              ·have hb45 := some_inj (of_true hb45 hc43)
               refine XL_skipF _ rfl rfl (by kernel_rfl) hc43 rfl ?_
               refine XL_skipF _ rfl rfl (by kernel_rfl) hc43 rfl ?_
               refine XL_skipF _ rfl rfl (by kernel_rfl) hc43 rfl ?_
               refine XL_skipF _ rfl rfl (by kernel_rfl) hc43 rfl ?_
               refine XL_cons rfl (X_of_Y0 rfl (Y0_pickTe (b := b42) (p := true) rfl (by kernel_rfl) hc43 (by kernel_rfl) hb45)) ?_
               refine XL_nil ?_
               kernel_rfl
              ·have hb45 := of_false hb45 hc43
               obtain ⟨y44, hy44, hb45⟩ := of_bind hb45
               have hb45 := some_inj hb45
               refine XL_takeC _ rfl rfl (by kernel_rfl) hc43 (X_of_Y0 rfl (E_move (.ow 560) rfl (by kernel_rfl))) ?_
               refine XL_takeC _ rfl rfl (by kernel_rfl) hc43 (X_of_Y0 rfl (E_loadn (cs := [Ti y26.1.1, Ti y26.1.2.1, Ti y26.1.2.2]) [Ti y26.1.1, Ti y26.1.2.1, Ti y26.1.2.2] wd43 rfl (by kernel_rfl) (Nat.le_of_ble_eq_true rfl) (by kernel_rfl))) ?_
               refine XL_takeC _ rfl rfl (by kernel_rfl) hc43 (X_of_Y1 rfl (Y1_callS (s_laws_qHas hy44) cf_laws_qHas rfl (by kernel_rfl) rfl rfl)) ?_
               refine XL_takeC _ rfl rfl (by kernel_rfl) hc43 (X_of_Y0 rfl (Y0_not (b := y44) rfl (by kernel_rfl))) ?_
               refine XL_cons rfl (X_of_Y0 rfl (Y0_pickFe (b := b42) (p := !y44) rfl (by kernel_rfl) hc43 (by kernel_rfl) hb45)) ?_
               refine XL_nil ?_
               kernel_rfl
        ·refine XL_takeC _ rfl rfl (by kernel_rfl) hc29 (X_of_Y0 rfl (E_move (Bo y27.2) rfl (by kernel_rfl))) ?_
         refine XL_takeC _ rfl rfl (by kernel_rfl) hc29 (X_of_Y0 rfl (Y0_not (b := y27.2) rfl (by kernel_rfl))) ?_
         refine XL_cons rfl (X_of_Y0 rfl (Y0_pick0 (b := !y26.2) (p := true) (q := !y27.2) rfl (by kernel_rfl) hc29 (by kernel_rfl))) ?_
         refine L0 rfl rfl (E_move (Bo (bif (!y26.2) then true else (!y27.2))) rfl (by kernel_rfl)) ?_
         refine XL_split (bif (!y26.2) then true else (!y27.2)) (fun hc30 => ?_) (fun hc30 => ?_)
         ·have hb32 := some_inj (of_true hb32 hc30)
          refine XL_skipF _ rfl rfl (by kernel_rfl) hc30 rfl ?_
          refine XL_skipF _ rfl rfl (by kernel_rfl) hc30 rfl ?_
          refine XL_skipF _ rfl rfl (by kernel_rfl) hc30 rfl ?_
          refine XL_skipF _ rfl rfl (by kernel_rfl) hc30 rfl ?_
          refine XL_cons rfl (X_of_Y0 rfl (Y0_pickTe (b := bif (!y26.2) then true else (!y27.2)) (p := true) rfl (by kernel_rfl) hc30 (by kernel_rfl) hb32)) ?_
          refine L0 rfl rfl (E_move (Bo b32) rfl (by kernel_rfl)) ?_
          refine XL_split b32 (fun hc33 => ?_) (fun hc33 => ?_)
          ·refine XL_skipF _ rfl rfl (by kernel_rfl) hc33 rfl ?_
           refine XL_skipF _ rfl rfl (by kernel_rfl) hc33 rfl ?_
           refine XL_cons rfl (X_of_Y0 rfl (Y0_pick1 (b := b32) (p := true) (q := !y28.2) rfl (by kernel_rfl) hc33 (by kernel_rfl))) ?_
           refine L0 rfl rfl (E_move (Bo (bif b32 then true else (!y28.2))) rfl (by kernel_rfl)) ?_
           refine XL_split (bif b32 then true else (!y28.2)) (fun hc34 => ?_) (fun hc34 => ?_)
           ·have hb36 := some_inj (of_true hb36 hc34)
            refine XL_skipF _ rfl rfl (by kernel_rfl) hc34 rfl ?_
            refine XL_skipF _ rfl rfl (by kernel_rfl) hc34 rfl ?_
            refine XL_skipF _ rfl rfl (by kernel_rfl) hc34 rfl ?_
            refine XL_skipF _ rfl rfl (by kernel_rfl) hc34 rfl ?_
            refine XL_cons rfl (X_of_Y0 rfl (Y0_pickTe (b := bif b32 then true else (!y28.2)) (p := true) rfl (by kernel_rfl) hc34 (by kernel_rfl) hb36)) ?_
            refine L0 rfl rfl (E_move (Bo b36) rfl (by kernel_rfl)) ?_
            refine XL_split b36 (fun hc37 => ?_) (fun hc37 => ?_)
            ·have hb39 := some_inj (of_true hb39 hc37)
             refine XL_skipF _ rfl rfl (by kernel_rfl) hc37 rfl ?_
             refine XL_skipF _ rfl rfl (by kernel_rfl) hc37 rfl ?_
             refine XL_skipF _ rfl rfl (by kernel_rfl) hc37 rfl ?_
             refine XL_skipF _ rfl rfl (by kernel_rfl) hc37 rfl ?_
             refine XL_cons rfl (X_of_Y0 rfl (Y0_pickTe (b := b36) (p := true) rfl (by kernel_rfl) hc37 (by kernel_rfl) hb39)) ?_
             refine L0 rfl rfl (E_move (Bo b39) rfl (by kernel_rfl)) ?_
             refine XL_split b39 (fun hc40 => ?_) (fun hc40 => ?_)
             ·have hb42 := some_inj (of_true hb42 hc40)
              refine XL_skipF _ rfl rfl (by kernel_rfl) hc40 rfl ?_
              refine XL_skipF _ rfl rfl (by kernel_rfl) hc40 rfl ?_
              refine XL_skipF _ rfl rfl (by kernel_rfl) hc40 rfl ?_
              refine XL_skipF _ rfl rfl (by kernel_rfl) hc40 rfl ?_
              refine XL_cons rfl (X_of_Y0 rfl (Y0_pickTe (b := b39) (p := true) rfl (by kernel_rfl) hc40 (by kernel_rfl) hb42)) ?_
              refine L0 rfl rfl (E_move (Bo b42) rfl (by kernel_rfl)) ?_
              refine XL_split b42 (fun hc43 => ?_) (fun hc43 => ?_)
              ·have hb45 := some_inj (of_true hb45 hc43)
               refine XL_skipF _ rfl rfl (by kernel_rfl) hc43 rfl ?_
               refine XL_skipF _ rfl rfl (by kernel_rfl) hc43 rfl ?_
               refine XL_skipF _ rfl rfl (by kernel_rfl) hc43 rfl ?_
               refine XL_skipF _ rfl rfl (by kernel_rfl) hc43 rfl ?_
               refine XL_cons rfl (X_of_Y0 rfl (Y0_pickTe (b := b42) (p := true) rfl (by kernel_rfl) hc43 (by kernel_rfl) hb45)) ?_
               refine XL_nil ?_
               kernel_rfl
              ·have hb45 := of_false hb45 hc43
               obtain ⟨y44, hy44, hb45⟩ := of_bind hb45
               have hb45 := some_inj hb45
               refine XL_takeC _ rfl rfl (by kernel_rfl) hc43 (X_of_Y0 rfl (E_move (.ow 560) rfl (by kernel_rfl))) ?_
               refine XL_takeC _ rfl rfl (by kernel_rfl) hc43 (X_of_Y0 rfl (E_loadn (cs := [Ti y26.1.1, Ti y26.1.2.1, Ti y26.1.2.2]) [Ti y26.1.1, Ti y26.1.2.1, Ti y26.1.2.2] wd43 rfl (by kernel_rfl) (Nat.le_of_ble_eq_true rfl) (by kernel_rfl))) ?_
               refine XL_takeC _ rfl rfl (by kernel_rfl) hc43 (X_of_Y1 rfl (Y1_callS (s_laws_qHas hy44) cf_laws_qHas rfl (by kernel_rfl) rfl rfl)) ?_
               refine XL_takeC _ rfl rfl (by kernel_rfl) hc43 (X_of_Y0 rfl (Y0_not (b := y44) rfl (by kernel_rfl))) ?_
               refine XL_cons rfl (X_of_Y0 rfl (Y0_pickFe (b := b42) (p := !y44) rfl (by kernel_rfl) hc43 (by kernel_rfl) hb45)) ?_
               refine XL_nil ?_
               kernel_rfl
             ·have hb42 := of_false hb42 hc40
              obtain ⟨y41, hy41, hb42⟩ := of_bind hb42
              have hb42 := some_inj hb42
              refine XL_takeC _ rfl rfl (by kernel_rfl) hc40 (X_of_Y0 rfl (E_move (.ow 560) rfl (by kernel_rfl))) ?_
              refine XL_takeC _ rfl rfl (by kernel_rfl) hc40 (X_of_Y0 rfl (E_loadn (cs := [Ti y18.1.1, Ti y18.1.2.1, Ti y18.1.2.2]) [Ti y18.1.1, Ti y18.1.2.1, Ti y18.1.2.2] wd43 rfl (by kernel_rfl) (Nat.le_of_ble_eq_true rfl) (by kernel_rfl))) ?_
              refine XL_takeC _ rfl rfl (by kernel_rfl) hc40 (X_of_Y1 rfl (Y1_callS (s_laws_qHas hy41) cf_laws_qHas rfl (by kernel_rfl) rfl rfl)) ?_
              refine XL_takeC _ rfl rfl (by kernel_rfl) hc40 (X_of_Y0 rfl (Y0_not (b := y41) rfl (by kernel_rfl))) ?_
              refine XL_cons rfl (X_of_Y0 rfl (Y0_pickFe (b := b39) (p := !y41) rfl (by kernel_rfl) hc40 (by kernel_rfl) hb42)) ?_
              refine L0 rfl rfl (E_move (Bo b42) rfl (by kernel_rfl)) ?_
              refine XL_split b42 (fun hc43 => ?_) (fun hc43 => ?_)
              ·have hb45 := some_inj (of_true hb45 hc43)
               refine XL_skipF _ rfl rfl (by kernel_rfl) hc43 rfl ?_
               refine XL_skipF _ rfl rfl (by kernel_rfl) hc43 rfl ?_
               refine XL_skipF _ rfl rfl (by kernel_rfl) hc43 rfl ?_
               refine XL_skipF _ rfl rfl (by kernel_rfl) hc43 rfl ?_
               refine XL_cons rfl (X_of_Y0 rfl (Y0_pickTe (b := b42) (p := true) rfl (by kernel_rfl) hc43 (by kernel_rfl) hb45)) ?_
               refine XL_nil ?_
               kernel_rfl
              ·have hb45 := of_false hb45 hc43
               obtain ⟨y44, hy44, hb45⟩ := of_bind hb45
               have hb45 := some_inj hb45
               refine XL_takeC _ rfl rfl (by kernel_rfl) hc43 (X_of_Y0 rfl (E_move (.ow 560) rfl (by kernel_rfl))) ?_
               refine XL_takeC _ rfl rfl (by kernel_rfl) hc43 (X_of_Y0 rfl (E_loadn (cs := [Ti y26.1.1, Ti y26.1.2.1, Ti y26.1.2.2]) [Ti y26.1.1, Ti y26.1.2.1, Ti y26.1.2.2] wd43 rfl (by kernel_rfl) (Nat.le_of_ble_eq_true rfl) (by kernel_rfl))) ?_
               refine XL_takeC _ rfl rfl (by kernel_rfl) hc43 (X_of_Y1 rfl (Y1_callS (s_laws_qHas hy44) cf_laws_qHas rfl (by kernel_rfl) rfl rfl)) ?_
               refine XL_takeC _ rfl rfl (by kernel_rfl) hc43 (X_of_Y0 rfl (Y0_not (b := y44) rfl (by kernel_rfl))) ?_
               refine XL_cons rfl (X_of_Y0 rfl (Y0_pickFe (b := b42) (p := !y44) rfl (by kernel_rfl) hc43 (by kernel_rfl) hb45)) ?_
               refine XL_nil ?_
               kernel_rfl
            ·have hb39 := of_false hb39 hc37
             obtain ⟨y38, hy38, hb39⟩ := of_bind hb39
             have hb39 := some_inj hb39
             refine XL_takeC _ rfl rfl (by kernel_rfl) hc37 (X_of_Y0 rfl (E_move (.ow 904) rfl (by kernel_rfl))) ?_
             refine XL_takeC _ rfl rfl (by kernel_rfl) hc37 (X_of_Y0 rfl (E_loadn (cs := [Ti y26.1.1, Ti y26.1.2.1, Ti y26.1.2.2]) [Ti y26.1.1, Ti y26.1.2.1, Ti y26.1.2.2] wd43 rfl (by kernel_rfl) (Nat.le_of_ble_eq_true rfl) (by kernel_rfl))) ?_
             refine XL_takeC _ rfl rfl (by kernel_rfl) hc37 (X_of_Y1 rfl (Y1_callS (s_laws_qHas hy38) cf_laws_qHas rfl (by kernel_rfl) rfl rfl)) ?_
             refine XL_takeC _ rfl rfl (by kernel_rfl) hc37 (X_of_Y0 rfl (Y0_not (b := y38) rfl (by kernel_rfl))) ?_
             refine XL_cons rfl (X_of_Y0 rfl (Y0_pickFe (b := b36) (p := !y38) rfl (by kernel_rfl) hc37 (by kernel_rfl) hb39)) ?_
             refine L0 rfl rfl (E_move (Bo b39) rfl (by kernel_rfl)) ?_
             refine XL_split b39 (fun hc40 => ?_) (fun hc40 => ?_)
             ·have hb42 := some_inj (of_true hb42 hc40)
              refine XL_skipF _ rfl rfl (by kernel_rfl) hc40 rfl ?_
              refine XL_skipF _ rfl rfl (by kernel_rfl) hc40 rfl ?_
              refine XL_skipF _ rfl rfl (by kernel_rfl) hc40 rfl ?_
              refine XL_skipF _ rfl rfl (by kernel_rfl) hc40 rfl ?_
              refine XL_cons rfl (X_of_Y0 rfl (Y0_pickTe (b := b39) (p := true) rfl (by kernel_rfl) hc40 (by kernel_rfl) hb42)) ?_
              refine L0 rfl rfl (E_move (Bo b42) rfl (by kernel_rfl)) ?_
              refine XL_split b42 (fun hc43 => ?_) (fun hc43 => ?_)
              ·have hb45 := some_inj (of_true hb45 hc43)
               refine XL_skipF _ rfl rfl (by kernel_rfl) hc43 rfl ?_
               refine XL_skipF _ rfl rfl (by kernel_rfl) hc43 rfl ?_
               refine XL_skipF _ rfl rfl (by kernel_rfl) hc43 rfl ?_
               refine XL_skipF _ rfl rfl (by kernel_rfl) hc43 rfl ?_
               refine XL_cons rfl (X_of_Y0 rfl (Y0_pickTe (b := b42) (p := true) rfl (by kernel_rfl) hc43 (by kernel_rfl) hb45)) ?_
               refine XL_nil ?_
               kernel_rfl
              ·have hb45 := of_false hb45 hc43
               obtain ⟨y44, hy44, hb45⟩ := of_bind hb45
               have hb45 := some_inj hb45
               refine XL_takeC _ rfl rfl (by kernel_rfl) hc43 (X_of_Y0 rfl (E_move (.ow 560) rfl (by kernel_rfl))) ?_
               refine XL_takeC _ rfl rfl (by kernel_rfl) hc43 (X_of_Y0 rfl (E_loadn (cs := [Ti y26.1.1, Ti y26.1.2.1, Ti y26.1.2.2]) [Ti y26.1.1, Ti y26.1.2.1, Ti y26.1.2.2] wd43 rfl (by kernel_rfl) (Nat.le_of_ble_eq_true rfl) (by kernel_rfl))) ?_
               refine XL_takeC _ rfl rfl (by kernel_rfl) hc43 (X_of_Y1 rfl (Y1_callS (s_laws_qHas hy44) cf_laws_qHas rfl (by kernel_rfl) rfl rfl)) ?_
               refine XL_takeC _ rfl rfl (by kernel_rfl) hc43 (X_of_Y0 rfl (Y0_not (b := y44) rfl (by kernel_rfl))) ?_
               refine XL_cons rfl (X_of_Y0 rfl (Y0_pickFe (b := b42) (p := !y44) rfl (by kernel_rfl) hc43 (by kernel_rfl) hb45)) ?_
               refine XL_nil ?_
               kernel_rfl
             ·have hb42 := of_false hb42 hc40
              obtain ⟨y41, hy41, hb42⟩ := of_bind hb42
              have hb42 := some_inj hb42
              refine XL_takeC _ rfl rfl (by kernel_rfl) hc40 (X_of_Y0 rfl (E_move (.ow 560) rfl (by kernel_rfl))) ?_
              refine XL_takeC _ rfl rfl (by kernel_rfl) hc40 (X_of_Y0 rfl (E_loadn (cs := [Ti y18.1.1, Ti y18.1.2.1, Ti y18.1.2.2]) [Ti y18.1.1, Ti y18.1.2.1, Ti y18.1.2.2] wd43 rfl (by kernel_rfl) (Nat.le_of_ble_eq_true rfl) (by kernel_rfl))) ?_
              refine XL_takeC _ rfl rfl (by kernel_rfl) hc40 (X_of_Y1 rfl (Y1_callS (s_laws_qHas hy41) cf_laws_qHas rfl (by kernel_rfl) rfl rfl)) ?_
              refine XL_takeC _ rfl rfl (by kernel_rfl) hc40 (X_of_Y0 rfl (Y0_not (b := y41) rfl (by kernel_rfl))) ?_
              refine XL_cons rfl (X_of_Y0 rfl (Y0_pickFe (b := b39) (p := !y41) rfl (by kernel_rfl) hc40 (by kernel_rfl) hb42)) ?_
              refine L0 rfl rfl (E_move (Bo b42) rfl (by kernel_rfl)) ?_
              refine XL_split b42 (fun hc43 => ?_) (fun hc43 => ?_)
              ·have hb45 := some_inj (of_true hb45 hc43)
               refine XL_skipF _ rfl rfl (by kernel_rfl) hc43 rfl ?_
               refine XL_skipF _ rfl rfl (by kernel_rfl) hc43 rfl ?_
               refine XL_skipF _ rfl rfl (by kernel_rfl) hc43 rfl ?_
               refine XL_skipF _ rfl rfl (by kernel_rfl) hc43 rfl ?_
               refine XL_cons rfl (X_of_Y0 rfl (Y0_pickTe (b := b42) (p := true) rfl (by kernel_rfl) hc43 (by kernel_rfl) hb45)) ?_
               refine XL_nil ?_
               kernel_rfl
              ·have hb45 := of_false hb45 hc43
               obtain ⟨y44, hy44, hb45⟩ := of_bind hb45
               have hb45 := some_inj hb45
               refine XL_takeC _ rfl rfl (by kernel_rfl) hc43 (X_of_Y0 rfl (E_move (.ow 560) rfl (by kernel_rfl))) ?_
               refine XL_takeC _ rfl rfl (by kernel_rfl) hc43 (X_of_Y0 rfl (E_loadn (cs := [Ti y26.1.1, Ti y26.1.2.1, Ti y26.1.2.2]) [Ti y26.1.1, Ti y26.1.2.1, Ti y26.1.2.2] wd43 rfl (by kernel_rfl) (Nat.le_of_ble_eq_true rfl) (by kernel_rfl))) ?_
               refine XL_takeC _ rfl rfl (by kernel_rfl) hc43 (X_of_Y1 rfl (Y1_callS (s_laws_qHas hy44) cf_laws_qHas rfl (by kernel_rfl) rfl rfl)) ?_
               refine XL_takeC _ rfl rfl (by kernel_rfl) hc43 (X_of_Y0 rfl (Y0_not (b := y44) rfl (by kernel_rfl))) ?_
               refine XL_cons rfl (X_of_Y0 rfl (Y0_pickFe (b := b42) (p := !y44) rfl (by kernel_rfl) hc43 (by kernel_rfl) hb45)) ?_
               refine XL_nil ?_
               kernel_rfl
           ·have hb36 := of_false hb36 hc34
            obtain ⟨y35, hy35, hb36⟩ := of_bind hb36
            have hb36 := some_inj hb36
            refine XL_takeC _ rfl rfl (by kernel_rfl) hc34 (X_of_Y0 rfl (E_move (.ow 904) rfl (by kernel_rfl))) ?_
            refine XL_takeC _ rfl rfl (by kernel_rfl) hc34 (X_of_Y0 rfl (E_loadn (cs := [Ti y18.1.1, Ti y18.1.2.1, Ti y18.1.2.2]) [Ti y18.1.1, Ti y18.1.2.1, Ti y18.1.2.2] wd43 rfl (by kernel_rfl) (Nat.le_of_ble_eq_true rfl) (by kernel_rfl))) ?_
            refine XL_takeC _ rfl rfl (by kernel_rfl) hc34 (X_of_Y1 rfl (Y1_callS (s_laws_qHas hy35) cf_laws_qHas rfl (by kernel_rfl) rfl rfl)) ?_
            refine XL_takeC _ rfl rfl (by kernel_rfl) hc34 (X_of_Y0 rfl (Y0_not (b := y35) rfl (by kernel_rfl))) ?_
            refine XL_cons rfl (X_of_Y0 rfl (Y0_pickFe (b := bif b32 then true else (!y28.2)) (p := !y35) rfl (by kernel_rfl) hc34 (by kernel_rfl) hb36)) ?_
            refine L0 rfl rfl (E_move (Bo b36) rfl (by kernel_rfl)) ?_
            refine XL_split b36 (fun hc37 => ?_) (fun hc37 => ?_)
            ·have hb39 := some_inj (of_true hb39 hc37)
             refine XL_skipF _ rfl rfl (by kernel_rfl) hc37 rfl ?_
             refine XL_skipF _ rfl rfl (by kernel_rfl) hc37 rfl ?_
             refine XL_skipF _ rfl rfl (by kernel_rfl) hc37 rfl ?_
             refine XL_skipF _ rfl rfl (by kernel_rfl) hc37 rfl ?_
             refine XL_cons rfl (X_of_Y0 rfl (Y0_pickTe (b := b36) (p := true) rfl (by kernel_rfl) hc37 (by kernel_rfl) hb39)) ?_
             refine L0 rfl rfl (E_move (Bo b39) rfl (by kernel_rfl)) ?_
             refine XL_split b39 (fun hc40 => ?_) (fun hc40 => ?_)
             ·have hb42 := some_inj (of_true hb42 hc40)
              refine XL_skipF _ rfl rfl (by kernel_rfl) hc40 rfl ?_
              refine XL_skipF _ rfl rfl (by kernel_rfl) hc40 rfl ?_
              refine XL_skipF _ rfl rfl (by kernel_rfl) hc40 rfl ?_
              refine XL_skipF _ rfl rfl (by kernel_rfl) hc40 rfl ?_
              refine XL_cons rfl (X_of_Y0 rfl (Y0_pickTe (b := b39) (p := true) rfl (by kernel_rfl) hc40 (by kernel_rfl) hb42)) ?_
              refine L0 rfl rfl (E_move (Bo b42) rfl (by kernel_rfl)) ?_
              refine XL_split b42 (fun hc43 => ?_) (fun hc43 => ?_)
              ·have hb45 := some_inj (of_true hb45 hc43)
               refine XL_skipF _ rfl rfl (by kernel_rfl) hc43 rfl ?_
               refine XL_skipF _ rfl rfl (by kernel_rfl) hc43 rfl ?_
               refine XL_skipF _ rfl rfl (by kernel_rfl) hc43 rfl ?_
               refine XL_skipF _ rfl rfl (by kernel_rfl) hc43 rfl ?_
               refine XL_cons rfl (X_of_Y0 rfl (Y0_pickTe (b := b42) (p := true) rfl (by kernel_rfl) hc43 (by kernel_rfl) hb45)) ?_
               refine XL_nil ?_
               kernel_rfl
              ·have hb45 := of_false hb45 hc43
               obtain ⟨y44, hy44, hb45⟩ := of_bind hb45
               have hb45 := some_inj hb45
               refine XL_takeC _ rfl rfl (by kernel_rfl) hc43 (X_of_Y0 rfl (E_move (.ow 560) rfl (by kernel_rfl))) ?_
               refine XL_takeC _ rfl rfl (by kernel_rfl) hc43 (X_of_Y0 rfl (E_loadn (cs := [Ti y26.1.1, Ti y26.1.2.1, Ti y26.1.2.2]) [Ti y26.1.1, Ti y26.1.2.1, Ti y26.1.2.2] wd43 rfl (by kernel_rfl) (Nat.le_of_ble_eq_true rfl) (by kernel_rfl))) ?_
               refine XL_takeC _ rfl rfl (by kernel_rfl) hc43 (X_of_Y1 rfl (Y1_callS (s_laws_qHas hy44) cf_laws_qHas rfl (by kernel_rfl) rfl rfl)) ?_
               refine XL_takeC _ rfl rfl (by kernel_rfl) hc43 (X_of_Y0 rfl (Y0_not (b := y44) rfl (by kernel_rfl))) ?_
               refine XL_cons rfl (X_of_Y0 rfl (Y0_pickFe (b := b42) (p := !y44) rfl (by kernel_rfl) hc43 (by kernel_rfl) hb45)) ?_
               refine XL_nil ?_
               kernel_rfl
             ·have hb42 := of_false hb42 hc40
              obtain ⟨y41, hy41, hb42⟩ := of_bind hb42
              have hb42 := some_inj hb42
              refine XL_takeC _ rfl rfl (by kernel_rfl) hc40 (X_of_Y0 rfl (E_move (.ow 560) rfl (by kernel_rfl))) ?_
              refine XL_takeC _ rfl rfl (by kernel_rfl) hc40 (X_of_Y0 rfl (E_loadn (cs := [Ti y18.1.1, Ti y18.1.2.1, Ti y18.1.2.2]) [Ti y18.1.1, Ti y18.1.2.1, Ti y18.1.2.2] wd43 rfl (by kernel_rfl) (Nat.le_of_ble_eq_true rfl) (by kernel_rfl))) ?_
              refine XL_takeC _ rfl rfl (by kernel_rfl) hc40 (X_of_Y1 rfl (Y1_callS (s_laws_qHas hy41) cf_laws_qHas rfl (by kernel_rfl) rfl rfl)) ?_
              refine XL_takeC _ rfl rfl (by kernel_rfl) hc40 (X_of_Y0 rfl (Y0_not (b := y41) rfl (by kernel_rfl))) ?_
              refine XL_cons rfl (X_of_Y0 rfl (Y0_pickFe (b := b39) (p := !y41) rfl (by kernel_rfl) hc40 (by kernel_rfl) hb42)) ?_
              refine L0 rfl rfl (E_move (Bo b42) rfl (by kernel_rfl)) ?_
              refine XL_split b42 (fun hc43 => ?_) (fun hc43 => ?_)
              ·have hb45 := some_inj (of_true hb45 hc43)
               refine XL_skipF _ rfl rfl (by kernel_rfl) hc43 rfl ?_
               refine XL_skipF _ rfl rfl (by kernel_rfl) hc43 rfl ?_
               refine XL_skipF _ rfl rfl (by kernel_rfl) hc43 rfl ?_
               refine XL_skipF _ rfl rfl (by kernel_rfl) hc43 rfl ?_
               refine XL_cons rfl (X_of_Y0 rfl (Y0_pickTe (b := b42) (p := true) rfl (by kernel_rfl) hc43 (by kernel_rfl) hb45)) ?_
               refine XL_nil ?_
               kernel_rfl
              ·have hb45 := of_false hb45 hc43
               obtain ⟨y44, hy44, hb45⟩ := of_bind hb45
               have hb45 := some_inj hb45
               refine XL_takeC _ rfl rfl (by kernel_rfl) hc43 (X_of_Y0 rfl (E_move (.ow 560) rfl (by kernel_rfl))) ?_
               refine XL_takeC _ rfl rfl (by kernel_rfl) hc43 (X_of_Y0 rfl (E_loadn (cs := [Ti y26.1.1, Ti y26.1.2.1, Ti y26.1.2.2]) [Ti y26.1.1, Ti y26.1.2.1, Ti y26.1.2.2] wd43 rfl (by kernel_rfl) (Nat.le_of_ble_eq_true rfl) (by kernel_rfl))) ?_
               refine XL_takeC _ rfl rfl (by kernel_rfl) hc43 (X_of_Y1 rfl (Y1_callS (s_laws_qHas hy44) cf_laws_qHas rfl (by kernel_rfl) rfl rfl)) ?_
               refine XL_takeC _ rfl rfl (by kernel_rfl) hc43 (X_of_Y0 rfl (Y0_not (b := y44) rfl (by kernel_rfl))) ?_
               refine XL_cons rfl (X_of_Y0 rfl (Y0_pickFe (b := b42) (p := !y44) rfl (by kernel_rfl) hc43 (by kernel_rfl) hb45)) ?_
               refine XL_nil ?_
               kernel_rfl
            ·have hb39 := of_false hb39 hc37
             obtain ⟨y38, hy38, hb39⟩ := of_bind hb39
             have hb39 := some_inj hb39
             refine XL_takeC _ rfl rfl (by kernel_rfl) hc37 (X_of_Y0 rfl (E_move (.ow 904) rfl (by kernel_rfl))) ?_
             refine XL_takeC _ rfl rfl (by kernel_rfl) hc37 (X_of_Y0 rfl (E_loadn (cs := [Ti y26.1.1, Ti y26.1.2.1, Ti y26.1.2.2]) [Ti y26.1.1, Ti y26.1.2.1, Ti y26.1.2.2] wd43 rfl (by kernel_rfl) (Nat.le_of_ble_eq_true rfl) (by kernel_rfl))) ?_
             refine XL_takeC _ rfl rfl (by kernel_rfl) hc37 (X_of_Y1 rfl (Y1_callS (s_laws_qHas hy38) cf_laws_qHas rfl (by kernel_rfl) rfl rfl)) ?_
             refine XL_takeC _ rfl rfl (by kernel_rfl) hc37 (X_of_Y0 rfl (Y0_not (b := y38) rfl (by kernel_rfl))) ?_
             refine XL_cons rfl (X_of_Y0 rfl (Y0_pickFe (b := b36) (p := !y38) rfl (by kernel_rfl) hc37 (by kernel_rfl) hb39)) ?_
             refine L0 rfl rfl (E_move (Bo b39) rfl (by kernel_rfl)) ?_
             refine XL_split b39 (fun hc40 => ?_) (fun hc40 => ?_)
             ·have hb42 := some_inj (of_true hb42 hc40)
              refine XL_skipF _ rfl rfl (by kernel_rfl) hc40 rfl ?_
              refine XL_skipF _ rfl rfl (by kernel_rfl) hc40 rfl ?_
              refine XL_skipF _ rfl rfl (by kernel_rfl) hc40 rfl ?_
              refine XL_skipF _ rfl rfl (by kernel_rfl) hc40 rfl ?_
              refine XL_cons rfl (X_of_Y0 rfl (Y0_pickTe (b := b39) (p := true) rfl (by kernel_rfl) hc40 (by kernel_rfl) hb42)) ?_
              refine L0 rfl rfl (E_move (Bo b42) rfl (by kernel_rfl)) ?_
              refine XL_split b42 (fun hc43 => ?_) (fun hc43 => ?_)
              ·have hb45 := some_inj (of_true hb45 hc43)
               refine XL_skipF _ rfl rfl (by kernel_rfl) hc43 rfl ?_
               refine XL_skipF _ rfl rfl (by kernel_rfl) hc43 rfl ?_
               refine XL_skipF _ rfl rfl (by kernel_rfl) hc43 rfl ?_
               refine XL_skipF _ rfl rfl (by kernel_rfl) hc43 rfl ?_
               refine XL_cons rfl (X_of_Y0 rfl (Y0_pickTe (b := b42) (p := true) rfl (by kernel_rfl) hc43 (by kernel_rfl) hb45)) ?_
               refine XL_nil ?_
               kernel_rfl
              ·have hb45 := of_false hb45 hc43
               obtain ⟨y44, hy44, hb45⟩ := of_bind hb45
               have hb45 := some_inj hb45
               refine XL_takeC _ rfl rfl (by kernel_rfl) hc43 (X_of_Y0 rfl (E_move (.ow 560) rfl (by kernel_rfl))) ?_
               refine XL_takeC _ rfl rfl (by kernel_rfl) hc43 (X_of_Y0 rfl (E_loadn (cs := [Ti y26.1.1, Ti y26.1.2.1, Ti y26.1.2.2]) [Ti y26.1.1, Ti y26.1.2.1, Ti y26.1.2.2] wd43 rfl (by kernel_rfl) (Nat.le_of_ble_eq_true rfl) (by kernel_rfl))) ?_
               refine XL_takeC _ rfl rfl (by kernel_rfl) hc43 (X_of_Y1 rfl (Y1_callS (s_laws_qHas hy44) cf_laws_qHas rfl (by kernel_rfl) rfl rfl)) ?_
               refine XL_takeC _ rfl rfl (by kernel_rfl) hc43 (X_of_Y0 rfl (Y0_not (b := y44) rfl (by kernel_rfl))) ?_
               refine XL_cons rfl (X_of_Y0 rfl (Y0_pickFe (b := b42) (p := !y44) rfl (by kernel_rfl) hc43 (by kernel_rfl) hb45)) ?_
               refine XL_nil ?_
               kernel_rfl
             ·have hb42 := of_false hb42 hc40
              obtain ⟨y41, hy41, hb42⟩ := of_bind hb42
              have hb42 := some_inj hb42
              refine XL_takeC _ rfl rfl (by kernel_rfl) hc40 (X_of_Y0 rfl (E_move (.ow 560) rfl (by kernel_rfl))) ?_
              refine XL_takeC _ rfl rfl (by kernel_rfl) hc40 (X_of_Y0 rfl (E_loadn (cs := [Ti y18.1.1, Ti y18.1.2.1, Ti y18.1.2.2]) [Ti y18.1.1, Ti y18.1.2.1, Ti y18.1.2.2] wd43 rfl (by kernel_rfl) (Nat.le_of_ble_eq_true rfl) (by kernel_rfl))) ?_
              refine XL_takeC _ rfl rfl (by kernel_rfl) hc40 (X_of_Y1 rfl (Y1_callS (s_laws_qHas hy41) cf_laws_qHas rfl (by kernel_rfl) rfl rfl)) ?_
              refine XL_takeC _ rfl rfl (by kernel_rfl) hc40 (X_of_Y0 rfl (Y0_not (b := y41) rfl (by kernel_rfl))) ?_
              refine XL_cons rfl (X_of_Y0 rfl (Y0_pickFe (b := b39) (p := !y41) rfl (by kernel_rfl) hc40 (by kernel_rfl) hb42)) ?_
              refine L0 rfl rfl (E_move (Bo b42) rfl (by kernel_rfl)) ?_
              refine XL_split b42 (fun hc43 => ?_) (fun hc43 => ?_)
              ·have hb45 := some_inj (of_true hb45 hc43)
               refine XL_skipF _ rfl rfl (by kernel_rfl) hc43 rfl ?_
               refine XL_skipF _ rfl rfl (by kernel_rfl) hc43 rfl ?_
               refine XL_skipF _ rfl rfl (by kernel_rfl) hc43 rfl ?_
               refine XL_skipF _ rfl rfl (by kernel_rfl) hc43 rfl ?_
               refine XL_cons rfl (X_of_Y0 rfl (Y0_pickTe (b := b42) (p := true) rfl (by kernel_rfl) hc43 (by kernel_rfl) hb45)) ?_
               refine XL_nil ?_
               kernel_rfl
              ·have hb45 := of_false hb45 hc43
               obtain ⟨y44, hy44, hb45⟩ := of_bind hb45
               have hb45 := some_inj hb45
               refine XL_takeC _ rfl rfl (by kernel_rfl) hc43 (X_of_Y0 rfl (E_move (.ow 560) rfl (by kernel_rfl))) ?_
               refine XL_takeC _ rfl rfl (by kernel_rfl) hc43 (X_of_Y0 rfl (E_loadn (cs := [Ti y26.1.1, Ti y26.1.2.1, Ti y26.1.2.2]) [Ti y26.1.1, Ti y26.1.2.1, Ti y26.1.2.2] wd43 rfl (by kernel_rfl) (Nat.le_of_ble_eq_true rfl) (by kernel_rfl))) ?_
               refine XL_takeC _ rfl rfl (by kernel_rfl) hc43 (X_of_Y1 rfl (Y1_callS (s_laws_qHas hy44) cf_laws_qHas rfl (by kernel_rfl) rfl rfl)) ?_
               refine XL_takeC _ rfl rfl (by kernel_rfl) hc43 (X_of_Y0 rfl (Y0_not (b := y44) rfl (by kernel_rfl))) ?_
               refine XL_cons rfl (X_of_Y0 rfl (Y0_pickFe (b := b42) (p := !y44) rfl (by kernel_rfl) hc43 (by kernel_rfl) hb45)) ?_
               refine XL_nil ?_
               kernel_rfl
          ·refine XL_takeC _ rfl rfl (by kernel_rfl) hc33 (X_of_Y0 rfl (E_move (Bo y28.2) rfl (by kernel_rfl))) ?_
           refine XL_takeC _ rfl rfl (by kernel_rfl) hc33 (X_of_Y0 rfl (Y0_not (b := y28.2) rfl (by kernel_rfl))) ?_
           refine XL_cons rfl (X_of_Y0 rfl (Y0_pick0 (b := b32) (p := true) (q := !y28.2) rfl (by kernel_rfl) hc33 (by kernel_rfl))) ?_
           refine L0 rfl rfl (E_move (Bo (bif b32 then true else (!y28.2))) rfl (by kernel_rfl)) ?_
           refine XL_split (bif b32 then true else (!y28.2)) (fun hc34 => ?_) (fun hc34 => ?_)
           ·have hb36 := some_inj (of_true hb36 hc34)
            refine XL_skipF _ rfl rfl (by kernel_rfl) hc34 rfl ?_
            refine XL_skipF _ rfl rfl (by kernel_rfl) hc34 rfl ?_
            refine XL_skipF _ rfl rfl (by kernel_rfl) hc34 rfl ?_
            refine XL_skipF _ rfl rfl (by kernel_rfl) hc34 rfl ?_
            refine XL_cons rfl (X_of_Y0 rfl (Y0_pickTe (b := bif b32 then true else (!y28.2)) (p := true) rfl (by kernel_rfl) hc34 (by kernel_rfl) hb36)) ?_
            refine L0 rfl rfl (E_move (Bo b36) rfl (by kernel_rfl)) ?_
            refine XL_split b36 (fun hc37 => ?_) (fun hc37 => ?_)
            ·have hb39 := some_inj (of_true hb39 hc37)
             refine XL_skipF _ rfl rfl (by kernel_rfl) hc37 rfl ?_
             refine XL_skipF _ rfl rfl (by kernel_rfl) hc37 rfl ?_
             refine XL_skipF _ rfl rfl (by kernel_rfl) hc37 rfl ?_
             refine XL_skipF _ rfl rfl (by kernel_rfl) hc37 rfl ?_
             refine XL_cons rfl (X_of_Y0 rfl (Y0_pickTe (b := b36) (p := true) rfl (by kernel_rfl) hc37 (by kernel_rfl) hb39)) ?_
             refine L0 rfl rfl (E_move (Bo b39) rfl (by kernel_rfl)) ?_
             refine XL_split b39 (fun hc40 => ?_) (fun hc40 => ?_)
             ·have hb42 := some_inj (of_true hb42 hc40)
              refine XL_skipF _ rfl rfl (by kernel_rfl) hc40 rfl ?_
              refine XL_skipF _ rfl rfl (by kernel_rfl) hc40 rfl ?_
              refine XL_skipF _ rfl rfl (by kernel_rfl) hc40 rfl ?_
              refine XL_skipF _ rfl rfl (by kernel_rfl) hc40 rfl ?_
              refine XL_cons rfl (X_of_Y0 rfl (Y0_pickTe (b := b39) (p := true) rfl (by kernel_rfl) hc40 (by kernel_rfl) hb42)) ?_
              refine L0 rfl rfl (E_move (Bo b42) rfl (by kernel_rfl)) ?_
              refine XL_split b42 (fun hc43 => ?_) (fun hc43 => ?_)
              ·have hb45 := some_inj (of_true hb45 hc43)
               refine XL_skipF _ rfl rfl (by kernel_rfl) hc43 rfl ?_
               refine XL_skipF _ rfl rfl (by kernel_rfl) hc43 rfl ?_
               refine XL_skipF _ rfl rfl (by kernel_rfl) hc43 rfl ?_
               refine XL_skipF _ rfl rfl (by kernel_rfl) hc43 rfl ?_
               refine XL_cons rfl (X_of_Y0 rfl (Y0_pickTe (b := b42) (p := true) rfl (by kernel_rfl) hc43 (by kernel_rfl) hb45)) ?_
               refine XL_nil ?_
               kernel_rfl
              ·have hb45 := of_false hb45 hc43
               obtain ⟨y44, hy44, hb45⟩ := of_bind hb45
               have hb45 := some_inj hb45
               refine XL_takeC _ rfl rfl (by kernel_rfl) hc43 (X_of_Y0 rfl (E_move (.ow 560) rfl (by kernel_rfl))) ?_
               refine XL_takeC _ rfl rfl (by kernel_rfl) hc43 (X_of_Y0 rfl (E_loadn (cs := [Ti y26.1.1, Ti y26.1.2.1, Ti y26.1.2.2]) [Ti y26.1.1, Ti y26.1.2.1, Ti y26.1.2.2] wd43 rfl (by kernel_rfl) (Nat.le_of_ble_eq_true rfl) (by kernel_rfl))) ?_
               refine XL_takeC _ rfl rfl (by kernel_rfl) hc43 (X_of_Y1 rfl (Y1_callS (s_laws_qHas hy44) cf_laws_qHas rfl (by kernel_rfl) rfl rfl)) ?_
               refine XL_takeC _ rfl rfl (by kernel_rfl) hc43 (X_of_Y0 rfl (Y0_not (b := y44) rfl (by kernel_rfl))) ?_
               refine XL_cons rfl (X_of_Y0 rfl (Y0_pickFe (b := b42) (p := !y44) rfl (by kernel_rfl) hc43 (by kernel_rfl) hb45)) ?_
               refine XL_nil ?_
               kernel_rfl
             ·have hb42 := of_false hb42 hc40
              obtain ⟨y41, hy41, hb42⟩ := of_bind hb42
              have hb42 := some_inj hb42
              refine XL_takeC _ rfl rfl (by kernel_rfl) hc40 (X_of_Y0 rfl (E_move (.ow 560) rfl (by kernel_rfl))) ?_
              refine XL_takeC _ rfl rfl (by kernel_rfl) hc40 (X_of_Y0 rfl (E_loadn (cs := [Ti y18.1.1, Ti y18.1.2.1, Ti y18.1.2.2]) [Ti y18.1.1, Ti y18.1.2.1, Ti y18.1.2.2] wd43 rfl (by kernel_rfl) (Nat.le_of_ble_eq_true rfl) (by kernel_rfl))) ?_
              refine XL_takeC _ rfl rfl (by kernel_rfl) hc40 (X_of_Y1 rfl (Y1_callS (s_laws_qHas hy41) cf_laws_qHas rfl (by kernel_rfl) rfl rfl)) ?_
              refine XL_takeC _ rfl rfl (by kernel_rfl) hc40 (X_of_Y0 rfl (Y0_not (b := y41) rfl (by kernel_rfl))) ?_
              refine XL_cons rfl (X_of_Y0 rfl (Y0_pickFe (b := b39) (p := !y41) rfl (by kernel_rfl) hc40 (by kernel_rfl) hb42)) ?_
              refine L0 rfl rfl (E_move (Bo b42) rfl (by kernel_rfl)) ?_
              refine XL_split b42 (fun hc43 => ?_) (fun hc43 => ?_)
              ·have hb45 := some_inj (of_true hb45 hc43)
               refine XL_skipF _ rfl rfl (by kernel_rfl) hc43 rfl ?_
               refine XL_skipF _ rfl rfl (by kernel_rfl) hc43 rfl ?_
               refine XL_skipF _ rfl rfl (by kernel_rfl) hc43 rfl ?_
               refine XL_skipF _ rfl rfl (by kernel_rfl) hc43 rfl ?_
               refine XL_cons rfl (X_of_Y0 rfl (Y0_pickTe (b := b42) (p := true) rfl (by kernel_rfl) hc43 (by kernel_rfl) hb45)) ?_
               refine XL_nil ?_
               kernel_rfl
              ·have hb45 := of_false hb45 hc43
               obtain ⟨y44, hy44, hb45⟩ := of_bind hb45
               have hb45 := some_inj hb45
               refine XL_takeC _ rfl rfl (by kernel_rfl) hc43 (X_of_Y0 rfl (E_move (.ow 560) rfl (by kernel_rfl))) ?_
               refine XL_takeC _ rfl rfl (by kernel_rfl) hc43 (X_of_Y0 rfl (E_loadn (cs := [Ti y26.1.1, Ti y26.1.2.1, Ti y26.1.2.2]) [Ti y26.1.1, Ti y26.1.2.1, Ti y26.1.2.2] wd43 rfl (by kernel_rfl) (Nat.le_of_ble_eq_true rfl) (by kernel_rfl))) ?_
               refine XL_takeC _ rfl rfl (by kernel_rfl) hc43 (X_of_Y1 rfl (Y1_callS (s_laws_qHas hy44) cf_laws_qHas rfl (by kernel_rfl) rfl rfl)) ?_
               refine XL_takeC _ rfl rfl (by kernel_rfl) hc43 (X_of_Y0 rfl (Y0_not (b := y44) rfl (by kernel_rfl))) ?_
               refine XL_cons rfl (X_of_Y0 rfl (Y0_pickFe (b := b42) (p := !y44) rfl (by kernel_rfl) hc43 (by kernel_rfl) hb45)) ?_
               refine XL_nil ?_
               kernel_rfl
            ·have hb39 := of_false hb39 hc37
             obtain ⟨y38, hy38, hb39⟩ := of_bind hb39
             have hb39 := some_inj hb39
             refine XL_takeC _ rfl rfl (by kernel_rfl) hc37 (X_of_Y0 rfl (E_move (.ow 904) rfl (by kernel_rfl))) ?_
             refine XL_takeC _ rfl rfl (by kernel_rfl) hc37 (X_of_Y0 rfl (E_loadn (cs := [Ti y26.1.1, Ti y26.1.2.1, Ti y26.1.2.2]) [Ti y26.1.1, Ti y26.1.2.1, Ti y26.1.2.2] wd43 rfl (by kernel_rfl) (Nat.le_of_ble_eq_true rfl) (by kernel_rfl))) ?_
             refine XL_takeC _ rfl rfl (by kernel_rfl) hc37 (X_of_Y1 rfl (Y1_callS (s_laws_qHas hy38) cf_laws_qHas rfl (by kernel_rfl) rfl rfl)) ?_
             refine XL_takeC _ rfl rfl (by kernel_rfl) hc37 (X_of_Y0 rfl (Y0_not (b := y38) rfl (by kernel_rfl))) ?_
             refine XL_cons rfl (X_of_Y0 rfl (Y0_pickFe (b := b36) (p := !y38) rfl (by kernel_rfl) hc37 (by kernel_rfl) hb39)) ?_
             refine L0 rfl rfl (E_move (Bo b39) rfl (by kernel_rfl)) ?_
             refine XL_split b39 (fun hc40 => ?_) (fun hc40 => ?_)
             ·have hb42 := some_inj (of_true hb42 hc40)
              refine XL_skipF _ rfl rfl (by kernel_rfl) hc40 rfl ?_
              refine XL_skipF _ rfl rfl (by kernel_rfl) hc40 rfl ?_
              refine XL_skipF _ rfl rfl (by kernel_rfl) hc40 rfl ?_
              refine XL_skipF _ rfl rfl (by kernel_rfl) hc40 rfl ?_
              refine XL_cons rfl (X_of_Y0 rfl (Y0_pickTe (b := b39) (p := true) rfl (by kernel_rfl) hc40 (by kernel_rfl) hb42)) ?_
              refine L0 rfl rfl (E_move (Bo b42) rfl (by kernel_rfl)) ?_
              refine XL_split b42 (fun hc43 => ?_) (fun hc43 => ?_)
              ·have hb45 := some_inj (of_true hb45 hc43)
               refine XL_skipF _ rfl rfl (by kernel_rfl) hc43 rfl ?_
               refine XL_skipF _ rfl rfl (by kernel_rfl) hc43 rfl ?_
               refine XL_skipF _ rfl rfl (by kernel_rfl) hc43 rfl ?_
               refine XL_skipF _ rfl rfl (by kernel_rfl) hc43 rfl ?_
               refine XL_cons rfl (X_of_Y0 rfl (Y0_pickTe (b := b42) (p := true) rfl (by kernel_rfl) hc43 (by kernel_rfl) hb45)) ?_
               refine XL_nil ?_
               kernel_rfl
              ·have hb45 := of_false hb45 hc43
               obtain ⟨y44, hy44, hb45⟩ := of_bind hb45
               have hb45 := some_inj hb45
               refine XL_takeC _ rfl rfl (by kernel_rfl) hc43 (X_of_Y0 rfl (E_move (.ow 560) rfl (by kernel_rfl))) ?_
               refine XL_takeC _ rfl rfl (by kernel_rfl) hc43 (X_of_Y0 rfl (E_loadn (cs := [Ti y26.1.1, Ti y26.1.2.1, Ti y26.1.2.2]) [Ti y26.1.1, Ti y26.1.2.1, Ti y26.1.2.2] wd43 rfl (by kernel_rfl) (Nat.le_of_ble_eq_true rfl) (by kernel_rfl))) ?_
               refine XL_takeC _ rfl rfl (by kernel_rfl) hc43 (X_of_Y1 rfl (Y1_callS (s_laws_qHas hy44) cf_laws_qHas rfl (by kernel_rfl) rfl rfl)) ?_
               refine XL_takeC _ rfl rfl (by kernel_rfl) hc43 (X_of_Y0 rfl (Y0_not (b := y44) rfl (by kernel_rfl))) ?_
               refine XL_cons rfl (X_of_Y0 rfl (Y0_pickFe (b := b42) (p := !y44) rfl (by kernel_rfl) hc43 (by kernel_rfl) hb45)) ?_
               refine XL_nil ?_
               kernel_rfl
             ·have hb42 := of_false hb42 hc40
              obtain ⟨y41, hy41, hb42⟩ := of_bind hb42
              have hb42 := some_inj hb42
              refine XL_takeC _ rfl rfl (by kernel_rfl) hc40 (X_of_Y0 rfl (E_move (.ow 560) rfl (by kernel_rfl))) ?_
              refine XL_takeC _ rfl rfl (by kernel_rfl) hc40 (X_of_Y0 rfl (E_loadn (cs := [Ti y18.1.1, Ti y18.1.2.1, Ti y18.1.2.2]) [Ti y18.1.1, Ti y18.1.2.1, Ti y18.1.2.2] wd43 rfl (by kernel_rfl) (Nat.le_of_ble_eq_true rfl) (by kernel_rfl))) ?_
              refine XL_takeC _ rfl rfl (by kernel_rfl) hc40 (X_of_Y1 rfl (Y1_callS (s_laws_qHas hy41) cf_laws_qHas rfl (by kernel_rfl) rfl rfl)) ?_
              refine XL_takeC _ rfl rfl (by kernel_rfl) hc40 (X_of_Y0 rfl (Y0_not (b := y41) rfl (by kernel_rfl))) ?_
              refine XL_cons rfl (X_of_Y0 rfl (Y0_pickFe (b := b39) (p := !y41) rfl (by kernel_rfl) hc40 (by kernel_rfl) hb42)) ?_
              refine L0 rfl rfl (E_move (Bo b42) rfl (by kernel_rfl)) ?_
              refine XL_split b42 (fun hc43 => ?_) (fun hc43 => ?_)
              ·have hb45 := some_inj (of_true hb45 hc43)
               refine XL_skipF _ rfl rfl (by kernel_rfl) hc43 rfl ?_
               refine XL_skipF _ rfl rfl (by kernel_rfl) hc43 rfl ?_
               refine XL_skipF _ rfl rfl (by kernel_rfl) hc43 rfl ?_
               refine XL_skipF _ rfl rfl (by kernel_rfl) hc43 rfl ?_
               refine XL_cons rfl (X_of_Y0 rfl (Y0_pickTe (b := b42) (p := true) rfl (by kernel_rfl) hc43 (by kernel_rfl) hb45)) ?_
               refine XL_nil ?_
               kernel_rfl
              ·have hb45 := of_false hb45 hc43
               obtain ⟨y44, hy44, hb45⟩ := of_bind hb45
               have hb45 := some_inj hb45
               refine XL_takeC _ rfl rfl (by kernel_rfl) hc43 (X_of_Y0 rfl (E_move (.ow 560) rfl (by kernel_rfl))) ?_
               refine XL_takeC _ rfl rfl (by kernel_rfl) hc43 (X_of_Y0 rfl (E_loadn (cs := [Ti y26.1.1, Ti y26.1.2.1, Ti y26.1.2.2]) [Ti y26.1.1, Ti y26.1.2.1, Ti y26.1.2.2] wd43 rfl (by kernel_rfl) (Nat.le_of_ble_eq_true rfl) (by kernel_rfl))) ?_
               refine XL_takeC _ rfl rfl (by kernel_rfl) hc43 (X_of_Y1 rfl (Y1_callS (s_laws_qHas hy44) cf_laws_qHas rfl (by kernel_rfl) rfl rfl)) ?_
               refine XL_takeC _ rfl rfl (by kernel_rfl) hc43 (X_of_Y0 rfl (Y0_not (b := y44) rfl (by kernel_rfl))) ?_
               refine XL_cons rfl (X_of_Y0 rfl (Y0_pickFe (b := b42) (p := !y44) rfl (by kernel_rfl) hc43 (by kernel_rfl) hb45)) ?_
               refine XL_nil ?_
               kernel_rfl
           ·have hb36 := of_false hb36 hc34
            obtain ⟨y35, hy35, hb36⟩ := of_bind hb36
            have hb36 := some_inj hb36
            refine XL_takeC _ rfl rfl (by kernel_rfl) hc34 (X_of_Y0 rfl (E_move (.ow 904) rfl (by kernel_rfl))) ?_
            refine XL_takeC _ rfl rfl (by kernel_rfl) hc34 (X_of_Y0 rfl (E_loadn (cs := [Ti y18.1.1, Ti y18.1.2.1, Ti y18.1.2.2]) [Ti y18.1.1, Ti y18.1.2.1, Ti y18.1.2.2] wd43 rfl (by kernel_rfl) (Nat.le_of_ble_eq_true rfl) (by kernel_rfl))) ?_
            refine XL_takeC _ rfl rfl (by kernel_rfl) hc34 (X_of_Y1 rfl (Y1_callS (s_laws_qHas hy35) cf_laws_qHas rfl (by kernel_rfl) rfl rfl)) ?_
            refine XL_takeC _ rfl rfl (by kernel_rfl) hc34 (X_of_Y0 rfl (Y0_not (b := y35) rfl (by kernel_rfl))) ?_
            refine XL_cons rfl (X_of_Y0 rfl (Y0_pickFe (b := bif b32 then true else (!y28.2)) (p := !y35) rfl (by kernel_rfl) hc34 (by kernel_rfl) hb36)) ?_
            refine L0 rfl rfl (E_move (Bo b36) rfl (by kernel_rfl)) ?_
            refine XL_split b36 (fun hc37 => ?_) (fun hc37 => ?_)
            ·have hb39 := some_inj (of_true hb39 hc37)
             refine XL_skipF _ rfl rfl (by kernel_rfl) hc37 rfl ?_
             refine XL_skipF _ rfl rfl (by kernel_rfl) hc37 rfl ?_
             refine XL_skipF _ rfl rfl (by kernel_rfl) hc37 rfl ?_
             refine XL_skipF _ rfl rfl (by kernel_rfl) hc37 rfl ?_
             refine XL_cons rfl (X_of_Y0 rfl (Y0_pickTe (b := b36) (p := true) rfl (by kernel_rfl) hc37 (by kernel_rfl) hb39)) ?_
             refine L0 rfl rfl (E_move (Bo b39) rfl (by kernel_rfl)) ?_
             refine XL_split b39 (fun hc40 => ?_) (fun hc40 => ?_)
             ·have hb42 := some_inj (of_true hb42 hc40)
              refine XL_skipF _ rfl rfl (by kernel_rfl) hc40 rfl ?_
              refine XL_skipF _ rfl rfl (by kernel_rfl) hc40 rfl ?_
              refine XL_skipF _ rfl rfl (by kernel_rfl) hc40 rfl ?_
              refine XL_skipF _ rfl rfl (by kernel_rfl) hc40 rfl ?_
              refine XL_cons rfl (X_of_Y0 rfl (Y0_pickTe (b := b39) (p := true) rfl (by kernel_rfl) hc40 (by kernel_rfl) hb42)) ?_
              refine L0 rfl rfl (E_move (Bo b42) rfl (by kernel_rfl)) ?_
              refine XL_split b42 (fun hc43 => ?_) (fun hc43 => ?_)
              ·have hb45 := some_inj (of_true hb45 hc43)
               refine XL_skipF _ rfl rfl (by kernel_rfl) hc43 rfl ?_
               refine XL_skipF _ rfl rfl (by kernel_rfl) hc43 rfl ?_
               refine XL_skipF _ rfl rfl (by kernel_rfl) hc43 rfl ?_
               refine XL_skipF _ rfl rfl (by kernel_rfl) hc43 rfl ?_
               refine XL_cons rfl (X_of_Y0 rfl (Y0_pickTe (b := b42) (p := true) rfl (by kernel_rfl) hc43 (by kernel_rfl) hb45)) ?_
               refine XL_nil ?_
               kernel_rfl
              ·have hb45 := of_false hb45 hc43
               obtain ⟨y44, hy44, hb45⟩ := of_bind hb45
               have hb45 := some_inj hb45
               refine XL_takeC _ rfl rfl (by kernel_rfl) hc43 (X_of_Y0 rfl (E_move (.ow 560) rfl (by kernel_rfl))) ?_
               refine XL_takeC _ rfl rfl (by kernel_rfl) hc43 (X_of_Y0 rfl (E_loadn (cs := [Ti y26.1.1, Ti y26.1.2.1, Ti y26.1.2.2]) [Ti y26.1.1, Ti y26.1.2.1, Ti y26.1.2.2] wd43 rfl (by kernel_rfl) (Nat.le_of_ble_eq_true rfl) (by kernel_rfl))) ?_
               refine XL_takeC _ rfl rfl (by kernel_rfl) hc43 (X_of_Y1 rfl (Y1_callS (s_laws_qHas hy44) cf_laws_qHas rfl (by kernel_rfl) rfl rfl)) ?_
               refine XL_takeC _ rfl rfl (by kernel_rfl) hc43 (X_of_Y0 rfl (Y0_not (b := y44) rfl (by kernel_rfl))) ?_
               refine XL_cons rfl (X_of_Y0 rfl (Y0_pickFe (b := b42) (p := !y44) rfl (by kernel_rfl) hc43 (by kernel_rfl) hb45)) ?_
               refine XL_nil ?_
               kernel_rfl
             ·have hb42 := of_false hb42 hc40
              obtain ⟨y41, hy41, hb42⟩ := of_bind hb42
              have hb42 := some_inj hb42
              refine XL_takeC _ rfl rfl (by kernel_rfl) hc40 (X_of_Y0 rfl (E_move (.ow 560) rfl (by kernel_rfl))) ?_
              refine XL_takeC _ rfl rfl (by kernel_rfl) hc40 (X_of_Y0 rfl (E_loadn (cs := [Ti y18.1.1, Ti y18.1.2.1, Ti y18.1.2.2]) [Ti y18.1.1, Ti y18.1.2.1, Ti y18.1.2.2] wd43 rfl (by kernel_rfl) (Nat.le_of_ble_eq_true rfl) (by kernel_rfl))) ?_
              refine XL_takeC _ rfl rfl (by kernel_rfl) hc40 (X_of_Y1 rfl (Y1_callS (s_laws_qHas hy41) cf_laws_qHas rfl (by kernel_rfl) rfl rfl)) ?_
              refine XL_takeC _ rfl rfl (by kernel_rfl) hc40 (X_of_Y0 rfl (Y0_not (b := y41) rfl (by kernel_rfl))) ?_
              refine XL_cons rfl (X_of_Y0 rfl (Y0_pickFe (b := b39) (p := !y41) rfl (by kernel_rfl) hc40 (by kernel_rfl) hb42)) ?_
              refine L0 rfl rfl (E_move (Bo b42) rfl (by kernel_rfl)) ?_
              refine XL_split b42 (fun hc43 => ?_) (fun hc43 => ?_)
              ·have hb45 := some_inj (of_true hb45 hc43)
               refine XL_skipF _ rfl rfl (by kernel_rfl) hc43 rfl ?_
               refine XL_skipF _ rfl rfl (by kernel_rfl) hc43 rfl ?_
               refine XL_skipF _ rfl rfl (by kernel_rfl) hc43 rfl ?_
               refine XL_skipF _ rfl rfl (by kernel_rfl) hc43 rfl ?_
               refine XL_cons rfl (X_of_Y0 rfl (Y0_pickTe (b := b42) (p := true) rfl (by kernel_rfl) hc43 (by kernel_rfl) hb45)) ?_
               refine XL_nil ?_
               kernel_rfl
              ·have hb45 := of_false hb45 hc43
               obtain ⟨y44, hy44, hb45⟩ := of_bind hb45
               have hb45 := some_inj hb45
               refine XL_takeC _ rfl rfl (by kernel_rfl) hc43 (X_of_Y0 rfl (E_move (.ow 560) rfl (by kernel_rfl))) ?_
               refine XL_takeC _ rfl rfl (by kernel_rfl) hc43 (X_of_Y0 rfl (E_loadn (cs := [Ti y26.1.1, Ti y26.1.2.1, Ti y26.1.2.2]) [Ti y26.1.1, Ti y26.1.2.1, Ti y26.1.2.2] wd43 rfl (by kernel_rfl) (Nat.le_of_ble_eq_true rfl) (by kernel_rfl))) ?_
               refine XL_takeC _ rfl rfl (by kernel_rfl) hc43 (X_of_Y1 rfl (Y1_callS (s_laws_qHas hy44) cf_laws_qHas rfl (by kernel_rfl) rfl rfl)) ?_
               refine XL_takeC _ rfl rfl (by kernel_rfl) hc43 (X_of_Y0 rfl (Y0_not (b := y44) rfl (by kernel_rfl))) ?_
               refine XL_cons rfl (X_of_Y0 rfl (Y0_pickFe (b := b42) (p := !y44) rfl (by kernel_rfl) hc43 (by kernel_rfl) hb45)) ?_
               refine XL_nil ?_
               kernel_rfl
            ·have hb39 := of_false hb39 hc37
             obtain ⟨y38, hy38, hb39⟩ := of_bind hb39
             have hb39 := some_inj hb39
             refine XL_takeC _ rfl rfl (by kernel_rfl) hc37 (X_of_Y0 rfl (E_move (.ow 904) rfl (by kernel_rfl))) ?_
             refine XL_takeC _ rfl rfl (by kernel_rfl) hc37 (X_of_Y0 rfl (E_loadn (cs := [Ti y26.1.1, Ti y26.1.2.1, Ti y26.1.2.2]) [Ti y26.1.1, Ti y26.1.2.1, Ti y26.1.2.2] wd43 rfl (by kernel_rfl) (Nat.le_of_ble_eq_true rfl) (by kernel_rfl))) ?_
             refine XL_takeC _ rfl rfl (by kernel_rfl) hc37 (X_of_Y1 rfl (Y1_callS (s_laws_qHas hy38) cf_laws_qHas rfl (by kernel_rfl) rfl rfl)) ?_
             refine XL_takeC _ rfl rfl (by kernel_rfl) hc37 (X_of_Y0 rfl (Y0_not (b := y38) rfl (by kernel_rfl))) ?_
             refine XL_cons rfl (X_of_Y0 rfl (Y0_pickFe (b := b36) (p := !y38) rfl (by kernel_rfl) hc37 (by kernel_rfl) hb39)) ?_
             refine L0 rfl rfl (E_move (Bo b39) rfl (by kernel_rfl)) ?_
             refine XL_split b39 (fun hc40 => ?_) (fun hc40 => ?_)
             ·have hb42 := some_inj (of_true hb42 hc40)
              refine XL_skipF _ rfl rfl (by kernel_rfl) hc40 rfl ?_
              refine XL_skipF _ rfl rfl (by kernel_rfl) hc40 rfl ?_
              refine XL_skipF _ rfl rfl (by kernel_rfl) hc40 rfl ?_
              refine XL_skipF _ rfl rfl (by kernel_rfl) hc40 rfl ?_
              refine XL_cons rfl (X_of_Y0 rfl (Y0_pickTe (b := b39) (p := true) rfl (by kernel_rfl) hc40 (by kernel_rfl) hb42)) ?_
              refine L0 rfl rfl (E_move (Bo b42) rfl (by kernel_rfl)) ?_
              refine XL_split b42 (fun hc43 => ?_) (fun hc43 => ?_)
              ·have hb45 := some_inj (of_true hb45 hc43)
               refine XL_skipF _ rfl rfl (by kernel_rfl) hc43 rfl ?_
               refine XL_skipF _ rfl rfl (by kernel_rfl) hc43 rfl ?_
               refine XL_skipF _ rfl rfl (by kernel_rfl) hc43 rfl ?_
               refine XL_skipF _ rfl rfl (by kernel_rfl) hc43 rfl ?_
               refine XL_cons rfl (X_of_Y0 rfl (Y0_pickTe (b := b42) (p := true) rfl (by kernel_rfl) hc43 (by kernel_rfl) hb45)) ?_
               refine XL_nil ?_
               kernel_rfl
              ·have hb45 := of_false hb45 hc43
               obtain ⟨y44, hy44, hb45⟩ := of_bind hb45
               have hb45 := some_inj hb45
               refine XL_takeC _ rfl rfl (by kernel_rfl) hc43 (X_of_Y0 rfl (E_move (.ow 560) rfl (by kernel_rfl))) ?_
               refine XL_takeC _ rfl rfl (by kernel_rfl) hc43 (X_of_Y0 rfl (E_loadn (cs := [Ti y26.1.1, Ti y26.1.2.1, Ti y26.1.2.2]) [Ti y26.1.1, Ti y26.1.2.1, Ti y26.1.2.2] wd43 rfl (by kernel_rfl) (Nat.le_of_ble_eq_true rfl) (by kernel_rfl))) ?_
               refine XL_takeC _ rfl rfl (by kernel_rfl) hc43 (X_of_Y1 rfl (Y1_callS (s_laws_qHas hy44) cf_laws_qHas rfl (by kernel_rfl) rfl rfl)) ?_
               refine XL_takeC _ rfl rfl (by kernel_rfl) hc43 (X_of_Y0 rfl (Y0_not (b := y44) rfl (by kernel_rfl))) ?_
               refine XL_cons rfl (X_of_Y0 rfl (Y0_pickFe (b := b42) (p := !y44) rfl (by kernel_rfl) hc43 (by kernel_rfl) hb45)) ?_
               refine XL_nil ?_
               kernel_rfl
             ·have hb42 := of_false hb42 hc40
              obtain ⟨y41, hy41, hb42⟩ := of_bind hb42
              have hb42 := some_inj hb42
              refine XL_takeC _ rfl rfl (by kernel_rfl) hc40 (X_of_Y0 rfl (E_move (.ow 560) rfl (by kernel_rfl))) ?_
              refine XL_takeC _ rfl rfl (by kernel_rfl) hc40 (X_of_Y0 rfl (E_loadn (cs := [Ti y18.1.1, Ti y18.1.2.1, Ti y18.1.2.2]) [Ti y18.1.1, Ti y18.1.2.1, Ti y18.1.2.2] wd43 rfl (by kernel_rfl) (Nat.le_of_ble_eq_true rfl) (by kernel_rfl))) ?_
              refine XL_takeC _ rfl rfl (by kernel_rfl) hc40 (X_of_Y1 rfl (Y1_callS (s_laws_qHas hy41) cf_laws_qHas rfl (by kernel_rfl) rfl rfl)) ?_
              refine XL_takeC _ rfl rfl (by kernel_rfl) hc40 (X_of_Y0 rfl (Y0_not (b := y41) rfl (by kernel_rfl))) ?_
              refine XL_cons rfl (X_of_Y0 rfl (Y0_pickFe (b := b39) (p := !y41) rfl (by kernel_rfl) hc40 (by kernel_rfl) hb42)) ?_
              refine L0 rfl rfl (E_move (Bo b42) rfl (by kernel_rfl)) ?_
              refine XL_split b42 (fun hc43 => ?_) (fun hc43 => ?_)
              ·have hb45 := some_inj (of_true hb45 hc43)
               refine XL_skipF _ rfl rfl (by kernel_rfl) hc43 rfl ?_
               refine XL_skipF _ rfl rfl (by kernel_rfl) hc43 rfl ?_
               refine XL_skipF _ rfl rfl (by kernel_rfl) hc43 rfl ?_
               refine XL_skipF _ rfl rfl (by kernel_rfl) hc43 rfl ?_
               refine XL_cons rfl (X_of_Y0 rfl (Y0_pickTe (b := b42) (p := true) rfl (by kernel_rfl) hc43 (by kernel_rfl) hb45)) ?_
               refine XL_nil ?_
               kernel_rfl
              ·have hb45 := of_false hb45 hc43
               obtain ⟨y44, hy44, hb45⟩ := of_bind hb45
               have hb45 := some_inj hb45
               refine XL_takeC _ rfl rfl (by kernel_rfl) hc43 (X_of_Y0 rfl (E_move (.ow 560) rfl (by kernel_rfl))) ?_
               refine XL_takeC _ rfl rfl (by kernel_rfl) hc43 (X_of_Y0 rfl (E_loadn (cs := [Ti y26.1.1, Ti y26.1.2.1, Ti y26.1.2.2]) [Ti y26.1.1, Ti y26.1.2.1, Ti y26.1.2.2] wd43 rfl (by kernel_rfl) (Nat.le_of_ble_eq_true rfl) (by kernel_rfl))) ?_
               refine XL_takeC _ rfl rfl (by kernel_rfl) hc43 (X_of_Y1 rfl (Y1_callS (s_laws_qHas hy44) cf_laws_qHas rfl (by kernel_rfl) rfl rfl)) ?_
               refine XL_takeC _ rfl rfl (by kernel_rfl) hc43 (X_of_Y0 rfl (Y0_not (b := y44) rfl (by kernel_rfl))) ?_
               refine XL_cons rfl (X_of_Y0 rfl (Y0_pickFe (b := b42) (p := !y44) rfl (by kernel_rfl) hc43 (by kernel_rfl) hb45)) ?_
               refine XL_nil ?_
               kernel_rfl
         ·have hb32 := of_false hb32 hc30
          obtain ⟨y31, hy31, hb32⟩ := of_bind hb32
          have hb32 := some_inj hb32
          refine XL_takeC _ rfl rfl (by kernel_rfl) hc30 (X_of_Y0 rfl (E_move (.ow 856) rfl (by kernel_rfl))) ?_
          refine XL_takeC _ rfl rfl (by kernel_rfl) hc30 (X_of_Y0 rfl (E_move (.ow 328) rfl (by kernel_rfl))) ?_
          refine XL_takeC _ rfl rfl (by kernel_rfl) hc30 (X_of_Y1 rfl (Y1_callS (s_laws_sameInts hy31) cf_laws_sameInts rfl (by kernel_rfl) rfl rfl)) ?_
          refine XL_takeC _ rfl rfl (by kernel_rfl) hc30 (X_of_Y0 rfl (Y0_not (b := y31) rfl (by kernel_rfl))) ?_
          refine XL_cons rfl (X_of_Y0 rfl (Y0_pickFe (b := bif (!y26.2) then true else (!y27.2)) (p := !y31) rfl (by kernel_rfl) hc30 (by kernel_rfl) hb32)) ?_
          refine L0 rfl rfl (E_move (Bo b32) rfl (by kernel_rfl)) ?_
          refine XL_split b32 (fun hc33 => ?_) (fun hc33 => ?_)
          ·refine XL_skipF _ rfl rfl (by kernel_rfl) hc33 rfl ?_
           refine XL_skipF _ rfl rfl (by kernel_rfl) hc33 rfl ?_
           refine XL_cons rfl (X_of_Y0 rfl (Y0_pick1 (b := b32) (p := true) (q := !y28.2) rfl (by kernel_rfl) hc33 (by kernel_rfl))) ?_
           refine L0 rfl rfl (E_move (Bo (bif b32 then true else (!y28.2))) rfl (by kernel_rfl)) ?_
           refine XL_split (bif b32 then true else (!y28.2)) (fun hc34 => ?_) (fun hc34 => ?_)
           ·have hb36 := some_inj (of_true hb36 hc34)
            refine XL_skipF _ rfl rfl (by kernel_rfl) hc34 rfl ?_
            refine XL_skipF _ rfl rfl (by kernel_rfl) hc34 rfl ?_
            refine XL_skipF _ rfl rfl (by kernel_rfl) hc34 rfl ?_
            refine XL_skipF _ rfl rfl (by kernel_rfl) hc34 rfl ?_
            refine XL_cons rfl (X_of_Y0 rfl (Y0_pickTe (b := bif b32 then true else (!y28.2)) (p := true) rfl (by kernel_rfl) hc34 (by kernel_rfl) hb36)) ?_
            refine L0 rfl rfl (E_move (Bo b36) rfl (by kernel_rfl)) ?_
            refine XL_split b36 (fun hc37 => ?_) (fun hc37 => ?_)
            ·have hb39 := some_inj (of_true hb39 hc37)
             refine XL_skipF _ rfl rfl (by kernel_rfl) hc37 rfl ?_
             refine XL_skipF _ rfl rfl (by kernel_rfl) hc37 rfl ?_
             refine XL_skipF _ rfl rfl (by kernel_rfl) hc37 rfl ?_
             refine XL_skipF _ rfl rfl (by kernel_rfl) hc37 rfl ?_
             refine XL_cons rfl (X_of_Y0 rfl (Y0_pickTe (b := b36) (p := true) rfl (by kernel_rfl) hc37 (by kernel_rfl) hb39)) ?_
             refine L0 rfl rfl (E_move (Bo b39) rfl (by kernel_rfl)) ?_
             refine XL_split b39 (fun hc40 => ?_) (fun hc40 => ?_)
             ·have hb42 := some_inj (of_true hb42 hc40)
              refine XL_skipF _ rfl rfl (by kernel_rfl) hc40 rfl ?_
              refine XL_skipF _ rfl rfl (by kernel_rfl) hc40 rfl ?_
              refine XL_skipF _ rfl rfl (by kernel_rfl) hc40 rfl ?_
              refine XL_skipF _ rfl rfl (by kernel_rfl) hc40 rfl ?_
              refine XL_cons rfl (X_of_Y0 rfl (Y0_pickTe (b := b39) (p := true) rfl (by kernel_rfl) hc40 (by kernel_rfl) hb42)) ?_
              refine L0 rfl rfl (E_move (Bo b42) rfl (by kernel_rfl)) ?_
              refine XL_split b42 (fun hc43 => ?_) (fun hc43 => ?_)
              ·have hb45 := some_inj (of_true hb45 hc43)
               refine XL_skipF _ rfl rfl (by kernel_rfl) hc43 rfl ?_
               refine XL_skipF _ rfl rfl (by kernel_rfl) hc43 rfl ?_
               refine XL_skipF _ rfl rfl (by kernel_rfl) hc43 rfl ?_
               refine XL_skipF _ rfl rfl (by kernel_rfl) hc43 rfl ?_
               refine XL_cons rfl (X_of_Y0 rfl (Y0_pickTe (b := b42) (p := true) rfl (by kernel_rfl) hc43 (by kernel_rfl) hb45)) ?_
               refine XL_nil ?_
               kernel_rfl
              ·have hb45 := of_false hb45 hc43
               obtain ⟨y44, hy44, hb45⟩ := of_bind hb45
               have hb45 := some_inj hb45
               refine XL_takeC _ rfl rfl (by kernel_rfl) hc43 (X_of_Y0 rfl (E_move (.ow 560) rfl (by kernel_rfl))) ?_
               refine XL_takeC _ rfl rfl (by kernel_rfl) hc43 (X_of_Y0 rfl (E_loadn (cs := [Ti y26.1.1, Ti y26.1.2.1, Ti y26.1.2.2]) [Ti y26.1.1, Ti y26.1.2.1, Ti y26.1.2.2] wd43 rfl (by kernel_rfl) (Nat.le_of_ble_eq_true rfl) (by kernel_rfl))) ?_
               refine XL_takeC _ rfl rfl (by kernel_rfl) hc43 (X_of_Y1 rfl (Y1_callS (s_laws_qHas hy44) cf_laws_qHas rfl (by kernel_rfl) rfl rfl)) ?_
               refine XL_takeC _ rfl rfl (by kernel_rfl) hc43 (X_of_Y0 rfl (Y0_not (b := y44) rfl (by kernel_rfl))) ?_
               refine XL_cons rfl (X_of_Y0 rfl (Y0_pickFe (b := b42) (p := !y44) rfl (by kernel_rfl) hc43 (by kernel_rfl) hb45)) ?_
               refine XL_nil ?_
               kernel_rfl
             ·have hb42 := of_false hb42 hc40
              obtain ⟨y41, hy41, hb42⟩ := of_bind hb42
              have hb42 := some_inj hb42
              refine XL_takeC _ rfl rfl (by kernel_rfl) hc40 (X_of_Y0 rfl (E_move (.ow 560) rfl (by kernel_rfl))) ?_
              refine XL_takeC _ rfl rfl (by kernel_rfl) hc40 (X_of_Y0 rfl (E_loadn (cs := [Ti y18.1.1, Ti y18.1.2.1, Ti y18.1.2.2]) [Ti y18.1.1, Ti y18.1.2.1, Ti y18.1.2.2] wd43 rfl (by kernel_rfl) (Nat.le_of_ble_eq_true rfl) (by kernel_rfl))) ?_
              refine XL_takeC _ rfl rfl (by kernel_rfl) hc40 (X_of_Y1 rfl (Y1_callS (s_laws_qHas hy41) cf_laws_qHas rfl (by kernel_rfl) rfl rfl)) ?_
              refine XL_takeC _ rfl rfl (by kernel_rfl) hc40 (X_of_Y0 rfl (Y0_not (b := y41) rfl (by kernel_rfl))) ?_
              refine XL_cons rfl (X_of_Y0 rfl (Y0_pickFe (b := b39) (p := !y41) rfl (by kernel_rfl) hc40 (by kernel_rfl) hb42)) ?_
              refine L0 rfl rfl (E_move (Bo b42) rfl (by kernel_rfl)) ?_
              refine XL_split b42 (fun hc43 => ?_) (fun hc43 => ?_)
              ·have hb45 := some_inj (of_true hb45 hc43)
               refine XL_skipF _ rfl rfl (by kernel_rfl) hc43 rfl ?_
               refine XL_skipF _ rfl rfl (by kernel_rfl) hc43 rfl ?_
               refine XL_skipF _ rfl rfl (by kernel_rfl) hc43 rfl ?_
               refine XL_skipF _ rfl rfl (by kernel_rfl) hc43 rfl ?_
               refine XL_cons rfl (X_of_Y0 rfl (Y0_pickTe (b := b42) (p := true) rfl (by kernel_rfl) hc43 (by kernel_rfl) hb45)) ?_
               refine XL_nil ?_
               kernel_rfl
              ·have hb45 := of_false hb45 hc43
               obtain ⟨y44, hy44, hb45⟩ := of_bind hb45
               have hb45 := some_inj hb45
               refine XL_takeC _ rfl rfl (by kernel_rfl) hc43 (X_of_Y0 rfl (E_move (.ow 560) rfl (by kernel_rfl))) ?_
               refine XL_takeC _ rfl rfl (by kernel_rfl) hc43 (X_of_Y0 rfl (E_loadn (cs := [Ti y26.1.1, Ti y26.1.2.1, Ti y26.1.2.2]) [Ti y26.1.1, Ti y26.1.2.1, Ti y26.1.2.2] wd43 rfl (by kernel_rfl) (Nat.le_of_ble_eq_true rfl) (by kernel_rfl))) ?_
               refine XL_takeC _ rfl rfl (by kernel_rfl) hc43 (X_of_Y1 rfl (Y1_callS (s_laws_qHas hy44) cf_laws_qHas rfl (by kernel_rfl) rfl rfl)) ?_
               refine XL_takeC _ rfl rfl (by kernel_rfl) hc43 (X_of_Y0 rfl (Y0_not (b := y44) rfl (by kernel_rfl))) ?_
               refine XL_cons rfl (X_of_Y0 rfl (Y0_pickFe (b := b42) (p := !y44) rfl (by kernel_rfl) hc43 (by kernel_rfl) hb45)) ?_
               refine XL_nil ?_
               kernel_rfl
            ·have hb39 := of_false hb39 hc37
             obtain ⟨y38, hy38, hb39⟩ := of_bind hb39
             have hb39 := some_inj hb39
             refine XL_takeC _ rfl rfl (by kernel_rfl) hc37 (X_of_Y0 rfl (E_move (.ow 904) rfl (by kernel_rfl))) ?_
             refine XL_takeC _ rfl rfl (by kernel_rfl) hc37 (X_of_Y0 rfl (E_loadn (cs := [Ti y26.1.1, Ti y26.1.2.1, Ti y26.1.2.2]) [Ti y26.1.1, Ti y26.1.2.1, Ti y26.1.2.2] wd43 rfl (by kernel_rfl) (Nat.le_of_ble_eq_true rfl) (by kernel_rfl))) ?_
             refine XL_takeC _ rfl rfl (by kernel_rfl) hc37 (X_of_Y1 rfl (Y1_callS (s_laws_qHas hy38) cf_laws_qHas rfl (by kernel_rfl) rfl rfl)) ?_
             refine XL_takeC _ rfl rfl (by kernel_rfl) hc37 (X_of_Y0 rfl (Y0_not (b := y38) rfl (by kernel_rfl))) ?_
             refine XL_cons rfl (X_of_Y0 rfl (Y0_pickFe (b := b36) (p := !y38) rfl (by kernel_rfl) hc37 (by kernel_rfl) hb39)) ?_
             refine L0 rfl rfl (E_move (Bo b39) rfl (by kernel_rfl)) ?_
             refine XL_split b39 (fun hc40 => ?_) (fun hc40 => ?_)
             ·have hb42 := some_inj (of_true hb42 hc40)
              refine XL_skipF _ rfl rfl (by kernel_rfl) hc40 rfl ?_
              refine XL_skipF _ rfl rfl (by kernel_rfl) hc40 rfl ?_
              refine XL_skipF _ rfl rfl (by kernel_rfl) hc40 rfl ?_
              refine XL_skipF _ rfl rfl (by kernel_rfl) hc40 rfl ?_
              refine XL_cons rfl (X_of_Y0 rfl (Y0_pickTe (b := b39) (p := true) rfl (by kernel_rfl) hc40 (by kernel_rfl) hb42)) ?_
              refine L0 rfl rfl (E_move (Bo b42) rfl (by kernel_rfl)) ?_
              refine XL_split b42 (fun hc43 => ?_) (fun hc43 => ?_)
              ·have hb45 := some_inj (of_true hb45 hc43)
               refine XL_skipF _ rfl rfl (by kernel_rfl) hc43 rfl ?_
               refine XL_skipF _ rfl rfl (by kernel_rfl) hc43 rfl ?_
               refine XL_skipF _ rfl rfl (by kernel_rfl) hc43 rfl ?_
               refine XL_skipF _ rfl rfl (by kernel_rfl) hc43 rfl ?_
               refine XL_cons rfl (X_of_Y0 rfl (Y0_pickTe (b := b42) (p := true) rfl (by kernel_rfl) hc43 (by kernel_rfl) hb45)) ?_
               refine XL_nil ?_
               kernel_rfl
              ·have hb45 := of_false hb45 hc43
               obtain ⟨y44, hy44, hb45⟩ := of_bind hb45
               have hb45 := some_inj hb45
               refine XL_takeC _ rfl rfl (by kernel_rfl) hc43 (X_of_Y0 rfl (E_move (.ow 560) rfl (by kernel_rfl))) ?_
               refine XL_takeC _ rfl rfl (by kernel_rfl) hc43 (X_of_Y0 rfl (E_loadn (cs := [Ti y26.1.1, Ti y26.1.2.1, Ti y26.1.2.2]) [Ti y26.1.1, Ti y26.1.2.1, Ti y26.1.2.2] wd43 rfl (by kernel_rfl) (Nat.le_of_ble_eq_true rfl) (by kernel_rfl))) ?_
               refine XL_takeC _ rfl rfl (by kernel_rfl) hc43 (X_of_Y1 rfl (Y1_callS (s_laws_qHas hy44) cf_laws_qHas rfl (by kernel_rfl) rfl rfl)) ?_
               refine XL_takeC _ rfl rfl (by kernel_rfl) hc43 (X_of_Y0 rfl (Y0_not (b := y44) rfl (by kernel_rfl))) ?_
               refine XL_cons rfl (X_of_Y0 rfl (Y0_pickFe (b := b42) (p := !y44) rfl (by kernel_rfl) hc43 (by kernel_rfl) hb45)) ?_
               refine XL_nil ?_
               kernel_rfl
             ·have hb42 := of_false hb42 hc40
              obtain ⟨y41, hy41, hb42⟩ := of_bind hb42
              have hb42 := some_inj hb42
              refine XL_takeC _ rfl rfl (by kernel_rfl) hc40 (X_of_Y0 rfl (E_move (.ow 560) rfl (by kernel_rfl))) ?_
              refine XL_takeC _ rfl rfl (by kernel_rfl) hc40 (X_of_Y0 rfl (E_loadn (cs := [Ti y18.1.1, Ti y18.1.2.1, Ti y18.1.2.2]) [Ti y18.1.1, Ti y18.1.2.1, Ti y18.1.2.2] wd43 rfl (by kernel_rfl) (Nat.le_of_ble_eq_true rfl) (by kernel_rfl))) ?_
              refine XL_takeC _ rfl rfl (by kernel_rfl) hc40 (X_of_Y1 rfl (Y1_callS (s_laws_qHas hy41) cf_laws_qHas rfl (by kernel_rfl) rfl rfl)) ?_
              refine XL_takeC _ rfl rfl (by kernel_rfl) hc40 (X_of_Y0 rfl (Y0_not (b := y41) rfl (by kernel_rfl))) ?_
              refine XL_cons rfl (X_of_Y0 rfl (Y0_pickFe (b := b39) (p := !y41) rfl (by kernel_rfl) hc40 (by kernel_rfl) hb42)) ?_
              refine L0 rfl rfl (E_move (Bo b42) rfl (by kernel_rfl)) ?_
              refine XL_split b42 (fun hc43 => ?_) (fun hc43 => ?_)
              ·have hb45 := some_inj (of_true hb45 hc43)
               refine XL_skipF _ rfl rfl (by kernel_rfl) hc43 rfl ?_
               refine XL_skipF _ rfl rfl (by kernel_rfl) hc43 rfl ?_
               refine XL_skipF _ rfl rfl (by kernel_rfl) hc43 rfl ?_
               refine XL_skipF _ rfl rfl (by kernel_rfl) hc43 rfl ?_
               refine XL_cons rfl (X_of_Y0 rfl (Y0_pickTe (b := b42) (p := true) rfl (by kernel_rfl) hc43 (by kernel_rfl) hb45)) ?_
               refine XL_nil ?_
               kernel_rfl
              ·have hb45 := of_false hb45 hc43
               obtain ⟨y44, hy44, hb45⟩ := of_bind hb45
               have hb45 := some_inj hb45
               refine XL_takeC _ rfl rfl (by kernel_rfl) hc43 (X_of_Y0 rfl (E_move (.ow 560) rfl (by kernel_rfl))) ?_
               refine XL_takeC _ rfl rfl (by kernel_rfl) hc43 (X_of_Y0 rfl (E_loadn (cs := [Ti y26.1.1, Ti y26.1.2.1, Ti y26.1.2.2]) [Ti y26.1.1, Ti y26.1.2.1, Ti y26.1.2.2] wd43 rfl (by kernel_rfl) (Nat.le_of_ble_eq_true rfl) (by kernel_rfl))) ?_
               refine XL_takeC _ rfl rfl (by kernel_rfl) hc43 (X_of_Y1 rfl (Y1_callS (s_laws_qHas hy44) cf_laws_qHas rfl (by kernel_rfl) rfl rfl)) ?_
               refine XL_takeC _ rfl rfl (by kernel_rfl) hc43 (X_of_Y0 rfl (Y0_not (b := y44) rfl (by kernel_rfl))) ?_
               refine XL_cons rfl (X_of_Y0 rfl (Y0_pickFe (b := b42) (p := !y44) rfl (by kernel_rfl) hc43 (by kernel_rfl) hb45)) ?_
               refine XL_nil ?_
               kernel_rfl
           ·have hb36 := of_false hb36 hc34
            obtain ⟨y35, hy35, hb36⟩ := of_bind hb36
            have hb36 := some_inj hb36
            refine XL_takeC _ rfl rfl (by kernel_rfl) hc34 (X_of_Y0 rfl (E_move (.ow 904) rfl (by kernel_rfl))) ?_
            refine XL_takeC _ rfl rfl (by kernel_rfl) hc34 (X_of_Y0 rfl (E_loadn (cs := [Ti y18.1.1, Ti y18.1.2.1, Ti y18.1.2.2]) [Ti y18.1.1, Ti y18.1.2.1, Ti y18.1.2.2] wd43 rfl (by kernel_rfl) (Nat.le_of_ble_eq_true rfl) (by kernel_rfl))) ?_
            refine XL_takeC _ rfl rfl (by kernel_rfl) hc34 (X_of_Y1 rfl (Y1_callS (s_laws_qHas hy35) cf_laws_qHas rfl (by kernel_rfl) rfl rfl)) ?_
            refine XL_takeC _ rfl rfl (by kernel_rfl) hc34 (X_of_Y0 rfl (Y0_not (b := y35) rfl (by kernel_rfl))) ?_
            refine XL_cons rfl (X_of_Y0 rfl (Y0_pickFe (b := bif b32 then true else (!y28.2)) (p := !y35) rfl (by kernel_rfl) hc34 (by kernel_rfl) hb36)) ?_
            refine L0 rfl rfl (E_move (Bo b36) rfl (by kernel_rfl)) ?_
            refine XL_split b36 (fun hc37 => ?_) (fun hc37 => ?_)
            ·have hb39 := some_inj (of_true hb39 hc37)
             refine XL_skipF _ rfl rfl (by kernel_rfl) hc37 rfl ?_
             refine XL_skipF _ rfl rfl (by kernel_rfl) hc37 rfl ?_
             refine XL_skipF _ rfl rfl (by kernel_rfl) hc37 rfl ?_
             refine XL_skipF _ rfl rfl (by kernel_rfl) hc37 rfl ?_
             refine XL_cons rfl (X_of_Y0 rfl (Y0_pickTe (b := b36) (p := true) rfl (by kernel_rfl) hc37 (by kernel_rfl) hb39)) ?_
             refine L0 rfl rfl (E_move (Bo b39) rfl (by kernel_rfl)) ?_
             refine XL_split b39 (fun hc40 => ?_) (fun hc40 => ?_)
             ·have hb42 := some_inj (of_true hb42 hc40)
              refine XL_skipF _ rfl rfl (by kernel_rfl) hc40 rfl ?_
              refine XL_skipF _ rfl rfl (by kernel_rfl) hc40 rfl ?_
              refine XL_skipF _ rfl rfl (by kernel_rfl) hc40 rfl ?_
              refine XL_skipF _ rfl rfl (by kernel_rfl) hc40 rfl ?_
              refine XL_cons rfl (X_of_Y0 rfl (Y0_pickTe (b := b39) (p := true) rfl (by kernel_rfl) hc40 (by kernel_rfl) hb42)) ?_
              refine L0 rfl rfl (E_move (Bo b42) rfl (by kernel_rfl)) ?_
              refine XL_split b42 (fun hc43 => ?_) (fun hc43 => ?_)
              ·have hb45 := some_inj (of_true hb45 hc43)
               refine XL_skipF _ rfl rfl (by kernel_rfl) hc43 rfl ?_
               refine XL_skipF _ rfl rfl (by kernel_rfl) hc43 rfl ?_
               refine XL_skipF _ rfl rfl (by kernel_rfl) hc43 rfl ?_
               refine XL_skipF _ rfl rfl (by kernel_rfl) hc43 rfl ?_
               refine XL_cons rfl (X_of_Y0 rfl (Y0_pickTe (b := b42) (p := true) rfl (by kernel_rfl) hc43 (by kernel_rfl) hb45)) ?_
               refine XL_nil ?_
               kernel_rfl
              ·have hb45 := of_false hb45 hc43
               obtain ⟨y44, hy44, hb45⟩ := of_bind hb45
               have hb45 := some_inj hb45
               refine XL_takeC _ rfl rfl (by kernel_rfl) hc43 (X_of_Y0 rfl (E_move (.ow 560) rfl (by kernel_rfl))) ?_
               refine XL_takeC _ rfl rfl (by kernel_rfl) hc43 (X_of_Y0 rfl (E_loadn (cs := [Ti y26.1.1, Ti y26.1.2.1, Ti y26.1.2.2]) [Ti y26.1.1, Ti y26.1.2.1, Ti y26.1.2.2] wd43 rfl (by kernel_rfl) (Nat.le_of_ble_eq_true rfl) (by kernel_rfl))) ?_
               refine XL_takeC _ rfl rfl (by kernel_rfl) hc43 (X_of_Y1 rfl (Y1_callS (s_laws_qHas hy44) cf_laws_qHas rfl (by kernel_rfl) rfl rfl)) ?_
               refine XL_takeC _ rfl rfl (by kernel_rfl) hc43 (X_of_Y0 rfl (Y0_not (b := y44) rfl (by kernel_rfl))) ?_
               refine XL_cons rfl (X_of_Y0 rfl (Y0_pickFe (b := b42) (p := !y44) rfl (by kernel_rfl) hc43 (by kernel_rfl) hb45)) ?_
               refine XL_nil ?_
               kernel_rfl
             ·have hb42 := of_false hb42 hc40
              obtain ⟨y41, hy41, hb42⟩ := of_bind hb42
              have hb42 := some_inj hb42
              refine XL_takeC _ rfl rfl (by kernel_rfl) hc40 (X_of_Y0 rfl (E_move (.ow 560) rfl (by kernel_rfl))) ?_
              refine XL_takeC _ rfl rfl (by kernel_rfl) hc40 (X_of_Y0 rfl (E_loadn (cs := [Ti y18.1.1, Ti y18.1.2.1, Ti y18.1.2.2]) [Ti y18.1.1, Ti y18.1.2.1, Ti y18.1.2.2] wd43 rfl (by kernel_rfl) (Nat.le_of_ble_eq_true rfl) (by kernel_rfl))) ?_
              refine XL_takeC _ rfl rfl (by kernel_rfl) hc40 (X_of_Y1 rfl (Y1_callS (s_laws_qHas hy41) cf_laws_qHas rfl (by kernel_rfl) rfl rfl)) ?_
              refine XL_takeC _ rfl rfl (by kernel_rfl) hc40 (X_of_Y0 rfl (Y0_not (b := y41) rfl (by kernel_rfl))) ?_
              refine XL_cons rfl (X_of_Y0 rfl (Y0_pickFe (b := b39) (p := !y41) rfl (by kernel_rfl) hc40 (by kernel_rfl) hb42)) ?_
              refine L0 rfl rfl (E_move (Bo b42) rfl (by kernel_rfl)) ?_
              refine XL_split b42 (fun hc43 => ?_) (fun hc43 => ?_)
              ·have hb45 := some_inj (of_true hb45 hc43)
               refine XL_skipF _ rfl rfl (by kernel_rfl) hc43 rfl ?_
               refine XL_skipF _ rfl rfl (by kernel_rfl) hc43 rfl ?_
               refine XL_skipF _ rfl rfl (by kernel_rfl) hc43 rfl ?_
               refine XL_skipF _ rfl rfl (by kernel_rfl) hc43 rfl ?_
               refine XL_cons rfl (X_of_Y0 rfl (Y0_pickTe (b := b42) (p := true) rfl (by kernel_rfl) hc43 (by kernel_rfl) hb45)) ?_
               refine XL_nil ?_
               kernel_rfl
              ·have hb45 := of_false hb45 hc43
               obtain ⟨y44, hy44, hb45⟩ := of_bind hb45
               have hb45 := some_inj hb45
               refine XL_takeC _ rfl rfl (by kernel_rfl) hc43 (X_of_Y0 rfl (E_move (.ow 560) rfl (by kernel_rfl))) ?_
               refine XL_takeC _ rfl rfl (by kernel_rfl) hc43 (X_of_Y0 rfl (E_loadn (cs := [Ti y26.1.1, Ti y26.1.2.1, Ti y26.1.2.2]) [Ti y26.1.1, Ti y26.1.2.1, Ti y26.1.2.2] wd43 rfl (by kernel_rfl) (Nat.le_of_ble_eq_true rfl) (by kernel_rfl))) ?_
               refine XL_takeC _ rfl rfl (by kernel_rfl) hc43 (X_of_Y1 rfl (Y1_callS (s_laws_qHas hy44) cf_laws_qHas rfl (by kernel_rfl) rfl rfl)) ?_
               refine XL_takeC _ rfl rfl (by kernel_rfl) hc43 (X_of_Y0 rfl (Y0_not (b := y44) rfl (by kernel_rfl))) ?_
               refine XL_cons rfl (X_of_Y0 rfl (Y0_pickFe (b := b42) (p := !y44) rfl (by kernel_rfl) hc43 (by kernel_rfl) hb45)) ?_
               refine XL_nil ?_
               kernel_rfl
            ·have hb39 := of_false hb39 hc37
             obtain ⟨y38, hy38, hb39⟩ := of_bind hb39
             have hb39 := some_inj hb39
             refine XL_takeC _ rfl rfl (by kernel_rfl) hc37 (X_of_Y0 rfl (E_move (.ow 904) rfl (by kernel_rfl))) ?_
             refine XL_takeC _ rfl rfl (by kernel_rfl) hc37 (X_of_Y0 rfl (E_loadn (cs := [Ti y26.1.1, Ti y26.1.2.1, Ti y26.1.2.2]) [Ti y26.1.1, Ti y26.1.2.1, Ti y26.1.2.2] wd43 rfl (by kernel_rfl) (Nat.le_of_ble_eq_true rfl) (by kernel_rfl))) ?_
             refine XL_takeC _ rfl rfl (by kernel_rfl) hc37 (X_of_Y1 rfl (Y1_callS (s_laws_qHas hy38) cf_laws_qHas rfl (by kernel_rfl) rfl rfl)) ?_
             refine XL_takeC _ rfl rfl (by kernel_rfl) hc37 (X_of_Y0 rfl (Y0_not (b := y38) rfl (by kernel_rfl))) ?_
             refine XL_cons rfl (X_of_Y0 rfl (Y0_pickFe (b := b36) (p := !y38) rfl (by kernel_rfl) hc37 (by kernel_rfl) hb39)) ?_
             refine L0 rfl rfl (E_move (Bo b39) rfl (by kernel_rfl)) ?_
             refine XL_split b39 (fun hc40 => ?_) (fun hc40 => ?_)
             ·have hb42 := some_inj (of_true hb42 hc40)
              refine XL_skipF _ rfl rfl (by kernel_rfl) hc40 rfl ?_
              refine XL_skipF _ rfl rfl (by kernel_rfl) hc40 rfl ?_
              refine XL_skipF _ rfl rfl (by kernel_rfl) hc40 rfl ?_
              refine XL_skipF _ rfl rfl (by kernel_rfl) hc40 rfl ?_
              refine XL_cons rfl (X_of_Y0 rfl (Y0_pickTe (b := b39) (p := true) rfl (by kernel_rfl) hc40 (by kernel_rfl) hb42)) ?_
              refine L0 rfl rfl (E_move (Bo b42) rfl (by kernel_rfl)) ?_
              refine XL_split b42 (fun hc43 => ?_) (fun hc43 => ?_)
              ·have hb45 := some_inj (of_true hb45 hc43)
               refine XL_skipF _ rfl rfl (by kernel_rfl) hc43 rfl ?_
               refine XL_skipF _ rfl rfl (by kernel_rfl) hc43 rfl ?_
               refine XL_skipF _ rfl rfl (by kernel_rfl) hc43 rfl ?_
               refine XL_skipF _ rfl rfl (by kernel_rfl) hc43 rfl ?_
               refine XL_cons rfl (X_of_Y0 rfl (Y0_pickTe (b := b42) (p := true) rfl (by kernel_rfl) hc43 (by kernel_rfl) hb45)) ?_
               refine XL_nil ?_
               kernel_rfl
              ·have hb45 := of_false hb45 hc43
               obtain ⟨y44, hy44, hb45⟩ := of_bind hb45
               have hb45 := some_inj hb45
               refine XL_takeC _ rfl rfl (by kernel_rfl) hc43 (X_of_Y0 rfl (E_move (.ow 560) rfl (by kernel_rfl))) ?_
               refine XL_takeC _ rfl rfl (by kernel_rfl) hc43 (X_of_Y0 rfl (E_loadn (cs := [Ti y26.1.1, Ti y26.1.2.1, Ti y26.1.2.2]) [Ti y26.1.1, Ti y26.1.2.1, Ti y26.1.2.2] wd43 rfl (by kernel_rfl) (Nat.le_of_ble_eq_true rfl) (by kernel_rfl))) ?_
               refine XL_takeC _ rfl rfl (by kernel_rfl) hc43 (X_of_Y1 rfl (Y1_callS (s_laws_qHas hy44) cf_laws_qHas rfl (by kernel_rfl) rfl rfl)) ?_
               refine XL_takeC _ rfl rfl (by kernel_rfl) hc43 (X_of_Y0 rfl (Y0_not (b := y44) rfl (by kernel_rfl))) ?_
               refine XL_cons rfl (X_of_Y0 rfl (Y0_pickFe (b := b42) (p := !y44) rfl (by kernel_rfl) hc43 (by kernel_rfl) hb45)) ?_
               refine XL_nil ?_
               kernel_rfl
             ·have hb42 := of_false hb42 hc40
              obtain ⟨y41, hy41, hb42⟩ := of_bind hb42
              have hb42 := some_inj hb42
              refine XL_takeC _ rfl rfl (by kernel_rfl) hc40 (X_of_Y0 rfl (E_move (.ow 560) rfl (by kernel_rfl))) ?_
              refine XL_takeC _ rfl rfl (by kernel_rfl) hc40 (X_of_Y0 rfl (E_loadn (cs := [Ti y18.1.1, Ti y18.1.2.1, Ti y18.1.2.2]) [Ti y18.1.1, Ti y18.1.2.1, Ti y18.1.2.2] wd43 rfl (by kernel_rfl) (Nat.le_of_ble_eq_true rfl) (by kernel_rfl))) ?_
              refine XL_takeC _ rfl rfl (by kernel_rfl) hc40 (X_of_Y1 rfl (Y1_callS (s_laws_qHas hy41) cf_laws_qHas rfl (by kernel_rfl) rfl rfl)) ?_
              refine XL_takeC _ rfl rfl (by kernel_rfl) hc40 (X_of_Y0 rfl (Y0_not (b := y41) rfl (by kernel_rfl))) ?_
              refine XL_cons rfl (X_of_Y0 rfl (Y0_pickFe (b := b39) (p := !y41) rfl (by kernel_rfl) hc40 (by kernel_rfl) hb42)) ?_
              refine L0 rfl rfl (E_move (Bo b42) rfl (by kernel_rfl)) ?_
              refine XL_split b42 (fun hc43 => ?_) (fun hc43 => ?_)
              ·have hb45 := some_inj (of_true hb45 hc43)
               refine XL_skipF _ rfl rfl (by kernel_rfl) hc43 rfl ?_
               refine XL_skipF _ rfl rfl (by kernel_rfl) hc43 rfl ?_
               refine XL_skipF _ rfl rfl (by kernel_rfl) hc43 rfl ?_
               refine XL_skipF _ rfl rfl (by kernel_rfl) hc43 rfl ?_
               refine XL_cons rfl (X_of_Y0 rfl (Y0_pickTe (b := b42) (p := true) rfl (by kernel_rfl) hc43 (by kernel_rfl) hb45)) ?_
               refine XL_nil ?_
               kernel_rfl
              ·have hb45 := of_false hb45 hc43
               obtain ⟨y44, hy44, hb45⟩ := of_bind hb45
               have hb45 := some_inj hb45
               refine XL_takeC _ rfl rfl (by kernel_rfl) hc43 (X_of_Y0 rfl (E_move (.ow 560) rfl (by kernel_rfl))) ?_
               refine XL_takeC _ rfl rfl (by kernel_rfl) hc43 (X_of_Y0 rfl (E_loadn (cs := [Ti y26.1.1, Ti y26.1.2.1, Ti y26.1.2.2]) [Ti y26.1.1, Ti y26.1.2.1, Ti y26.1.2.2] wd43 rfl (by kernel_rfl) (Nat.le_of_ble_eq_true rfl) (by kernel_rfl))) ?_
               refine XL_takeC _ rfl rfl (by kernel_rfl) hc43 (X_of_Y1 rfl (Y1_callS (s_laws_qHas hy44) cf_laws_qHas rfl (by kernel_rfl) rfl rfl)) ?_
               refine XL_takeC _ rfl rfl (by kernel_rfl) hc43 (X_of_Y0 rfl (Y0_not (b := y44) rfl (by kernel_rfl))) ?_
               refine XL_cons rfl (X_of_Y0 rfl (Y0_pickFe (b := b42) (p := !y44) rfl (by kernel_rfl) hc43 (by kernel_rfl) hb45)) ?_
               refine XL_nil ?_
               kernel_rfl
          ·refine XL_takeC _ rfl rfl (by kernel_rfl) hc33 (X_of_Y0 rfl (E_move (Bo y28.2) rfl (by kernel_rfl))) ?_
           refine XL_takeC _ rfl rfl (by kernel_rfl) hc33 (X_of_Y0 rfl (Y0_not (b := y28.2) rfl (by kernel_rfl))) ?_
           refine XL_cons rfl (X_of_Y0 rfl (Y0_pick0 (b := b32) (p := true) (q := !y28.2) rfl (by kernel_rfl) hc33 (by kernel_rfl))) ?_
           refine L0 rfl rfl (E_move (Bo (bif b32 then true else (!y28.2))) rfl (by kernel_rfl)) ?_
           refine XL_split (bif b32 then true else (!y28.2)) (fun hc34 => ?_) (fun hc34 => ?_)
           ·have hb36 := some_inj (of_true hb36 hc34)
            refine XL_skipF _ rfl rfl (by kernel_rfl) hc34 rfl ?_
            refine XL_skipF _ rfl rfl (by kernel_rfl) hc34 rfl ?_
            refine XL_skipF _ rfl rfl (by kernel_rfl) hc34 rfl ?_
            refine XL_skipF _ rfl rfl (by kernel_rfl) hc34 rfl ?_
            refine XL_cons rfl (X_of_Y0 rfl (Y0_pickTe (b := bif b32 then true else (!y28.2)) (p := true) rfl (by kernel_rfl) hc34 (by kernel_rfl) hb36)) ?_
            refine L0 rfl rfl (E_move (Bo b36) rfl (by kernel_rfl)) ?_
            refine XL_split b36 (fun hc37 => ?_) (fun hc37 => ?_)
            ·have hb39 := some_inj (of_true hb39 hc37)
             refine XL_skipF _ rfl rfl (by kernel_rfl) hc37 rfl ?_
             refine XL_skipF _ rfl rfl (by kernel_rfl) hc37 rfl ?_
             refine XL_skipF _ rfl rfl (by kernel_rfl) hc37 rfl ?_
             refine XL_skipF _ rfl rfl (by kernel_rfl) hc37 rfl ?_
             refine XL_cons rfl (X_of_Y0 rfl (Y0_pickTe (b := b36) (p := true) rfl (by kernel_rfl) hc37 (by kernel_rfl) hb39)) ?_
             refine L0 rfl rfl (E_move (Bo b39) rfl (by kernel_rfl)) ?_
             refine XL_split b39 (fun hc40 => ?_) (fun hc40 => ?_)
             ·have hb42 := some_inj (of_true hb42 hc40)
              refine XL_skipF _ rfl rfl (by kernel_rfl) hc40 rfl ?_
              refine XL_skipF _ rfl rfl (by kernel_rfl) hc40 rfl ?_
              refine XL_skipF _ rfl rfl (by kernel_rfl) hc40 rfl ?_
              refine XL_skipF _ rfl rfl (by kernel_rfl) hc40 rfl ?_
              refine XL_cons rfl (X_of_Y0 rfl (Y0_pickTe (b := b39) (p := true) rfl (by kernel_rfl) hc40 (by kernel_rfl) hb42)) ?_
              refine L0 rfl rfl (E_move (Bo b42) rfl (by kernel_rfl)) ?_
              refine XL_split b42 (fun hc43 => ?_) (fun hc43 => ?_)
              ·have hb45 := some_inj (of_true hb45 hc43)
               refine XL_skipF _ rfl rfl (by kernel_rfl) hc43 rfl ?_
               refine XL_skipF _ rfl rfl (by kernel_rfl) hc43 rfl ?_
               refine XL_skipF _ rfl rfl (by kernel_rfl) hc43 rfl ?_
               refine XL_skipF _ rfl rfl (by kernel_rfl) hc43 rfl ?_
               refine XL_cons rfl (X_of_Y0 rfl (Y0_pickTe (b := b42) (p := true) rfl (by kernel_rfl) hc43 (by kernel_rfl) hb45)) ?_
               refine XL_nil ?_
               kernel_rfl
              ·have hb45 := of_false hb45 hc43
               obtain ⟨y44, hy44, hb45⟩ := of_bind hb45
               have hb45 := some_inj hb45
               refine XL_takeC _ rfl rfl (by kernel_rfl) hc43 (X_of_Y0 rfl (E_move (.ow 560) rfl (by kernel_rfl))) ?_
               refine XL_takeC _ rfl rfl (by kernel_rfl) hc43 (X_of_Y0 rfl (E_loadn (cs := [Ti y26.1.1, Ti y26.1.2.1, Ti y26.1.2.2]) [Ti y26.1.1, Ti y26.1.2.1, Ti y26.1.2.2] wd43 rfl (by kernel_rfl) (Nat.le_of_ble_eq_true rfl) (by kernel_rfl))) ?_
               refine XL_takeC _ rfl rfl (by kernel_rfl) hc43 (X_of_Y1 rfl (Y1_callS (s_laws_qHas hy44) cf_laws_qHas rfl (by kernel_rfl) rfl rfl)) ?_
               refine XL_takeC _ rfl rfl (by kernel_rfl) hc43 (X_of_Y0 rfl (Y0_not (b := y44) rfl (by kernel_rfl))) ?_
               refine XL_cons rfl (X_of_Y0 rfl (Y0_pickFe (b := b42) (p := !y44) rfl (by kernel_rfl) hc43 (by kernel_rfl) hb45)) ?_
               refine XL_nil ?_
               kernel_rfl
             ·have hb42 := of_false hb42 hc40
              obtain ⟨y41, hy41, hb42⟩ := of_bind hb42
              have hb42 := some_inj hb42
              refine XL_takeC _ rfl rfl (by kernel_rfl) hc40 (X_of_Y0 rfl (E_move (.ow 560) rfl (by kernel_rfl))) ?_
              refine XL_takeC _ rfl rfl (by kernel_rfl) hc40 (X_of_Y0 rfl (E_loadn (cs := [Ti y18.1.1, Ti y18.1.2.1, Ti y18.1.2.2]) [Ti y18.1.1, Ti y18.1.2.1, Ti y18.1.2.2] wd43 rfl (by kernel_rfl) (Nat.le_of_ble_eq_true rfl) (by kernel_rfl))) ?_
              refine XL_takeC _ rfl rfl (by kernel_rfl) hc40 (X_of_Y1 rfl (Y1_callS (s_laws_qHas hy41) cf_laws_qHas rfl (by kernel_rfl) rfl rfl)) ?_
              refine XL_takeC _ rfl rfl (by kernel_rfl) hc40 (X_of_Y0 rfl (Y0_not (b := y41) rfl (by kernel_rfl))) ?_
              refine XL_cons rfl (X_of_Y0 rfl (Y0_pickFe (b := b39) (p := !y41) rfl (by kernel_rfl) hc40 (by kernel_rfl) hb42)) ?_
              refine L0 rfl rfl (E_move (Bo b42) rfl (by kernel_rfl)) ?_
              refine XL_split b42 (fun hc43 => ?_) (fun hc43 => ?_)
              ·have hb45 := some_inj (of_true hb45 hc43)
               refine XL_skipF _ rfl rfl (by kernel_rfl) hc43 rfl ?_
               refine XL_skipF _ rfl rfl (by kernel_rfl) hc43 rfl ?_
               refine XL_skipF _ rfl rfl (by kernel_rfl) hc43 rfl ?_
               refine XL_skipF _ rfl rfl (by kernel_rfl) hc43 rfl ?_
               refine XL_cons rfl (X_of_Y0 rfl (Y0_pickTe (b := b42) (p := true) rfl (by kernel_rfl) hc43 (by kernel_rfl) hb45)) ?_
               refine XL_nil ?_
               kernel_rfl
              ·have hb45 := of_false hb45 hc43
               obtain ⟨y44, hy44, hb45⟩ := of_bind hb45
               have hb45 := some_inj hb45
               refine XL_takeC _ rfl rfl (by kernel_rfl) hc43 (X_of_Y0 rfl (E_move (.ow 560) rfl (by kernel_rfl))) ?_
               refine XL_takeC _ rfl rfl (by kernel_rfl) hc43 (X_of_Y0 rfl (E_loadn (cs := [Ti y26.1.1, Ti y26.1.2.1, Ti y26.1.2.2]) [Ti y26.1.1, Ti y26.1.2.1, Ti y26.1.2.2] wd43 rfl (by kernel_rfl) (Nat.le_of_ble_eq_true rfl) (by kernel_rfl))) ?_
               refine XL_takeC _ rfl rfl (by kernel_rfl) hc43 (X_of_Y1 rfl (Y1_callS (s_laws_qHas hy44) cf_laws_qHas rfl (by kernel_rfl) rfl rfl)) ?_
               refine XL_takeC _ rfl rfl (by kernel_rfl) hc43 (X_of_Y0 rfl (Y0_not (b := y44) rfl (by kernel_rfl))) ?_
               refine XL_cons rfl (X_of_Y0 rfl (Y0_pickFe (b := b42) (p := !y44) rfl (by kernel_rfl) hc43 (by kernel_rfl) hb45)) ?_
               refine XL_nil ?_
               kernel_rfl
            ·have hb39 := of_false hb39 hc37
             obtain ⟨y38, hy38, hb39⟩ := of_bind hb39
             have hb39 := some_inj hb39
             refine XL_takeC _ rfl rfl (by kernel_rfl) hc37 (X_of_Y0 rfl (E_move (.ow 904) rfl (by kernel_rfl))) ?_
             refine XL_takeC _ rfl rfl (by kernel_rfl) hc37 (X_of_Y0 rfl (E_loadn (cs := [Ti y26.1.1, Ti y26.1.2.1, Ti y26.1.2.2]) [Ti y26.1.1, Ti y26.1.2.1, Ti y26.1.2.2] wd43 rfl (by kernel_rfl) (Nat.le_of_ble_eq_true rfl) (by kernel_rfl))) ?_
             refine XL_takeC _ rfl rfl (by kernel_rfl) hc37 (X_of_Y1 rfl (Y1_callS (s_laws_qHas hy38) cf_laws_qHas rfl (by kernel_rfl) rfl rfl)) ?_
             refine XL_takeC _ rfl rfl (by kernel_rfl) hc37 (X_of_Y0 rfl (Y0_not (b := y38) rfl (by kernel_rfl))) ?_
             refine XL_cons rfl (X_of_Y0 rfl (Y0_pickFe (b := b36) (p := !y38) rfl (by kernel_rfl) hc37 (by kernel_rfl) hb39)) ?_
             refine L0 rfl rfl (E_move (Bo b39) rfl (by kernel_rfl)) ?_
             refine XL_split b39 (fun hc40 => ?_) (fun hc40 => ?_)
             ·have hb42 := some_inj (of_true hb42 hc40)
              refine XL_skipF _ rfl rfl (by kernel_rfl) hc40 rfl ?_
              refine XL_skipF _ rfl rfl (by kernel_rfl) hc40 rfl ?_
              refine XL_skipF _ rfl rfl (by kernel_rfl) hc40 rfl ?_
              refine XL_skipF _ rfl rfl (by kernel_rfl) hc40 rfl ?_
              refine XL_cons rfl (X_of_Y0 rfl (Y0_pickTe (b := b39) (p := true) rfl (by kernel_rfl) hc40 (by kernel_rfl) hb42)) ?_
              refine L0 rfl rfl (E_move (Bo b42) rfl (by kernel_rfl)) ?_
              refine XL_split b42 (fun hc43 => ?_) (fun hc43 => ?_)
              ·have hb45 := some_inj (of_true hb45 hc43)
               refine XL_skipF _ rfl rfl (by kernel_rfl) hc43 rfl ?_
               refine XL_skipF _ rfl rfl (by kernel_rfl) hc43 rfl ?_
               refine XL_skipF _ rfl rfl (by kernel_rfl) hc43 rfl ?_
               refine XL_skipF _ rfl rfl (by kernel_rfl) hc43 rfl ?_
               refine XL_cons rfl (X_of_Y0 rfl (Y0_pickTe (b := b42) (p := true) rfl (by kernel_rfl) hc43 (by kernel_rfl) hb45)) ?_
               refine XL_nil ?_
               kernel_rfl
              ·have hb45 := of_false hb45 hc43
               obtain ⟨y44, hy44, hb45⟩ := of_bind hb45
               have hb45 := some_inj hb45
               refine XL_takeC _ rfl rfl (by kernel_rfl) hc43 (X_of_Y0 rfl (E_move (.ow 560) rfl (by kernel_rfl))) ?_
               refine XL_takeC _ rfl rfl (by kernel_rfl) hc43 (X_of_Y0 rfl (E_loadn (cs := [Ti y26.1.1, Ti y26.1.2.1, Ti y26.1.2.2]) [Ti y26.1.1, Ti y26.1.2.1, Ti y26.1.2.2] wd43 rfl (by kernel_rfl) (Nat.le_of_ble_eq_true rfl) (by kernel_rfl))) ?_
               refine XL_takeC _ rfl rfl (by kernel_rfl) hc43 (X_of_Y1 rfl (Y1_callS (s_laws_qHas hy44) cf_laws_qHas rfl (by kernel_rfl) rfl rfl)) ?_
               refine XL_takeC _ rfl rfl (by kernel_rfl) hc43 (X_of_Y0 rfl (Y0_not (b := y44) rfl (by kernel_rfl))) ?_
               refine XL_cons rfl (X_of_Y0 rfl (Y0_pickFe (b := b42) (p := !y44) rfl (by kernel_rfl) hc43 (by kernel_rfl) hb45)) ?_
               refine XL_nil ?_
               kernel_rfl
             ·have hb42 := of_false hb42 hc40
              obtain ⟨y41, hy41, hb42⟩ := of_bind hb42
              have hb42 := some_inj hb42
              refine XL_takeC _ rfl rfl (by kernel_rfl) hc40 (X_of_Y0 rfl (E_move (.ow 560) rfl (by kernel_rfl))) ?_
              refine XL_takeC _ rfl rfl (by kernel_rfl) hc40 (X_of_Y0 rfl (E_loadn (cs := [Ti y18.1.1, Ti y18.1.2.1, Ti y18.1.2.2]) [Ti y18.1.1, Ti y18.1.2.1, Ti y18.1.2.2] wd43 rfl (by kernel_rfl) (Nat.le_of_ble_eq_true rfl) (by kernel_rfl))) ?_
              refine XL_takeC _ rfl rfl (by kernel_rfl) hc40 (X_of_Y1 rfl (Y1_callS (s_laws_qHas hy41) cf_laws_qHas rfl (by kernel_rfl) rfl rfl)) ?_
              refine XL_takeC _ rfl rfl (by kernel_rfl) hc40 (X_of_Y0 rfl (Y0_not (b := y41) rfl (by kernel_rfl))) ?_
              refine XL_cons rfl (X_of_Y0 rfl (Y0_pickFe (b := b39) (p := !y41) rfl (by kernel_rfl) hc40 (by kernel_rfl) hb42)) ?_
              refine L0 rfl rfl (E_move (Bo b42) rfl (by kernel_rfl)) ?_
              refine XL_split b42 (fun hc43 => ?_) (fun hc43 => ?_)
              ·have hb45 := some_inj (of_true hb45 hc43)
               refine XL_skipF _ rfl rfl (by kernel_rfl) hc43 rfl ?_
               refine XL_skipF _ rfl rfl (by kernel_rfl) hc43 rfl ?_
               refine XL_skipF _ rfl rfl (by kernel_rfl) hc43 rfl ?_
               refine XL_skipF _ rfl rfl (by kernel_rfl) hc43 rfl ?_
               refine XL_cons rfl (X_of_Y0 rfl (Y0_pickTe (b := b42) (p := true) rfl (by kernel_rfl) hc43 (by kernel_rfl) hb45)) ?_
               refine XL_nil ?_
               kernel_rfl
              ·have hb45 := of_false hb45 hc43
               obtain ⟨y44, hy44, hb45⟩ := of_bind hb45
               have hb45 := some_inj hb45
               refine XL_takeC _ rfl rfl (by kernel_rfl) hc43 (X_of_Y0 rfl (E_move (.ow 560) rfl (by kernel_rfl))) ?_
               refine XL_takeC _ rfl rfl (by kernel_rfl) hc43 (X_of_Y0 rfl (E_loadn (cs := [Ti y26.1.1, Ti y26.1.2.1, Ti y26.1.2.2]) [Ti y26.1.1, Ti y26.1.2.1, Ti y26.1.2.2] wd43 rfl (by kernel_rfl) (Nat.le_of_ble_eq_true rfl) (by kernel_rfl))) ?_
               refine XL_takeC _ rfl rfl (by kernel_rfl) hc43 (X_of_Y1 rfl (Y1_callS (s_laws_qHas hy44) cf_laws_qHas rfl (by kernel_rfl) rfl rfl)) ?_
               refine XL_takeC _ rfl rfl (by kernel_rfl) hc43 (X_of_Y0 rfl (Y0_not (b := y44) rfl (by kernel_rfl))) ?_
               refine XL_cons rfl (X_of_Y0 rfl (Y0_pickFe (b := b42) (p := !y44) rfl (by kernel_rfl) hc43 (by kernel_rfl) hb45)) ?_
               refine XL_nil ?_
               kernel_rfl
           ·have hb36 := of_false hb36 hc34
            obtain ⟨y35, hy35, hb36⟩ := of_bind hb36
            have hb36 := some_inj hb36
            refine XL_takeC _ rfl rfl (by kernel_rfl) hc34 (X_of_Y0 rfl (E_move (.ow 904) rfl (by kernel_rfl))) ?_
            refine XL_takeC _ rfl rfl (by kernel_rfl) hc34 (X_of_Y0 rfl (E_loadn (cs := [Ti y18.1.1, Ti y18.1.2.1, Ti y18.1.2.2]) [Ti y18.1.1, Ti y18.1.2.1, Ti y18.1.2.2] wd43 rfl (by kernel_rfl) (Nat.le_of_ble_eq_true rfl) (by kernel_rfl))) ?_
            refine XL_takeC _ rfl rfl (by kernel_rfl) hc34 (X_of_Y1 rfl (Y1_callS (s_laws_qHas hy35) cf_laws_qHas rfl (by kernel_rfl) rfl rfl)) ?_
            refine XL_takeC _ rfl rfl (by kernel_rfl) hc34 (X_of_Y0 rfl (Y0_not (b := y35) rfl (by kernel_rfl))) ?_
            refine XL_cons rfl (X_of_Y0 rfl (Y0_pickFe (b := bif b32 then true else (!y28.2)) (p := !y35) rfl (by kernel_rfl) hc34 (by kernel_rfl) hb36)) ?_
            refine L0 rfl rfl (E_move (Bo b36) rfl (by kernel_rfl)) ?_
            refine XL_split b36 (fun hc37 => ?_) (fun hc37 => ?_)
            ·have hb39 := some_inj (of_true hb39 hc37)
             refine XL_skipF _ rfl rfl (by kernel_rfl) hc37 rfl ?_
             refine XL_skipF _ rfl rfl (by kernel_rfl) hc37 rfl ?_
             refine XL_skipF _ rfl rfl (by kernel_rfl) hc37 rfl ?_
             refine XL_skipF _ rfl rfl (by kernel_rfl) hc37 rfl ?_
             refine XL_cons rfl (X_of_Y0 rfl (Y0_pickTe (b := b36) (p := true) rfl (by kernel_rfl) hc37 (by kernel_rfl) hb39)) ?_
             refine L0 rfl rfl (E_move (Bo b39) rfl (by kernel_rfl)) ?_
             refine XL_split b39 (fun hc40 => ?_) (fun hc40 => ?_)
             ·have hb42 := some_inj (of_true hb42 hc40)
              refine XL_skipF _ rfl rfl (by kernel_rfl) hc40 rfl ?_
              refine XL_skipF _ rfl rfl (by kernel_rfl) hc40 rfl ?_
              refine XL_skipF _ rfl rfl (by kernel_rfl) hc40 rfl ?_
              refine XL_skipF _ rfl rfl (by kernel_rfl) hc40 rfl ?_
              refine XL_cons rfl (X_of_Y0 rfl (Y0_pickTe (b := b39) (p := true) rfl (by kernel_rfl) hc40 (by kernel_rfl) hb42)) ?_
              refine L0 rfl rfl (E_move (Bo b42) rfl (by kernel_rfl)) ?_
              refine XL_split b42 (fun hc43 => ?_) (fun hc43 => ?_)
              ·have hb45 := some_inj (of_true hb45 hc43)
               refine XL_skipF _ rfl rfl (by kernel_rfl) hc43 rfl ?_
               refine XL_skipF _ rfl rfl (by kernel_rfl) hc43 rfl ?_
               refine XL_skipF _ rfl rfl (by kernel_rfl) hc43 rfl ?_
               refine XL_skipF _ rfl rfl (by kernel_rfl) hc43 rfl ?_
               refine XL_cons rfl (X_of_Y0 rfl (Y0_pickTe (b := b42) (p := true) rfl (by kernel_rfl) hc43 (by kernel_rfl) hb45)) ?_
               refine XL_nil ?_
               kernel_rfl
              ·have hb45 := of_false hb45 hc43
               obtain ⟨y44, hy44, hb45⟩ := of_bind hb45
               have hb45 := some_inj hb45
               refine XL_takeC _ rfl rfl (by kernel_rfl) hc43 (X_of_Y0 rfl (E_move (.ow 560) rfl (by kernel_rfl))) ?_
               refine XL_takeC _ rfl rfl (by kernel_rfl) hc43 (X_of_Y0 rfl (E_loadn (cs := [Ti y26.1.1, Ti y26.1.2.1, Ti y26.1.2.2]) [Ti y26.1.1, Ti y26.1.2.1, Ti y26.1.2.2] wd43 rfl (by kernel_rfl) (Nat.le_of_ble_eq_true rfl) (by kernel_rfl))) ?_
               refine XL_takeC _ rfl rfl (by kernel_rfl) hc43 (X_of_Y1 rfl (Y1_callS (s_laws_qHas hy44) cf_laws_qHas rfl (by kernel_rfl) rfl rfl)) ?_
               refine XL_takeC _ rfl rfl (by kernel_rfl) hc43 (X_of_Y0 rfl (Y0_not (b := y44) rfl (by kernel_rfl))) ?_
               refine XL_cons rfl (X_of_Y0 rfl (Y0_pickFe (b := b42) (p := !y44) rfl (by kernel_rfl) hc43 (by kernel_rfl) hb45)) ?_
               refine XL_nil ?_
               kernel_rfl
             ·have hb42 := of_false hb42 hc40
              obtain ⟨y41, hy41, hb42⟩ := of_bind hb42
              have hb42 := some_inj hb42
              refine XL_takeC _ rfl rfl (by kernel_rfl) hc40 (X_of_Y0 rfl (E_move (.ow 560) rfl (by kernel_rfl))) ?_
              refine XL_takeC _ rfl rfl (by kernel_rfl) hc40 (X_of_Y0 rfl (E_loadn (cs := [Ti y18.1.1, Ti y18.1.2.1, Ti y18.1.2.2]) [Ti y18.1.1, Ti y18.1.2.1, Ti y18.1.2.2] wd43 rfl (by kernel_rfl) (Nat.le_of_ble_eq_true rfl) (by kernel_rfl))) ?_
              refine XL_takeC _ rfl rfl (by kernel_rfl) hc40 (X_of_Y1 rfl (Y1_callS (s_laws_qHas hy41) cf_laws_qHas rfl (by kernel_rfl) rfl rfl)) ?_
              refine XL_takeC _ rfl rfl (by kernel_rfl) hc40 (X_of_Y0 rfl (Y0_not (b := y41) rfl (by kernel_rfl))) ?_
              refine XL_cons rfl (X_of_Y0 rfl (Y0_pickFe (b := b39) (p := !y41) rfl (by kernel_rfl) hc40 (by kernel_rfl) hb42)) ?_
              refine L0 rfl rfl (E_move (Bo b42) rfl (by kernel_rfl)) ?_
              refine XL_split b42 (fun hc43 => ?_) (fun hc43 => ?_)
              ·have hb45 := some_inj (of_true hb45 hc43)
               refine XL_skipF _ rfl rfl (by kernel_rfl) hc43 rfl ?_
               refine XL_skipF _ rfl rfl (by kernel_rfl) hc43 rfl ?_
               refine XL_skipF _ rfl rfl (by kernel_rfl) hc43 rfl ?_
               refine XL_skipF _ rfl rfl (by kernel_rfl) hc43 rfl ?_
               refine XL_cons rfl (X_of_Y0 rfl (Y0_pickTe (b := b42) (p := true) rfl (by kernel_rfl) hc43 (by kernel_rfl) hb45)) ?_
               refine XL_nil ?_
               kernel_rfl
              ·have hb45 := of_false hb45 hc43
               obtain ⟨y44, hy44, hb45⟩ := of_bind hb45
               have hb45 := some_inj hb45
               refine XL_takeC _ rfl rfl (by kernel_rfl) hc43 (X_of_Y0 rfl (E_move (.ow 560) rfl (by kernel_rfl))) ?_
               refine XL_takeC _ rfl rfl (by kernel_rfl) hc43 (X_of_Y0 rfl (E_loadn (cs := [Ti y26.1.1, Ti y26.1.2.1, Ti y26.1.2.2]) [Ti y26.1.1, Ti y26.1.2.1, Ti y26.1.2.2] wd43 rfl (by kernel_rfl) (Nat.le_of_ble_eq_true rfl) (by kernel_rfl))) ?_
               refine XL_takeC _ rfl rfl (by kernel_rfl) hc43 (X_of_Y1 rfl (Y1_callS (s_laws_qHas hy44) cf_laws_qHas rfl (by kernel_rfl) rfl rfl)) ?_
               refine XL_takeC _ rfl rfl (by kernel_rfl) hc43 (X_of_Y0 rfl (Y0_not (b := y44) rfl (by kernel_rfl))) ?_
               refine XL_cons rfl (X_of_Y0 rfl (Y0_pickFe (b := b42) (p := !y44) rfl (by kernel_rfl) hc43 (by kernel_rfl) hb45)) ?_
               refine XL_nil ?_
               kernel_rfl
            ·have hb39 := of_false hb39 hc37
             obtain ⟨y38, hy38, hb39⟩ := of_bind hb39
             have hb39 := some_inj hb39
             refine XL_takeC _ rfl rfl (by kernel_rfl) hc37 (X_of_Y0 rfl (E_move (.ow 904) rfl (by kernel_rfl))) ?_
             refine XL_takeC _ rfl rfl (by kernel_rfl) hc37 (X_of_Y0 rfl (E_loadn (cs := [Ti y26.1.1, Ti y26.1.2.1, Ti y26.1.2.2]) [Ti y26.1.1, Ti y26.1.2.1, Ti y26.1.2.2] wd43 rfl (by kernel_rfl) (Nat.le_of_ble_eq_true rfl) (by kernel_rfl))) ?_
             refine XL_takeC _ rfl rfl (by kernel_rfl) hc37 (X_of_Y1 rfl (Y1_callS (s_laws_qHas hy38) cf_laws_qHas rfl (by kernel_rfl) rfl rfl)) ?_
             refine XL_takeC _ rfl rfl (by kernel_rfl) hc37 (X_of_Y0 rfl (Y0_not (b := y38) rfl (by kernel_rfl))) ?_
             refine XL_cons rfl (X_of_Y0 rfl (Y0_pickFe (b := b36) (p := !y38) rfl (by kernel_rfl) hc37 (by kernel_rfl) hb39)) ?_
             refine L0 rfl rfl (E_move (Bo b39) rfl (by kernel_rfl)) ?_
             refine XL_split b39 (fun hc40 => ?_) (fun hc40 => ?_)
             ·have hb42 := some_inj (of_true hb42 hc40)
              refine XL_skipF _ rfl rfl (by kernel_rfl) hc40 rfl ?_
              refine XL_skipF _ rfl rfl (by kernel_rfl) hc40 rfl ?_
              refine XL_skipF _ rfl rfl (by kernel_rfl) hc40 rfl ?_
              refine XL_skipF _ rfl rfl (by kernel_rfl) hc40 rfl ?_
              refine XL_cons rfl (X_of_Y0 rfl (Y0_pickTe (b := b39) (p := true) rfl (by kernel_rfl) hc40 (by kernel_rfl) hb42)) ?_
              refine L0 rfl rfl (E_move (Bo b42) rfl (by kernel_rfl)) ?_
              refine XL_split b42 (fun hc43 => ?_) (fun hc43 => ?_)
              ·have hb45 := some_inj (of_true hb45 hc43)
               refine XL_skipF _ rfl rfl (by kernel_rfl) hc43 rfl ?_
               refine XL_skipF _ rfl rfl (by kernel_rfl) hc43 rfl ?_
               refine XL_skipF _ rfl rfl (by kernel_rfl) hc43 rfl ?_
               refine XL_skipF _ rfl rfl (by kernel_rfl) hc43 rfl ?_
               refine XL_cons rfl (X_of_Y0 rfl (Y0_pickTe (b := b42) (p := true) rfl (by kernel_rfl) hc43 (by kernel_rfl) hb45)) ?_
               refine XL_nil ?_
               kernel_rfl
              ·have hb45 := of_false hb45 hc43
               obtain ⟨y44, hy44, hb45⟩ := of_bind hb45
               have hb45 := some_inj hb45
               refine XL_takeC _ rfl rfl (by kernel_rfl) hc43 (X_of_Y0 rfl (E_move (.ow 560) rfl (by kernel_rfl))) ?_
               refine XL_takeC _ rfl rfl (by kernel_rfl) hc43 (X_of_Y0 rfl (E_loadn (cs := [Ti y26.1.1, Ti y26.1.2.1, Ti y26.1.2.2]) [Ti y26.1.1, Ti y26.1.2.1, Ti y26.1.2.2] wd43 rfl (by kernel_rfl) (Nat.le_of_ble_eq_true rfl) (by kernel_rfl))) ?_
               refine XL_takeC _ rfl rfl (by kernel_rfl) hc43 (X_of_Y1 rfl (Y1_callS (s_laws_qHas hy44) cf_laws_qHas rfl (by kernel_rfl) rfl rfl)) ?_
               refine XL_takeC _ rfl rfl (by kernel_rfl) hc43 (X_of_Y0 rfl (Y0_not (b := y44) rfl (by kernel_rfl))) ?_
               refine XL_cons rfl (X_of_Y0 rfl (Y0_pickFe (b := b42) (p := !y44) rfl (by kernel_rfl) hc43 (by kernel_rfl) hb45)) ?_
               refine XL_nil ?_
               kernel_rfl
             ·have hb42 := of_false hb42 hc40
              obtain ⟨y41, hy41, hb42⟩ := of_bind hb42
              have hb42 := some_inj hb42
              refine XL_takeC _ rfl rfl (by kernel_rfl) hc40 (X_of_Y0 rfl (E_move (.ow 560) rfl (by kernel_rfl))) ?_
              refine XL_takeC _ rfl rfl (by kernel_rfl) hc40 (X_of_Y0 rfl (E_loadn (cs := [Ti y18.1.1, Ti y18.1.2.1, Ti y18.1.2.2]) [Ti y18.1.1, Ti y18.1.2.1, Ti y18.1.2.2] wd43 rfl (by kernel_rfl) (Nat.le_of_ble_eq_true rfl) (by kernel_rfl))) ?_
              refine XL_takeC _ rfl rfl (by kernel_rfl) hc40 (X_of_Y1 rfl (Y1_callS (s_laws_qHas hy41) cf_laws_qHas rfl (by kernel_rfl) rfl rfl)) ?_
              refine XL_takeC _ rfl rfl (by kernel_rfl) hc40 (X_of_Y0 rfl (Y0_not (b := y41) rfl (by kernel_rfl))) ?_
              refine XL_cons rfl (X_of_Y0 rfl (Y0_pickFe (b := b39) (p := !y41) rfl (by kernel_rfl) hc40 (by kernel_rfl) hb42)) ?_
              refine L0 rfl rfl (E_move (Bo b42) rfl (by kernel_rfl)) ?_
              refine XL_split b42 (fun hc43 => ?_) (fun hc43 => ?_)
              ·have hb45 := some_inj (of_true hb45 hc43)
               refine XL_skipF _ rfl rfl (by kernel_rfl) hc43 rfl ?_
               refine XL_skipF _ rfl rfl (by kernel_rfl) hc43 rfl ?_
               refine XL_skipF _ rfl rfl (by kernel_rfl) hc43 rfl ?_
               refine XL_skipF _ rfl rfl (by kernel_rfl) hc43 rfl ?_
               refine XL_cons rfl (X_of_Y0 rfl (Y0_pickTe (b := b42) (p := true) rfl (by kernel_rfl) hc43 (by kernel_rfl) hb45)) ?_
               refine XL_nil ?_
               kernel_rfl
              ·have hb45 := of_false hb45 hc43
               obtain ⟨y44, hy44, hb45⟩ := of_bind hb45
               have hb45 := some_inj hb45
               refine XL_takeC _ rfl rfl (by kernel_rfl) hc43 (X_of_Y0 rfl (E_move (.ow 560) rfl (by kernel_rfl))) ?_
               refine XL_takeC _ rfl rfl (by kernel_rfl) hc43 (X_of_Y0 rfl (E_loadn (cs := [Ti y26.1.1, Ti y26.1.2.1, Ti y26.1.2.2]) [Ti y26.1.1, Ti y26.1.2.1, Ti y26.1.2.2] wd43 rfl (by kernel_rfl) (Nat.le_of_ble_eq_true rfl) (by kernel_rfl))) ?_
               refine XL_takeC _ rfl rfl (by kernel_rfl) hc43 (X_of_Y1 rfl (Y1_callS (s_laws_qHas hy44) cf_laws_qHas rfl (by kernel_rfl) rfl rfl)) ?_
               refine XL_takeC _ rfl rfl (by kernel_rfl) hc43 (X_of_Y0 rfl (Y0_not (b := y44) rfl (by kernel_rfl))) ?_
               refine XL_cons rfl (X_of_Y0 rfl (Y0_pickFe (b := b42) (p := !y44) rfl (by kernel_rfl) hc43 (by kernel_rfl) hb45)) ?_
               refine XL_nil ?_
               kernel_rfl
       refine V_cond rfl (fun hc46 => ?_) (fun hc46 => ?_)
       ·have h := of_true h hc46
        refine V_sreg (mb 174 16) [] (s1 := ⟨bt 4 (Bo false :: bt 169 []), []⟩) ?_ ?_
        ·refine L0 rfl rfl (E_assign (Bo false) rfl (by kernel_rfl)) ?_
         refine XL_nil ?_
         kernel_rfl
        refine V_ret ?_
        obtain rfl := some_inj h
        show Post _ _ _ _ _
        exact ⟨.inr rfl, rfl, rfl, rfl⟩
       ·have h := of_false h hc46
        refine V_skip ?_
        show V _ _ _ _
        obtain ⟨t50, ht50, h⟩ := of_bind h
        have ht50 := some_inj ht50
        refine V_sreg (mb 174 16) [] (s1 := ⟨bt 4 (Bo t50 :: bt 169 []), []⟩) ?_ ?_
        ·refine L0 rfl rfl (E_loadn (cs := [Ti y18.1.1, Ti y18.1.2.1, Ti y18.1.2.2]) [Ti y18.1.1, Ti y18.1.2.1, Ti y18.1.2.2] wd43 rfl (by kernel_rfl) (Nat.le_of_ble_eq_true rfl) (by kernel_rfl)) ?_
         refine L0 rfl rfl (E_loadn (cs := [Ti y26.1.1, Ti y26.1.2.1, Ti y26.1.2.2]) [Ti y26.1.1, Ti y26.1.2.1, Ti y26.1.2.2] wd43 rfl (by kernel_rfl) (Nat.le_of_ble_eq_true rfl) (by kernel_rfl)) ?_
         refine L0 rfl rfl (Y0_eqg3 (a0 := y18.1.1) (b0 := y26.1.1) (a1 := y18.1.2.1) (b1 := y26.1.2.1) (a2 := y18.1.2.2) (b2 := y26.1.2.2) eqg43 rfl (by kernel_rfl) (by kernel_rfl)) ?_
         refine L0 rfl rfl (E_move (Bo (((y18.1.1 == y26.1.1) && ((y18.1.2.1 == y26.1.2.1) && (y18.1.2.2 == y26.1.2.2))))) rfl (by kernel_rfl)) ?_
         refine XL_split (((y18.1.1 == y26.1.1) && ((y18.1.2.1 == y26.1.2.1) && (y18.1.2.2 == y26.1.2.2)))) (fun hc47 => ?_) (fun hc47 => ?_)
         ·refine XL_takeC _ rfl rfl (by kernel_rfl) hc47 (X_of_Y0 rfl (E_move (.ow 560) rfl (by kernel_rfl))) ?_
          refine XL_takeC _ rfl rfl (by kernel_rfl) hc47 (X_of_Y0 rfl (Y0_lenM (c := c43) (xs := y17.1) Try.underlying40 rfl (by kernel_rfl))) ?_
          refine XL_takeC _ rfl rfl (by kernel_rfl) hc47 (X_of_Y0 rfl (Y0_eqw (k := .i64) (a := (y17.1.length : Int)) (b := 1) rfl (by kernel_rfl) (by kernel_rfl))) ?_
          refine XL_cons rfl (X_of_Y0 rfl (Y0_pick1 (b := ((y18.1.1 == y26.1.1) && ((y18.1.2.1 == y26.1.2.1) && (y18.1.2.2 == y26.1.2.2)))) (p := eqI ((y17.1.length : Int)) 1) (q := false) rfl (by kernel_rfl) hc47 (by kernel_rfl))) ?_
          refine L0 rfl rfl (E_move (Bo (bif (((y18.1.1 == y26.1.1) && ((y18.1.2.1 == y26.1.2.1) && (y18.1.2.2 == y26.1.2.2)))) then (eqI ((y17.1.length : Int)) 1) else false)) rfl (by kernel_rfl)) ?_
          refine XL_split (bif (((y18.1.1 == y26.1.1) && ((y18.1.2.1 == y26.1.2.1) && (y18.1.2.2 == y26.1.2.2)))) then (eqI ((y17.1.length : Int)) 1) else false) (fun hc48 => ?_) (fun hc48 => ?_)
          ·refine XL_skipF _ rfl rfl (by kernel_rfl) hc48 rfl ?_
           refine XL_skipF _ rfl rfl (by kernel_rfl) hc48 rfl ?_
           refine XL_skipF _ rfl rfl (by kernel_rfl) hc48 rfl ?_
           refine XL_skipF _ rfl rfl (by kernel_rfl) hc48 rfl ?_
           refine XL_skip2 rfl rfl (by kernel_rfl) rfl ?_
           refine XL_skip2 rfl rfl (by kernel_rfl) rfl ?_
           refine XL_skip2 rfl rfl (by kernel_rfl) rfl ?_
           refine XL_skipF _ rfl rfl (by kernel_rfl) hc48 rfl ?_
           refine XL_cons rfl (X_of_Y0 rfl (Y0_pick1 (b := bif (((y18.1.1 == y26.1.1) && ((y18.1.2.1 == y26.1.2.1) && (y18.1.2.2 == y26.1.2.2)))) then (eqI ((y17.1.length : Int)) 1) else false) (p := true) (q := bif (!((y18.1.1 == y26.1.1) && ((y18.1.2.1 == y26.1.2.1) && (y18.1.2.2 == y26.1.2.2)))) then (eqI ((y17.1.length : Int)) 2) else false) rfl (by kernel_rfl) hc48 (by kernel_rfl))) ?_
           refine L0 rfl rfl (E_assign (Bo (bif (bif (((y18.1.1 == y26.1.1) && ((y18.1.2.1 == y26.1.2.1) && (y18.1.2.2 == y26.1.2.2)))) then (eqI ((y17.1.length : Int)) 1) else false) then true else (bif (!((y18.1.1 == y26.1.1) && ((y18.1.2.1 == y26.1.2.1) && (y18.1.2.2 == y26.1.2.2)))) then (eqI ((y17.1.length : Int)) 2) else false))) rfl (by kernel_rfl)) ?_
           refine XL_nil ?_
           subst ht50
           kernel_rfl
          ·refine XL_takeC _ rfl rfl (by kernel_rfl) hc48 (X_of_Y0 rfl (E_loadn (cs := [Ti y18.1.1, Ti y18.1.2.1, Ti y18.1.2.2]) [Ti y18.1.1, Ti y18.1.2.1, Ti y18.1.2.2] wd43 rfl (by kernel_rfl) (Nat.le_of_ble_eq_true rfl) (by kernel_rfl))) ?_
           refine XL_takeC _ rfl rfl (by kernel_rfl) hc48 (X_of_Y0 rfl (E_loadn (cs := [Ti y26.1.1, Ti y26.1.2.1, Ti y26.1.2.2]) [Ti y26.1.1, Ti y26.1.2.1, Ti y26.1.2.2] wd43 rfl (by kernel_rfl) (Nat.le_of_ble_eq_true rfl) (by kernel_rfl))) ?_
           refine XL_takeC _ rfl rfl (by kernel_rfl) hc48 (X_of_Y0 rfl (Y0_neg3 (a0 := y18.1.1) (b0 := y26.1.1) (a1 := y18.1.2.1) (b1 := y26.1.2.1) (a2 := y18.1.2.2) (b2 := y26.1.2.2) neg43 rfl (by kernel_rfl) (by kernel_rfl))) ?_
           refine XL_takeC _ rfl rfl (by kernel_rfl) hc48 (X_of_Y0 rfl (E_move (Bo (!((y18.1.1 == y26.1.1) && ((y18.1.2.1 == y26.1.2.1) && (y18.1.2.2 == y26.1.2.2))))) rfl (by kernel_rfl))) ?_
           refine XL_split (!((y18.1.1 == y26.1.1) && ((y18.1.2.1 == y26.1.2.1) && (y18.1.2.2 == y26.1.2.2)))) (fun hc49 => ?_) (fun hc49 => ?_)
           ·refine XL_takeC _ rfl rfl (by kernel_rfl) hc49 (X_of_Y0 rfl (E_move (.ow 560) rfl (by kernel_rfl))) ?_
            refine XL_takeC _ rfl rfl (by kernel_rfl) hc49 (X_of_Y0 rfl (Y0_lenM (c := c43) (xs := y17.1) Try.underlying40 rfl (by kernel_rfl))) ?_
            refine XL_takeC _ rfl rfl (by kernel_rfl) hc49 (X_of_Y0 rfl (Y0_eqw (k := .i64) (a := (y17.1.length : Int)) (b := 2) rfl (by kernel_rfl) (by kernel_rfl))) ?_
            refine XL_takeC _ rfl rfl (by kernel_rfl) hc48 (X_of_Y0 rfl (Y0_pick1 (b := !((y18.1.1 == y26.1.1) && ((y18.1.2.1 == y26.1.2.1) && (y18.1.2.2 == y26.1.2.2)))) (p := eqI ((y17.1.length : Int)) 2) (q := false) rfl (by kernel_rfl) hc49 (by kernel_rfl))) ?_
            refine XL_cons rfl (X_of_Y0 rfl (Y0_pick0 (b := bif (((y18.1.1 == y26.1.1) && ((y18.1.2.1 == y26.1.2.1) && (y18.1.2.2 == y26.1.2.2)))) then (eqI ((y17.1.length : Int)) 1) else false) (p := true) (q := bif (!((y18.1.1 == y26.1.1) && ((y18.1.2.1 == y26.1.2.1) && (y18.1.2.2 == y26.1.2.2)))) then (eqI ((y17.1.length : Int)) 2) else false) rfl (by kernel_rfl) hc48 (by kernel_rfl))) ?_
            refine L0 rfl rfl (E_assign (Bo (bif (bif (((y18.1.1 == y26.1.1) && ((y18.1.2.1 == y26.1.2.1) && (y18.1.2.2 == y26.1.2.2)))) then (eqI ((y17.1.length : Int)) 1) else false) then true else (bif (!((y18.1.1 == y26.1.1) && ((y18.1.2.1 == y26.1.2.1) && (y18.1.2.2 == y26.1.2.2)))) then (eqI ((y17.1.length : Int)) 2) else false))) rfl (by kernel_rfl)) ?_
            refine XL_nil ?_
            subst ht50
            kernel_rfl
           ·refine XL_skipT _ rfl rfl (by kernel_rfl) hc49 rfl ?_
            refine XL_skipT _ rfl rfl (by kernel_rfl) hc49 rfl ?_
            refine XL_skipT _ rfl rfl (by kernel_rfl) hc49 rfl ?_
            refine XL_takeC _ rfl rfl (by kernel_rfl) hc48 (X_of_Y0 rfl (Y0_pick0 (b := !((y18.1.1 == y26.1.1) && ((y18.1.2.1 == y26.1.2.1) && (y18.1.2.2 == y26.1.2.2)))) (p := eqI ((y17.1.length : Int)) 2) (q := false) rfl (by kernel_rfl) hc49 (by kernel_rfl))) ?_
            refine XL_cons rfl (X_of_Y0 rfl (Y0_pick0 (b := bif (((y18.1.1 == y26.1.1) && ((y18.1.2.1 == y26.1.2.1) && (y18.1.2.2 == y26.1.2.2)))) then (eqI ((y17.1.length : Int)) 1) else false) (p := true) (q := bif (!((y18.1.1 == y26.1.1) && ((y18.1.2.1 == y26.1.2.1) && (y18.1.2.2 == y26.1.2.2)))) then (eqI ((y17.1.length : Int)) 2) else false) rfl (by kernel_rfl) hc48 (by kernel_rfl))) ?_
            refine L0 rfl rfl (E_assign (Bo (bif (bif (((y18.1.1 == y26.1.1) && ((y18.1.2.1 == y26.1.2.1) && (y18.1.2.2 == y26.1.2.2)))) then (eqI ((y17.1.length : Int)) 1) else false) then true else (bif (!((y18.1.1 == y26.1.1) && ((y18.1.2.1 == y26.1.2.1) && (y18.1.2.2 == y26.1.2.2)))) then (eqI ((y17.1.length : Int)) 2) else false))) rfl (by kernel_rfl)) ?_
            refine XL_nil ?_
            subst ht50
            kernel_rfl
         ·refine XL_skipT _ rfl rfl (by kernel_rfl) hc47 rfl ?_
          refine XL_skipT _ rfl rfl (by kernel_rfl) hc47 rfl ?_
          refine XL_skipT _ rfl rfl (by kernel_rfl) hc47 rfl ?_
          refine XL_cons rfl (X_of_Y0 rfl (Y0_pick0 (b := ((y18.1.1 == y26.1.1) && ((y18.1.2.1 == y26.1.2.1) && (y18.1.2.2 == y26.1.2.2)))) (p := eqI ((y17.1.length : Int)) 1) (q := false) rfl (by kernel_rfl) hc47 (by kernel_rfl))) ?_
          refine L0 rfl rfl (E_move (Bo (bif (((y18.1.1 == y26.1.1) && ((y18.1.2.1 == y26.1.2.1) && (y18.1.2.2 == y26.1.2.2)))) then (eqI ((y17.1.length : Int)) 1) else false)) rfl (by kernel_rfl)) ?_
          refine XL_split (bif (((y18.1.1 == y26.1.1) && ((y18.1.2.1 == y26.1.2.1) && (y18.1.2.2 == y26.1.2.2)))) then (eqI ((y17.1.length : Int)) 1) else false) (fun hc48 => ?_) (fun hc48 => ?_)
          ·refine XL_skipF _ rfl rfl (by kernel_rfl) hc48 rfl ?_
           refine XL_skipF _ rfl rfl (by kernel_rfl) hc48 rfl ?_
           refine XL_skipF _ rfl rfl (by kernel_rfl) hc48 rfl ?_
           refine XL_skipF _ rfl rfl (by kernel_rfl) hc48 rfl ?_
           refine XL_skip2 rfl rfl (by kernel_rfl) rfl ?_
           refine XL_skip2 rfl rfl (by kernel_rfl) rfl ?_
           refine XL_skip2 rfl rfl (by kernel_rfl) rfl ?_
           refine XL_skipF _ rfl rfl (by kernel_rfl) hc48 rfl ?_
           refine XL_cons rfl (X_of_Y0 rfl (Y0_pick1 (b := bif (((y18.1.1 == y26.1.1) && ((y18.1.2.1 == y26.1.2.1) && (y18.1.2.2 == y26.1.2.2)))) then (eqI ((y17.1.length : Int)) 1) else false) (p := true) (q := bif (!((y18.1.1 == y26.1.1) && ((y18.1.2.1 == y26.1.2.1) && (y18.1.2.2 == y26.1.2.2)))) then (eqI ((y17.1.length : Int)) 2) else false) rfl (by kernel_rfl) hc48 (by kernel_rfl))) ?_
           refine L0 rfl rfl (E_assign (Bo (bif (bif (((y18.1.1 == y26.1.1) && ((y18.1.2.1 == y26.1.2.1) && (y18.1.2.2 == y26.1.2.2)))) then (eqI ((y17.1.length : Int)) 1) else false) then true else (bif (!((y18.1.1 == y26.1.1) && ((y18.1.2.1 == y26.1.2.1) && (y18.1.2.2 == y26.1.2.2)))) then (eqI ((y17.1.length : Int)) 2) else false))) rfl (by kernel_rfl)) ?_
           refine XL_nil ?_
           subst ht50
           kernel_rfl
          ·refine XL_takeC _ rfl rfl (by kernel_rfl) hc48 (X_of_Y0 rfl (E_loadn (cs := [Ti y18.1.1, Ti y18.1.2.1, Ti y18.1.2.2]) [Ti y18.1.1, Ti y18.1.2.1, Ti y18.1.2.2] wd43 rfl (by kernel_rfl) (Nat.le_of_ble_eq_true rfl) (by kernel_rfl))) ?_
           refine XL_takeC _ rfl rfl (by kernel_rfl) hc48 (X_of_Y0 rfl (E_loadn (cs := [Ti y26.1.1, Ti y26.1.2.1, Ti y26.1.2.2]) [Ti y26.1.1, Ti y26.1.2.1, Ti y26.1.2.2] wd43 rfl (by kernel_rfl) (Nat.le_of_ble_eq_true rfl) (by kernel_rfl))) ?_
           refine XL_takeC _ rfl rfl (by kernel_rfl) hc48 (X_of_Y0 rfl (Y0_neg3 (a0 := y18.1.1) (b0 := y26.1.1) (a1 := y18.1.2.1) (b1 := y26.1.2.1) (a2 := y18.1.2.2) (b2 := y26.1.2.2) neg43 rfl (by kernel_rfl) (by kernel_rfl))) ?_
           refine XL_takeC _ rfl rfl (by kernel_rfl) hc48 (X_of_Y0 rfl (E_move (Bo (!((y18.1.1 == y26.1.1) && ((y18.1.2.1 == y26.1.2.1) && (y18.1.2.2 == y26.1.2.2))))) rfl (by kernel_rfl))) ?_
           refine XL_split (!((y18.1.1 == y26.1.1) && ((y18.1.2.1 == y26.1.2.1) && (y18.1.2.2 == y26.1.2.2)))) (fun hc49 => ?_) (fun hc49 => ?_)
           ·refine XL_takeC _ rfl rfl (by kernel_rfl) hc49 (X_of_Y0 rfl (E_move (.ow 560) rfl (by kernel_rfl))) ?_
            refine XL_takeC _ rfl rfl (by kernel_rfl) hc49 (X_of_Y0 rfl (Y0_lenM (c := c43) (xs := y17.1) Try.underlying40 rfl (by kernel_rfl))) ?_
            refine XL_takeC _ rfl rfl (by kernel_rfl) hc49 (X_of_Y0 rfl (Y0_eqw (k := .i64) (a := (y17.1.length : Int)) (b := 2) rfl (by kernel_rfl) (by kernel_rfl))) ?_
            refine XL_takeC _ rfl rfl (by kernel_rfl) hc48 (X_of_Y0 rfl (Y0_pick1 (b := !((y18.1.1 == y26.1.1) && ((y18.1.2.1 == y26.1.2.1) && (y18.1.2.2 == y26.1.2.2)))) (p := eqI ((y17.1.length : Int)) 2) (q := false) rfl (by kernel_rfl) hc49 (by kernel_rfl))) ?_
            refine XL_cons rfl (X_of_Y0 rfl (Y0_pick0 (b := bif (((y18.1.1 == y26.1.1) && ((y18.1.2.1 == y26.1.2.1) && (y18.1.2.2 == y26.1.2.2)))) then (eqI ((y17.1.length : Int)) 1) else false) (p := true) (q := bif (!((y18.1.1 == y26.1.1) && ((y18.1.2.1 == y26.1.2.1) && (y18.1.2.2 == y26.1.2.2)))) then (eqI ((y17.1.length : Int)) 2) else false) rfl (by kernel_rfl) hc48 (by kernel_rfl))) ?_
            refine L0 rfl rfl (E_assign (Bo (bif (bif (((y18.1.1 == y26.1.1) && ((y18.1.2.1 == y26.1.2.1) && (y18.1.2.2 == y26.1.2.2)))) then (eqI ((y17.1.length : Int)) 1) else false) then true else (bif (!((y18.1.1 == y26.1.1) && ((y18.1.2.1 == y26.1.2.1) && (y18.1.2.2 == y26.1.2.2)))) then (eqI ((y17.1.length : Int)) 2) else false))) rfl (by kernel_rfl)) ?_
            refine XL_nil ?_
            subst ht50
            kernel_rfl
           ·refine XL_skipT _ rfl rfl (by kernel_rfl) hc49 rfl ?_
            refine XL_skipT _ rfl rfl (by kernel_rfl) hc49 rfl ?_
            refine XL_skipT _ rfl rfl (by kernel_rfl) hc49 rfl ?_
            refine XL_takeC _ rfl rfl (by kernel_rfl) hc48 (X_of_Y0 rfl (Y0_pick0 (b := !((y18.1.1 == y26.1.1) && ((y18.1.2.1 == y26.1.2.1) && (y18.1.2.2 == y26.1.2.2)))) (p := eqI ((y17.1.length : Int)) 2) (q := false) rfl (by kernel_rfl) hc49 (by kernel_rfl))) ?_
            refine XL_cons rfl (X_of_Y0 rfl (Y0_pick0 (b := bif (((y18.1.1 == y26.1.1) && ((y18.1.2.1 == y26.1.2.1) && (y18.1.2.2 == y26.1.2.2)))) then (eqI ((y17.1.length : Int)) 1) else false) (p := true) (q := bif (!((y18.1.1 == y26.1.1) && ((y18.1.2.1 == y26.1.2.1) && (y18.1.2.2 == y26.1.2.2)))) then (eqI ((y17.1.length : Int)) 2) else false) rfl (by kernel_rfl) hc48 (by kernel_rfl))) ?_
            refine L0 rfl rfl (E_assign (Bo (bif (bif (((y18.1.1 == y26.1.1) && ((y18.1.2.1 == y26.1.2.1) && (y18.1.2.2 == y26.1.2.2)))) then (eqI ((y17.1.length : Int)) 1) else false) then true else (bif (!((y18.1.1 == y26.1.1) && ((y18.1.2.1 == y26.1.2.1) && (y18.1.2.2 == y26.1.2.2)))) then (eqI ((y17.1.length : Int)) 2) else false))) rfl (by kernel_rfl)) ?_
            refine XL_nil ?_
            subst ht50
            kernel_rfl
        refine V_ret ?_
        obtain rfl := some_inj h
        show Post _ _ _ _ _
        exact ⟨.inr rfl, rfl, rfl, rfl⟩
end Go.Proofs.Ytpfnhgpepgeaiaa
