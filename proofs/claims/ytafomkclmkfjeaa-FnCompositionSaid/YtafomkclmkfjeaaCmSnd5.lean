/-
  The functions of the program compute what the plain functions say: more of them.
  Conditions: none.
-/
import Derived.Test.YtafomkclmkfjeaaCmSnd4
namespace Go.Proofs.Ytafomkclmkfjeaa
open Go.RowKit
set_option linter.unusedVariables false
set_option linter.unusedSimpArgs false
set_option maxRecDepth 100000
set_option maxHeartbeats 400000
theorem cf_impl_IsComposition : ∀ args w, (callFunc 29 args).run Try.prog w = .ok (.enter 29 args) w := run_callFunc Try.func29 (by kernel_rfl) (by kernel_rfl)
theorem s_impl_IsComposition {f1 : (Int × Int × Int)} {g2 : (Int × Int × Int)} {vh3 : (Int × Int × Int)} {k4 : List Int} {r : (Bool × Bool)} (h : r_impl_IsComposition f1 g2 vh3 k4 = some r) : CallS Try.prog 29 [.ag [Ti f1.1, Ti f1.2.1, Ti f1.2.2], .ag [Ti g2.1, Ti g2.2.1, Ti g2.2.2], .ag [Ti vh3.1, Ti vh3.2.1, Ti vh3.2.2], .c (.sl (k4.map c3))] (.tc (Bo r.1) (.tc (Bo r.2) .tn)) [] := by
  refine CallS_of_text (rs := [.t 8, .t 9]) (vs := [.tmp 8, .tmp 9]) Try.func29 rfl rfl (.cons rfl (.cons rfl FitsL.nil)) (by decide) 117 rfl ?_
  unfold r_impl_IsComposition at h
  show V _ _ ⟨.ag [Ti f1.1, Ti f1.2.1, Ti f1.2.2] :: .ag [Ti g2.1, Ti g2.2.1, Ti g2.2.2] :: .ag [Ti vh3.1, Ti vh3.2.1, Ti vh3.2.2] :: .c (.sl (k4.map c3)) :: bt 113 [], []⟩ _
  refine V_e (mb 117 120) [48, 40, 32] (s1 := ⟨bt 3 (.c (.sl (k4.map c3)) :: .pt 32 0 :: .pt 40 0 :: .pt 48 0 :: bt 110 []), [(48, .box [Ti vh3.1, Ti vh3.2.1, Ti vh3.2.2]), (40, .box [Ti g2.1, Ti g2.2.1, Ti g2.2.2]), (32, .box [Ti f1.1, Ti f1.2.1, Ti f1.2.2])]⟩) ?_
  refine V_seq ?_
  obtain ⟨y5, hy5, h⟩ := of_bind h
  obtain ⟨b8, hb8, h⟩ := of_bind h
  obtain ⟨b11, hb11, h⟩ := of_bind h
  obtain ⟨b15, hb15, h⟩ := of_bind h
  refine V_sreg (mb 117 8796093022328) [48, 40, 32] (s1 := ⟨bt 3 (.c (.sl (k4.map c3)) :: .pt 32 0 :: .pt 40 0 :: .pt 48 0 :: bt 36 (Bo b15 :: bt 73 [])), [(48, .box [Ti vh3.1, Ti vh3.2.1, Ti vh3.2.2]), (40, .box [Ti g2.1, Ti g2.2.1, Ti g2.2.2]), (32, .box [Ti f1.1, Ti f1.2.1, Ti f1.2.2])]⟩) ?_ ?_
  ·refine XR 2 ?_
   refine XC (s_impl_arePair hy5) cf_impl_arePair rfl rfl rfl ?_
   refine XR 2 ?_
   refine XL_split (!y5) (fun hc6 => ?_) (fun hc6 => ?_)
   ·have hb8 := some_inj (of_true hb8 hc6)
    refine XL_skipF _ rfl rfl (by kernel_rfl) hc6 rfl ?_
    refine XL_skipF _ rfl rfl (by kernel_rfl) hc6 rfl ?_
    refine XL_skipF _ rfl rfl (by kernel_rfl) hc6 rfl ?_
    refine XL_skipF _ rfl rfl (by kernel_rfl) hc6 rfl ?_
    refine XL_cons rfl (X_of_Y0 rfl (Y0_pickTe (b := !y5) (p := true) rfl (by kernel_rfl) hc6 (by kernel_rfl) hb8)) ?_
    refine XR 1 ?_
    refine XL_split b8 (fun hc9 => ?_) (fun hc9 => ?_)
    ·have hb11 := some_inj (of_true hb11 hc9)
     refine XL_skipF _ rfl rfl (by kernel_rfl) hc9 rfl ?_
     refine XL_skipF _ rfl rfl (by kernel_rfl) hc9 rfl ?_
     refine XL_skipF _ rfl rfl (by kernel_rfl) hc9 rfl ?_
     refine XL_cons rfl (X_of_Y0 rfl (Y0_pickTe (b := b8) (p := true) rfl (by kernel_rfl) hc9 (by kernel_rfl) hb11)) ?_
     refine XR 1 ?_
     refine XL_split b11 (fun hc12 => ?_) (fun hc12 => ?_)
     ·refine XL_skipF _ rfl rfl (by kernel_rfl) hc12 rfl ?_
      refine XL_skipF _ rfl rfl (by kernel_rfl) hc12 rfl ?_
      refine XL_skipF _ rfl rfl (by kernel_rfl) hc12 rfl ?_
      refine XL_cons rfl (X_of_Y0 rfl (Y0_pick1 (b := b11) (p := true) (q := !eqI ((k4.length : Int)) 8) rfl (by kernel_rfl) hc12 (by kernel_rfl))) ?_
      refine XR 1 ?_
      refine XL_split (bif b11 then true else (!eqI ((k4.length : Int)) 8)) (fun hc13 => ?_) (fun hc13 => ?_)
      ·have hb15 := some_inj (of_true hb15 hc13)
       refine XL_skipF _ rfl rfl (by kernel_rfl) hc13 rfl ?_
       refine XL_skipF _ rfl rfl (by kernel_rfl) hc13 rfl ?_
       refine XL_skipF _ rfl rfl (by kernel_rfl) hc13 rfl ?_
       refine XL_cons rfl (X_of_Y0 rfl (Y0_pickTe (b := bif b11 then true else (!eqI ((k4.length : Int)) 8)) (p := true) rfl (by kernel_rfl) hc13 (by kernel_rfl) hb15)) ?_
       exact XE
      ·have hb15 := of_false hb15 hc13
       obtain ⟨y14, hy14, hb15⟩ := of_bind hb15
       have hb15 := some_inj hb15
       refine XL_takeC _ rfl rfl (by kernel_rfl) hc13 (X_of_Y0 rfl (E_move (.c (.sl (k4.map c3))) rfl (by kernel_rfl))) ?_
       refine XL_takeC _ rfl rfl (by kernel_rfl) hc13 (X_of_Y1 rfl (Y1_call (s_impl_areNumbers hy14) cf_impl_areNumbers rfl (by kernel_rfl))) ?_
       refine XL_takeC _ rfl rfl (by kernel_rfl) hc13 (X_of_Y0 rfl (Y0_not (b := y14) rfl (by kernel_rfl))) ?_
       refine XL_cons rfl (X_of_Y0 rfl (Y0_pickFe (b := bif b11 then true else (!eqI ((k4.length : Int)) 8)) (p := !y14) rfl (by kernel_rfl) hc13 (by kernel_rfl) hb15)) ?_
       exact XE
     ·refine XL_takeC _ rfl rfl (by kernel_rfl) hc12 (X_of_Y0 rfl (E_move (.c (.sl (k4.map c3))) rfl (by kernel_rfl))) ?_
      refine XL_takeC _ rfl rfl (by kernel_rfl) hc12 (X_of_Y0 rfl (Y0_lenM (c := c3) (xs := k4) Try.underlying47 rfl (by kernel_rfl))) ?_
      refine XL_takeC _ rfl rfl (by kernel_rfl) hc12 (X_of_Y0 rfl (Y0_new (k := .i64) (a := (k4.length : Int)) (b := 8) rfl (by kernel_rfl) (by kernel_rfl))) ?_
      refine XL_cons rfl (X_of_Y0 rfl (Y0_pick0 (b := b11) (p := true) (q := !eqI ((k4.length : Int)) 8) rfl (by kernel_rfl) hc12 (by kernel_rfl))) ?_
      refine XR 1 ?_
      refine XL_split (bif b11 then true else (!eqI ((k4.length : Int)) 8)) (fun hc13 => ?_) (fun hc13 => ?_)
      ·have hb15 := some_inj (of_true hb15 hc13)
       refine XL_skipF _ rfl rfl (by kernel_rfl) hc13 rfl ?_
       refine XL_skipF _ rfl rfl (by kernel_rfl) hc13 rfl ?_
       refine XL_skipF _ rfl rfl (by kernel_rfl) hc13 rfl ?_
       refine XL_cons rfl (X_of_Y0 rfl (Y0_pickTe (b := bif b11 then true else (!eqI ((k4.length : Int)) 8)) (p := true) rfl (by kernel_rfl) hc13 (by kernel_rfl) hb15)) ?_
       exact XE
      ·have hb15 := of_false hb15 hc13
       obtain ⟨y14, hy14, hb15⟩ := of_bind hb15
       have hb15 := some_inj hb15
       refine XL_takeC _ rfl rfl (by kernel_rfl) hc13 (X_of_Y0 rfl (E_move (.c (.sl (k4.map c3))) rfl (by kernel_rfl))) ?_
       refine XL_takeC _ rfl rfl (by kernel_rfl) hc13 (X_of_Y1 rfl (Y1_call (s_impl_areNumbers hy14) cf_impl_areNumbers rfl (by kernel_rfl))) ?_
       refine XL_takeC _ rfl rfl (by kernel_rfl) hc13 (X_of_Y0 rfl (Y0_not (b := y14) rfl (by kernel_rfl))) ?_
       refine XL_cons rfl (X_of_Y0 rfl (Y0_pickFe (b := bif b11 then true else (!eqI ((k4.length : Int)) 8)) (p := !y14) rfl (by kernel_rfl) hc13 (by kernel_rfl) hb15)) ?_
       exact XE
    ·have hb11 := of_false hb11 hc9
     obtain ⟨y10, hy10, hb11⟩ := of_bind hb11
     have hb11 := some_inj hb11
     refine XL_takeC _ rfl rfl (by kernel_rfl) hc9 (X_of_Y0 rfl (E_loadn (cs := [Ti vh3.1, Ti vh3.2.1, Ti vh3.2.2]) [Ti vh3.1, Ti vh3.2.1, Ti vh3.2.2] wd25 rfl (by kernel_rfl) (Nat.le_of_ble_eq_true rfl) (by kernel_rfl))) ?_
     refine XL_takeC _ rfl rfl (by kernel_rfl) hc9 (X_of_Y1 rfl (Y1_call (s_impl_Form_isReduced hy10) cf_impl_Form_isReduced rfl (by kernel_rfl))) ?_
     refine XL_takeC _ rfl rfl (by kernel_rfl) hc9 (X_of_Y0 rfl (Y0_not (b := y10) rfl (by kernel_rfl))) ?_
     refine XL_cons rfl (X_of_Y0 rfl (Y0_pickFe (b := b8) (p := !y10) rfl (by kernel_rfl) hc9 (by kernel_rfl) hb11)) ?_
     refine XR 1 ?_
     refine XL_split b11 (fun hc12 => ?_) (fun hc12 => ?_)
     ·refine XL_skipF _ rfl rfl (by kernel_rfl) hc12 rfl ?_
      refine XL_skipF _ rfl rfl (by kernel_rfl) hc12 rfl ?_
      refine XL_skipF _ rfl rfl (by kernel_rfl) hc12 rfl ?_
      refine XL_cons rfl (X_of_Y0 rfl (Y0_pick1 (b := b11) (p := true) (q := !eqI ((k4.length : Int)) 8) rfl (by kernel_rfl) hc12 (by kernel_rfl))) ?_
      refine XR 1 ?_
      refine XL_split (bif b11 then true else (!eqI ((k4.length : Int)) 8)) (fun hc13 => ?_) (fun hc13 => ?_)
      ·have hb15 := some_inj (of_true hb15 hc13)
       refine XL_skipF _ rfl rfl (by kernel_rfl) hc13 rfl ?_
       refine XL_skipF _ rfl rfl (by kernel_rfl) hc13 rfl ?_
       refine XL_skipF _ rfl rfl (by kernel_rfl) hc13 rfl ?_
       refine XL_cons rfl (X_of_Y0 rfl (Y0_pickTe (b := bif b11 then true else (!eqI ((k4.length : Int)) 8)) (p := true) rfl (by kernel_rfl) hc13 (by kernel_rfl) hb15)) ?_
       exact XE
      ·have hb15 := of_false hb15 hc13
       obtain ⟨y14, hy14, hb15⟩ := of_bind hb15
       have hb15 := some_inj hb15
       refine XL_takeC _ rfl rfl (by kernel_rfl) hc13 (X_of_Y0 rfl (E_move (.c (.sl (k4.map c3))) rfl (by kernel_rfl))) ?_
       refine XL_takeC _ rfl rfl (by kernel_rfl) hc13 (X_of_Y1 rfl (Y1_call (s_impl_areNumbers hy14) cf_impl_areNumbers rfl (by kernel_rfl))) ?_
       refine XL_takeC _ rfl rfl (by kernel_rfl) hc13 (X_of_Y0 rfl (Y0_not (b := y14) rfl (by kernel_rfl))) ?_
       refine XL_cons rfl (X_of_Y0 rfl (Y0_pickFe (b := bif b11 then true else (!eqI ((k4.length : Int)) 8)) (p := !y14) rfl (by kernel_rfl) hc13 (by kernel_rfl) hb15)) ?_
       exact XE
     ·refine XL_takeC _ rfl rfl (by kernel_rfl) hc12 (X_of_Y0 rfl (E_move (.c (.sl (k4.map c3))) rfl (by kernel_rfl))) ?_
      refine XL_takeC _ rfl rfl (by kernel_rfl) hc12 (X_of_Y0 rfl (Y0_lenM (c := c3) (xs := k4) Try.underlying47 rfl (by kernel_rfl))) ?_
      refine XL_takeC _ rfl rfl (by kernel_rfl) hc12 (X_of_Y0 rfl (Y0_new (k := .i64) (a := (k4.length : Int)) (b := 8) rfl (by kernel_rfl) (by kernel_rfl))) ?_
      refine XL_cons rfl (X_of_Y0 rfl (Y0_pick0 (b := b11) (p := true) (q := !eqI ((k4.length : Int)) 8) rfl (by kernel_rfl) hc12 (by kernel_rfl))) ?_
      refine XR 1 ?_
      refine XL_split (bif b11 then true else (!eqI ((k4.length : Int)) 8)) (fun hc13 => ?_) (fun hc13 => ?_)
      ·have hb15 := some_inj (of_true hb15 hc13)
       refine XL_skipF _ rfl rfl (by kernel_rfl) hc13 rfl ?_
       refine XL_skipF _ rfl rfl (by kernel_rfl) hc13 rfl ?_
       refine XL_skipF _ rfl rfl (by kernel_rfl) hc13 rfl ?_
       refine XL_cons rfl (X_of_Y0 rfl (Y0_pickTe (b := bif b11 then true else (!eqI ((k4.length : Int)) 8)) (p := true) rfl (by kernel_rfl) hc13 (by kernel_rfl) hb15)) ?_
       exact XE
      ·have hb15 := of_false hb15 hc13
       obtain ⟨y14, hy14, hb15⟩ := of_bind hb15
       have hb15 := some_inj hb15
       refine XL_takeC _ rfl rfl (by kernel_rfl) hc13 (X_of_Y0 rfl (E_move (.c (.sl (k4.map c3))) rfl (by kernel_rfl))) ?_
       refine XL_takeC _ rfl rfl (by kernel_rfl) hc13 (X_of_Y1 rfl (Y1_call (s_impl_areNumbers hy14) cf_impl_areNumbers rfl (by kernel_rfl))) ?_
       refine XL_takeC _ rfl rfl (by kernel_rfl) hc13 (X_of_Y0 rfl (Y0_not (b := y14) rfl (by kernel_rfl))) ?_
       refine XL_cons rfl (X_of_Y0 rfl (Y0_pickFe (b := bif b11 then true else (!eqI ((k4.length : Int)) 8)) (p := !y14) rfl (by kernel_rfl) hc13 (by kernel_rfl) hb15)) ?_
       exact XE
   ·have hb8 := of_false hb8 hc6
    obtain ⟨y7, hy7, hb8⟩ := of_bind hb8
    have hb8 := some_inj hb8
    refine XL_takeC _ rfl rfl (by kernel_rfl) hc6 (X_of_Y0 rfl (E_loadn (cs := [Ti f1.1, Ti f1.2.1, Ti f1.2.2]) [Ti f1.1, Ti f1.2.1, Ti f1.2.2] wd25 rfl (by kernel_rfl) (Nat.le_of_ble_eq_true rfl) (by kernel_rfl))) ?_
    refine XL_takeC _ rfl rfl (by kernel_rfl) hc6 (X_of_Y0 rfl (E_loadn (cs := [Ti vh3.1, Ti vh3.2.1, Ti vh3.2.2]) [Ti vh3.1, Ti vh3.2.1, Ti vh3.2.2] wd25 rfl (by kernel_rfl) (Nat.le_of_ble_eq_true rfl) (by kernel_rfl))) ?_
    refine XL_takeC _ rfl rfl (by kernel_rfl) hc6 (X_of_Y1 rfl (Y1_call (s_impl_arePair hy7) cf_impl_arePair rfl (by kernel_rfl))) ?_
    refine XL_takeC _ rfl rfl (by kernel_rfl) hc6 (X_of_Y0 rfl (Y0_not (b := y7) rfl (by kernel_rfl))) ?_
    refine XL_cons rfl (X_of_Y0 rfl (Y0_pickFe (b := !y5) (p := !y7) rfl (by kernel_rfl) hc6 (by kernel_rfl) hb8)) ?_
    refine XR 1 ?_
    refine XL_split b8 (fun hc9 => ?_) (fun hc9 => ?_)
    ·have hb11 := some_inj (of_true hb11 hc9)
     refine XL_skipF _ rfl rfl (by kernel_rfl) hc9 rfl ?_
     refine XL_skipF _ rfl rfl (by kernel_rfl) hc9 rfl ?_
     refine XL_skipF _ rfl rfl (by kernel_rfl) hc9 rfl ?_
     refine XL_cons rfl (X_of_Y0 rfl (Y0_pickTe (b := b8) (p := true) rfl (by kernel_rfl) hc9 (by kernel_rfl) hb11)) ?_
     refine XR 1 ?_
     refine XL_split b11 (fun hc12 => ?_) (fun hc12 => ?_)
     ·refine XL_skipF _ rfl rfl (by kernel_rfl) hc12 rfl ?_
      refine XL_skipF _ rfl rfl (by kernel_rfl) hc12 rfl ?_
      refine XL_skipF _ rfl rfl (by kernel_rfl) hc12 rfl ?_
      refine XL_cons rfl (X_of_Y0 rfl (Y0_pick1 (b := b11) (p := true) (q := !eqI ((k4.length : Int)) 8) rfl (by kernel_rfl) hc12 (by kernel_rfl))) ?_
      refine XR 1 ?_
      refine XL_split (bif b11 then true else (!eqI ((k4.length : Int)) 8)) (fun hc13 => ?_) (fun hc13 => ?_)
      ·have hb15 := some_inj (of_true hb15 hc13)
       refine XL_skipF _ rfl rfl (by kernel_rfl) hc13 rfl ?_
       refine XL_skipF _ rfl rfl (by kernel_rfl) hc13 rfl ?_
       refine XL_skipF _ rfl rfl (by kernel_rfl) hc13 rfl ?_
       refine XL_cons rfl (X_of_Y0 rfl (Y0_pickTe (b := bif b11 then true else (!eqI ((k4.length : Int)) 8)) (p := true) rfl (by kernel_rfl) hc13 (by kernel_rfl) hb15)) ?_
       exact XE
      ·have hb15 := of_false hb15 hc13
       obtain ⟨y14, hy14, hb15⟩ := of_bind hb15
       have hb15 := some_inj hb15
       refine XL_takeC _ rfl rfl (by kernel_rfl) hc13 (X_of_Y0 rfl (E_move (.c (.sl (k4.map c3))) rfl (by kernel_rfl))) ?_
       refine XL_takeC _ rfl rfl (by kernel_rfl) hc13 (X_of_Y1 rfl (Y1_call (s_impl_areNumbers hy14) cf_impl_areNumbers rfl (by kernel_rfl))) ?_
       refine XL_takeC _ rfl rfl (by kernel_rfl) hc13 (X_of_Y0 rfl (Y0_not (b := y14) rfl (by kernel_rfl))) ?_
       refine XL_cons rfl (X_of_Y0 rfl (Y0_pickFe (b := bif b11 then true else (!eqI ((k4.length : Int)) 8)) (p := !y14) rfl (by kernel_rfl) hc13 (by kernel_rfl) hb15)) ?_
       exact XE
     ·refine XL_takeC _ rfl rfl (by kernel_rfl) hc12 (X_of_Y0 rfl (E_move (.c (.sl (k4.map c3))) rfl (by kernel_rfl))) ?_
      refine XL_takeC _ rfl rfl (by kernel_rfl) hc12 (X_of_Y0 rfl (Y0_lenM (c := c3) (xs := k4) Try.underlying47 rfl (by kernel_rfl))) ?_
      refine XL_takeC _ rfl rfl (by kernel_rfl) hc12 (X_of_Y0 rfl (Y0_new (k := .i64) (a := (k4.length : Int)) (b := 8) rfl (by kernel_rfl) (by kernel_rfl))) ?_
      refine XL_cons rfl (X_of_Y0 rfl (Y0_pick0 (b := b11) (p := true) (q := !eqI ((k4.length : Int)) 8) rfl (by kernel_rfl) hc12 (by kernel_rfl))) ?_
      refine XR 1 ?_
      refine XL_split (bif b11 then true else (!eqI ((k4.length : Int)) 8)) (fun hc13 => ?_) (fun hc13 => ?_)
      ·have hb15 := some_inj (of_true hb15 hc13)
       refine XL_skipF _ rfl rfl (by kernel_rfl) hc13 rfl ?_
       refine XL_skipF _ rfl rfl (by kernel_rfl) hc13 rfl ?_
       refine XL_skipF _ rfl rfl (by kernel_rfl) hc13 rfl ?_
       refine XL_cons rfl (X_of_Y0 rfl (Y0_pickTe (b := bif b11 then true else (!eqI ((k4.length : Int)) 8)) (p := true) rfl (by kernel_rfl) hc13 (by kernel_rfl) hb15)) ?_
       exact XE
      ·have hb15 := of_false hb15 hc13
       obtain ⟨y14, hy14, hb15⟩ := of_bind hb15
       have hb15 := some_inj hb15
       refine XL_takeC _ rfl rfl (by kernel_rfl) hc13 (X_of_Y0 rfl (E_move (.c (.sl (k4.map c3))) rfl (by kernel_rfl))) ?_
       refine XL_takeC _ rfl rfl (by kernel_rfl) hc13 (X_of_Y1 rfl (Y1_call (s_impl_areNumbers hy14) cf_impl_areNumbers rfl (by kernel_rfl))) ?_
       refine XL_takeC _ rfl rfl (by kernel_rfl) hc13 (X_of_Y0 rfl (Y0_not (b := y14) rfl (by kernel_rfl))) ?_
       refine XL_cons rfl (X_of_Y0 rfl (Y0_pickFe (b := bif b11 then true else (!eqI ((k4.length : Int)) 8)) (p := !y14) rfl (by kernel_rfl) hc13 (by kernel_rfl) hb15)) ?_
       exact XE
    ·have hb11 := of_false hb11 hc9
     obtain ⟨y10, hy10, hb11⟩ := of_bind hb11
     have hb11 := some_inj hb11
     refine XL_takeC _ rfl rfl (by kernel_rfl) hc9 (X_of_Y0 rfl (E_loadn (cs := [Ti vh3.1, Ti vh3.2.1, Ti vh3.2.2]) [Ti vh3.1, Ti vh3.2.1, Ti vh3.2.2] wd25 rfl (by kernel_rfl) (Nat.le_of_ble_eq_true rfl) (by kernel_rfl))) ?_
     refine XL_takeC _ rfl rfl (by kernel_rfl) hc9 (X_of_Y1 rfl (Y1_call (s_impl_Form_isReduced hy10) cf_impl_Form_isReduced rfl (by kernel_rfl))) ?_
     refine XL_takeC _ rfl rfl (by kernel_rfl) hc9 (X_of_Y0 rfl (Y0_not (b := y10) rfl (by kernel_rfl))) ?_
     refine XL_cons rfl (X_of_Y0 rfl (Y0_pickFe (b := b8) (p := !y10) rfl (by kernel_rfl) hc9 (by kernel_rfl) hb11)) ?_
     refine XR 1 ?_
     refine XL_split b11 (fun hc12 => ?_) (fun hc12 => ?_)
     ·refine XL_skipF _ rfl rfl (by kernel_rfl) hc12 rfl ?_
      refine XL_skipF _ rfl rfl (by kernel_rfl) hc12 rfl ?_
      refine XL_skipF _ rfl rfl (by kernel_rfl) hc12 rfl ?_
      refine XL_cons rfl (X_of_Y0 rfl (Y0_pick1 (b := b11) (p := true) (q := !eqI ((k4.length : Int)) 8) rfl (by kernel_rfl) hc12 (by kernel_rfl))) ?_
      refine XR 1 ?_
      refine XL_split (bif b11 then true else (!eqI ((k4.length : Int)) 8)) (fun hc13 => ?_) (fun hc13 => ?_)
      ·have hb15 := some_inj (of_true hb15 hc13)
       refine XL_skipF _ rfl rfl (by kernel_rfl) hc13 rfl ?_
       refine XL_skipF _ rfl rfl (by kernel_rfl) hc13 rfl ?_
       refine XL_skipF _ rfl rfl (by kernel_rfl) hc13 rfl ?_
       refine XL_cons rfl (X_of_Y0 rfl (Y0_pickTe (b := bif b11 then true else (!eqI ((k4.length : Int)) 8)) (p := true) rfl (by kernel_rfl) hc13 (by kernel_rfl) hb15)) ?_
       exact XE
      ·have hb15 := of_false hb15 hc13
       obtain ⟨y14, hy14, hb15⟩ := of_bind hb15
       have hb15 := some_inj hb15
       refine XL_takeC _ rfl rfl (by kernel_rfl) hc13 (X_of_Y0 rfl (E_move (.c (.sl (k4.map c3))) rfl (by kernel_rfl))) ?_
       refine XL_takeC _ rfl rfl (by kernel_rfl) hc13 (X_of_Y1 rfl (Y1_call (s_impl_areNumbers hy14) cf_impl_areNumbers rfl (by kernel_rfl))) ?_
       refine XL_takeC _ rfl rfl (by kernel_rfl) hc13 (X_of_Y0 rfl (Y0_not (b := y14) rfl (by kernel_rfl))) ?_
       refine XL_cons rfl (X_of_Y0 rfl (Y0_pickFe (b := bif b11 then true else (!eqI ((k4.length : Int)) 8)) (p := !y14) rfl (by kernel_rfl) hc13 (by kernel_rfl) hb15)) ?_
       exact XE
     ·refine XL_takeC _ rfl rfl (by kernel_rfl) hc12 (X_of_Y0 rfl (E_move (.c (.sl (k4.map c3))) rfl (by kernel_rfl))) ?_
      refine XL_takeC _ rfl rfl (by kernel_rfl) hc12 (X_of_Y0 rfl (Y0_lenM (c := c3) (xs := k4) Try.underlying47 rfl (by kernel_rfl))) ?_
      refine XL_takeC _ rfl rfl (by kernel_rfl) hc12 (X_of_Y0 rfl (Y0_new (k := .i64) (a := (k4.length : Int)) (b := 8) rfl (by kernel_rfl) (by kernel_rfl))) ?_
      refine XL_cons rfl (X_of_Y0 rfl (Y0_pick0 (b := b11) (p := true) (q := !eqI ((k4.length : Int)) 8) rfl (by kernel_rfl) hc12 (by kernel_rfl))) ?_
      refine XR 1 ?_
      refine XL_split (bif b11 then true else (!eqI ((k4.length : Int)) 8)) (fun hc13 => ?_) (fun hc13 => ?_)
      ·have hb15 := some_inj (of_true hb15 hc13)
       refine XL_skipF _ rfl rfl (by kernel_rfl) hc13 rfl ?_
       refine XL_skipF _ rfl rfl (by kernel_rfl) hc13 rfl ?_
       refine XL_skipF _ rfl rfl (by kernel_rfl) hc13 rfl ?_
       refine XL_cons rfl (X_of_Y0 rfl (Y0_pickTe (b := bif b11 then true else (!eqI ((k4.length : Int)) 8)) (p := true) rfl (by kernel_rfl) hc13 (by kernel_rfl) hb15)) ?_
       exact XE
      ·have hb15 := of_false hb15 hc13
       obtain ⟨y14, hy14, hb15⟩ := of_bind hb15
       have hb15 := some_inj hb15
       refine XL_takeC _ rfl rfl (by kernel_rfl) hc13 (X_of_Y0 rfl (E_move (.c (.sl (k4.map c3))) rfl (by kernel_rfl))) ?_
       refine XL_takeC _ rfl rfl (by kernel_rfl) hc13 (X_of_Y1 rfl (Y1_call (s_impl_areNumbers hy14) cf_impl_areNumbers rfl (by kernel_rfl))) ?_
       refine XL_takeC _ rfl rfl (by kernel_rfl) hc13 (X_of_Y0 rfl (Y0_not (b := y14) rfl (by kernel_rfl))) ?_
       refine XL_cons rfl (X_of_Y0 rfl (Y0_pickFe (b := bif b11 then true else (!eqI ((k4.length : Int)) 8)) (p := !y14) rfl (by kernel_rfl) hc13 (by kernel_rfl) hb15)) ?_
       exact XE
  refine V_cond rfl (fun hc16 => ?_) (fun hc16 => ?_)
  ·have h := of_true h hc16
   refine V_e (mb 117 768) [] (s1 := ⟨bt 8 (Bo false :: Bo false :: bt 107 []), []⟩) ?_
   refine V_ret ?_
   obtain rfl := some_inj h
   show Post _ _ _ _ _
   exact ⟨.inr rfl, rfl, rfl, rfl⟩
  ·have h := of_false h hc16
   refine V_skip ?_
   show V _ _ _ _
   obtain ⟨u17, hu17, h⟩ := of_bind h
   obtain ⟨e18, he18, h⟩ := of_bind h
   obtain ⟨e19, he19, h⟩ := of_bind h
   obtain ⟨e20, he20, h⟩ := of_bind h
   obtain ⟨e21, he21, h⟩ := of_bind h
   obtain ⟨u22, hu22, h⟩ := of_bind h
   obtain ⟨e23, he23, h⟩ := of_bind h
   obtain ⟨e24, he24, h⟩ := of_bind h
   obtain ⟨e25, he25, h⟩ := of_bind h
   obtain ⟨e26, he26, h⟩ := of_bind h
   refine V_sdreg [0, 1, 3, 7, 0, 16, 48, 112, 0, 0, 783, 2047] 11 [[.z, .z, .z, .z, .b, .b, .b, .b, .b, .b, .z], [.a, .z, .z, .z, .b, .b, .b, .b, .b, .b, .z], [.a, .a, .z, .z, .b, .b, .b, .b, .b, .b, .z], [.a, .a, .a, .z, .b, .b, .b, .b, .b, .b, .z], [.b, .b, .b, .b, .z, .z, .z, .z, .b, .b, .r 80], [.b, .b, .b, .b, .a, .z, .z, .z, .b, .b, .r 80], [.b, .b, .b, .b, .a, .a, .z, .z, .b, .b, .r 80], [.b, .b, .b, .b, .a, .a, .a, .z, .b, .b, .r 80], [.b, .b, .b, .b, .b, .b, .b, .b, .z, .b, .z], [.b, .b, .b, .b, .b, .b, .b, .b, .b, .z, .z], [.a, .a, .a, .a, .b, .b, .b, .b, .a, .a, .z]] (mb 117 3184) [88, 80, 48, 40, 32] (s1 := ⟨bt 4 (.pt 32 0 :: .pt 40 0 :: .pt 48 0 :: bt 3 (.pt 80 0 :: .pt 88 0 :: bt 105 [])), [(88, .box [Ti e23, Ti e24, Ti e25, Ti e26]), (80, .box [Ti e18, Ti e19, Ti e20, Ti e21]), (48, .box [Ti vh3.1, Ti vh3.2.1, Ti vh3.2.2]), (40, .box [Ti g2.1, Ti g2.2.1, Ti g2.2.2]), (32, .box [Ti f1.1, Ti f1.2.1, Ti f1.2.2])]⟩) (by kernel_rfl) (by kernel_rfl) ?_ ?_
   ·refine DR 1 ?_
    refine DE_0 1 (.c (.sl ((subl k4 0 4).map c3))) (by kernel_rfl) rfl rfl rfl (gsat_none rfl) (by kernel_rfl) (Y0_slice (c := c3) (xs := k4) (l := 0) (h := 4) Try.underlying47 sz3 (fun _ => rfl) rfl (by kernel_rfl) (fun y hy => by cases hy) (fun _ => rfl) (fun y hy => by cases hy; exact ⟨.i64, (by kernel_rfl)⟩) (fun hh => by cases hh) (slc_some hu17)) 45 rfl ?_
    refine DE_0 2 (.pe [Ti e18, Ti e19, Ti e20, Ti e21]) (by kernel_rfl) rfl rfl rfl (gsat_none rfl) (by kernel_rfl) (Y0_s2ap (c := c3) (xs := subl k4 0 4) (ys := [e18, e19, e20, e21]) Try.underlying95 (by decide) (fun _ => rfl) rfl (by kernel_rfl) (tk_cons 0 3 he18 rfl (tk_cons 1 2 he19 rfl (tk_cons 2 1 he20 rfl (tk_cons 3 0 he21 rfl tk_nil)))) rfl) 46 rfl ?_
    refine DR 2 ?_
    refine DE_0 5 (.c (.sl ((subl k4 4 ((k4.length : Int))).map c3))) (by kernel_rfl) rfl rfl rfl (gsat_none rfl) (by kernel_rfl) (Y0_slice (c := c3) (xs := k4) (l := 4) (h := (k4.length : Int)) Try.underlying47 sz3 (fun _ => rfl) rfl (by kernel_rfl) (fun y hy => by cases hy; exact ⟨.i64, (by kernel_rfl)⟩) (fun hh => by cases hh) (fun y hy => by cases hy) (fun _ => rfl) (slc_some hu22)) 49 rfl ?_
    refine DE_0 6 (.pe [Ti e23, Ti e24, Ti e25, Ti e26]) (by kernel_rfl) rfl rfl rfl (gsat_none rfl) (by kernel_rfl) (Y0_s2ap (c := c3) (xs := subl k4 4 ((k4.length : Int))) (ys := [e23, e24, e25, e26]) Try.underlying95 (by decide) (fun _ => rfl) rfl (by kernel_rfl) (tk_cons 0 3 he23 rfl (tk_cons 1 2 he24 rfl (tk_cons 2 1 he25 rfl (tk_cons 3 0 he26 rfl tk_nil)))) rfl) 50 rfl ?_
    refine DA 4 ?_
    exact XE
   obtain ⟨y27, hy27, h⟩ := of_bind h
   obtain ⟨y28, hy28, h⟩ := of_bind h
   obtain ⟨y29, hy29, h⟩ := of_bind h
   refine V_sdreg [0, 0, 3, 0, 0, 31, 0, 0, 255, 0, 0, 0, 4095, 8191, 16383] 12 (cdm 12 [11051656, 11051650, 11051653, 11051562, 11051178, 11051349, 11045546, 11020970, 11031893, 10660522, 9087658, 2796202]) (mb 117 28784) [112, 104, 96, 48, 40, 32] (s1 := ⟨bt 4 (.pt 32 0 :: .pt 40 0 :: .pt 48 0 :: bt 5 (.pt 96 0 :: .pt 104 0 :: .pt 112 0 :: bt 102 [])), [(112, .box [Ti y29.1.1, Ti y29.1.2.1, Ti y29.1.2.2, Ti y29.2.1.1, Ti y29.2.1.2.1, Ti y29.2.1.2.2, Ti y29.2.2.1, Ti y29.2.2.2.1, Ti y29.2.2.2.2]), (104, .box [Ti y28.1.1, Ti y28.1.2.1, Ti y28.1.2.2, Ti y28.2.1.1, Ti y28.2.1.2.1, Ti y28.2.1.2.2, Ti y28.2.2.1, Ti y28.2.2.2.1, Ti y28.2.2.2.2]), (96, .box [Ti y27.1.1, Ti y27.1.2.1, Ti y27.1.2.2, Ti y27.2.1.1, Ti y27.2.1.2.1, Ti y27.2.1.2.2, Ti y27.2.2.1, Ti y27.2.2.2.1, Ti y27.2.2.2.2]), (48, .box [Ti vh3.1, Ti vh3.2.1, Ti vh3.2.2]), (40, .box [Ti g2.1, Ti g2.2.1, Ti g2.2.2]), (32, .box [Ti f1.1, Ti f1.2.1, Ti f1.2.2])]⟩) (by kernel_rfl) (by kernel_rfl) ?_ ?_
   ·refine DR 2 ?_
    refine DC 2 (s_impl_squareOf hy27) cf_impl_squareOf rfl rfl rfl rfl 54 rfl ?_
    refine DR 2 ?_
    refine DC 5 (s_impl_squareOf hy28) cf_impl_squareOf rfl rfl rfl rfl 57 rfl ?_
    refine DR 2 ?_
    refine DC 8 (s_impl_squareOf hy29) cf_impl_squareOf rfl rfl rfl rfl 60 rfl ?_
    refine DA 3 ?_
    exact XE
   refine V_sdreg [0, 1, 0, 4, 0, 16, 63, 0, 128, 0, 512, 0, 2048, 8064, 0, 0, 49279, 131071] 17 [[.z, .z, .b, .b, .b, .b, .z, .b, .b, .b, .b, .b, .b, .b, .b, .b, .z], [.a, .z, .b, .b, .b, .b, .z, .b, .b, .b, .b, .b, .b, .b, .b, .b, .z], [.b, .b, .z, .z, .b, .b, .z, .b, .b, .b, .b, .b, .b, .b, .b, .b, .z], [.b, .b, .a, .z, .b, .b, .z, .b, .b, .b, .b, .b, .b, .b, .b, .b, .z], [.b, .b, .b, .b, .z, .z, .z, .b, .b, .b, .b, .b, .b, .b, .b, .b, .z], [.b, .b, .b, .b, .a, .z, .z, .b, .b, .b, .b, .b, .b, .b, .b, .b, .z], [.a, .a, .a, .a, .a, .a, .z, .b, .b, .b, .b, .b, .b, .b, .b, .b, .z], [.b, .b, .b, .b, .b, .b, .b, .z, .z, .b, .b, .b, .b, .z, .b, .b, .r 120], [.b, .b, .b, .b, .b, .b, .b, .a, .z, .b, .b, .b, .b, .z, .b, .b, .r 120], [.b, .b, .b, .b, .b, .b, .b, .b, .b, .z, .z, .b, .b, .z, .b, .b, .r 120], [.b, .b, .b, .b, .b, .b, .b, .b, .b, .a, .z, .b, .b, .z, .b, .b, .r 120], [.b, .b, .b, .b, .b, .b, .b, .b, .b, .b, .b, .z, .z, .z, .b, .b, .r 120], [.b, .b, .b, .b, .b, .b, .b, .b, .b, .b, .b, .a, .z, .z, .b, .b, .r 120], [.b, .b, .b, .b, .b, .b, .b, .a, .a, .a, .a, .a, .a, .z, .b, .b, .r 120], [.b, .b, .b, .b, .b, .b, .b, .b, .b, .b, .b, .b, .b, .b, .z, .b, .z], [.b, .b, .b, .b, .b, .b, .b, .b, .b, .b, .b, .b, .b, .b, .b, .z, .z], [.a, .a, .a, .a, .a, .a, .a, .b, .b, .b, .b, .b, .b, .b, .a, .a, .z]] (mb 117 127040) [128, 120, 112, 104, 96, 48] (s1 := ⟨bt 6 (.pt 48 0 :: bt 5 (.pt 96 0 :: .pt 104 0 :: .pt 112 0 :: .pt 120 0 :: .pt 128 0 :: bt 100 [])), [(128, .box [Ti g2.1, Ti g2.2.1, Ti g2.2.2]), (120, .box [Ti f1.1, Ti f1.2.1, Ti f1.2.2]), (112, .box [Ti y29.1.1, Ti y29.1.2.1, Ti y29.1.2.2, Ti y29.2.1.1, Ti y29.2.1.2.1, Ti y29.2.1.2.2, Ti y29.2.2.1, Ti y29.2.2.2.1, Ti y29.2.2.2.2]), (104, .box [Ti y28.1.1, Ti y28.1.2.1, Ti y28.1.2.2, Ti y28.2.1.1, Ti y28.2.1.2.1, Ti y28.2.1.2.2, Ti y28.2.2.1, Ti y28.2.2.2.1, Ti y28.2.2.2.2]), (96, .box [Ti y27.1.1, Ti y27.1.2.1, Ti y27.1.2.2, Ti y27.2.1.1, Ti y27.2.1.2.1, Ti y27.2.1.2.2, Ti y27.2.2.1, Ti y27.2.2.2.1, Ti y27.2.2.2.2]), (48, .box [Ti vh3.1, Ti vh3.2.1, Ti vh3.2.2])]⟩) (by kernel_rfl) (by kernel_rfl) ?_ ?_
   ·refine DR 6 ?_
    refine DE_0 6 (.ag [Ti f1.1, Ti f1.2.1, Ti f1.2.2]) (by kernel_rfl) rfl rfl rfl (gsat_none rfl) (by kernel_rfl) (Y0_build (cs := [Ti f1.1, Ti f1.2.1, Ti f1.2.2]) pl102 bt102 rfl rfl (by kernel_rfl)) 67 rfl ?_
    refine DR 6 ?_
    refine DE_0 13 (.ag [Ti g2.1, Ti g2.2.1, Ti g2.2.2]) (by kernel_rfl) rfl rfl rfl (gsat_none rfl) (by kernel_rfl) (Y0_build (cs := [Ti g2.1, Ti g2.2.1, Ti g2.2.2]) pl102 bt102 rfl rfl (by kernel_rfl)) 74 rfl ?_
    refine DA 3 ?_
    exact XE
   refine V_seq ?_
   refine V_e (mb 117 37778931862957161836608) [128, 120, 112, 104, 96, 48] (s1 := ⟨bt 6 (.pt 48 0 :: bt 5 (.pt 96 0 :: .pt 104 0 :: .pt 112 0 :: .pt 120 0 :: .pt 128 0 :: bt 58 (I 0 :: bt 41 []))), [(128, .box [Ti g2.1, Ti g2.2.1, Ti g2.2.2]), (120, .box [Ti f1.1, Ti f1.2.1, Ti f1.2.2]), (112, .box [Ti y29.1.1, Ti y29.1.2.1, Ti y29.1.2.2, Ti y29.2.1.1, Ti y29.2.1.2.1, Ti y29.2.1.2.2, Ti y29.2.2.1, Ti y29.2.2.2.1, Ti y29.2.2.2.2]), (104, .box [Ti y28.1.1, Ti y28.1.2.1, Ti y28.1.2.2, Ti y28.2.1.1, Ti y28.2.1.2.1, Ti y28.2.1.2.2, Ti y28.2.2.1, Ti y28.2.2.2.1, Ti y28.2.2.2.2]), (96, .box [Ti y27.1.1, Ti y27.1.2.1, Ti y27.1.2.2, Ti y27.2.1.1, Ti y27.2.1.2.1, Ti y27.2.1.2.2, Ti y27.2.2.1, Ti y27.2.2.2.1, Ti y27.2.2.2.2]), (48, .box [Ti vh3.1, Ti vh3.2.1, Ti vh3.2.2])]⟩) ?_
   refine V_block (V_unroll 40 ?_)
   refine VR_s (n := 39) ?_
   refine V_keep (mb 117 37778931862957161836608) [128, 120, 112, 104, 96, 48] (s' := ⟨bt 6 (.pt 48 0 :: bt 5 (.pt 96 0 :: .pt 104 0 :: .pt 112 0 :: .pt 120 0 :: .pt 128 0 :: bt 58 (I 0 :: bt 41 []))), [(128, .box [Ti g2.1, Ti g2.2.1, Ti g2.2.2]), (120, .box [Ti f1.1, Ti f1.2.1, Ti f1.2.2]), (112, .box [Ti y29.1.1, Ti y29.1.2.1, Ti y29.1.2.2, Ti y29.2.1.1, Ti y29.2.1.2.1, Ti y29.2.1.2.2, Ti y29.2.2.1, Ti y29.2.2.2.1, Ti y29.2.2.2.2]), (104, .box [Ti y28.1.1, Ti y28.1.2.1, Ti y28.1.2.2, Ti y28.2.1.1, Ti y28.2.1.2.1, Ti y28.2.1.2.2, Ti y28.2.2.1, Ti y28.2.2.2.1, Ti y28.2.2.2.2]), (96, .box [Ti y27.1.1, Ti y27.1.2.1, Ti y27.1.2.2, Ti y27.2.1.1, Ti y27.2.1.2.1, Ti y27.2.1.2.2, Ti y27.2.2.1, Ti y27.2.2.2.1, Ti y27.2.2.2.2]), (48, .box [Ti vh3.1, Ti vh3.2.1, Ti vh3.2.2])]⟩) (by kernel_rfl) ?_
   refine V_e (mb 117 113336795588871485255744) [128, 120, 112, 104, 96, 48] (s1 := ⟨bt 6 (.pt 48 0 :: bt 5 (.pt 96 0 :: .pt 104 0 :: .pt 112 0 :: .pt 120 0 :: .pt 128 0 :: bt 58 (I 0 :: Bo true :: bt 40 []))), [(128, .box [Ti g2.1, Ti g2.2.1, Ti g2.2.2]), (120, .box [Ti f1.1, Ti f1.2.1, Ti f1.2.2]), (112, .box [Ti y29.1.1, Ti y29.1.2.1, Ti y29.1.2.2, Ti y29.2.1.1, Ti y29.2.1.2.1, Ti y29.2.1.2.2, Ti y29.2.2.1, Ti y29.2.2.2.1, Ti y29.2.2.2.2]), (104, .box [Ti y28.1.1, Ti y28.1.2.1, Ti y28.1.2.2, Ti y28.2.1.1, Ti y28.2.1.2.1, Ti y28.2.1.2.2, Ti y28.2.2.1, Ti y28.2.2.2.1, Ti y28.2.2.2.2]), (96, .box [Ti y27.1.1, Ti y27.1.2.1, Ti y27.1.2.2, Ti y27.2.1.1, Ti y27.2.1.2.1, Ti y27.2.1.2.2, Ti y27.2.2.1, Ti y27.2.2.2.1, Ti y27.2.2.2.2]), (48, .box [Ti vh3.1, Ti vh3.2.1, Ti vh3.2.2])]⟩) ?_
   refine V_seq ?_
   refine V_cond_true rfl ?_
   refine V_skip ?_
   show V _ _ _ _
   refine V_seq ?_
   refine V_block ?_
   refine V_e (mb 117 37778931862957161967680) [128, 120, 112, 104, 96, 48] (s1 := ⟨bt 6 (.pt 48 0 :: bt 5 (.pt 96 0 :: .pt 104 0 :: .pt 112 0 :: .pt 120 0 :: .pt 128 0 :: I 0 :: bt 57 (I 0 :: bt 41 []))), [(128, .box [Ti g2.1, Ti g2.2.1, Ti g2.2.2]), (120, .box [Ti f1.1, Ti f1.2.1, Ti f1.2.2]), (112, .box [Ti y29.1.1, Ti y29.1.2.1, Ti y29.1.2.2, Ti y29.2.1.1, Ti y29.2.1.2.1, Ti y29.2.1.2.2, Ti y29.2.2.1, Ti y29.2.2.2.1, Ti y29.2.2.2.2]), (104, .box [Ti y28.1.1, Ti y28.1.2.1, Ti y28.1.2.2, Ti y28.2.1.1, Ti y28.2.1.2.1, Ti y28.2.1.2.2, Ti y28.2.2.1, Ti y28.2.2.2.1, Ti y28.2.2.2.2]), (96, .box [Ti y27.1.1, Ti y27.1.2.1, Ti y27.1.2.2, Ti y27.2.1.1, Ti y27.2.1.2.1, Ti y27.2.1.2.2, Ti y27.2.2.1, Ti y27.2.2.2.1, Ti y27.2.2.2.2]), (48, .box [Ti vh3.1, Ti vh3.2.1, Ti vh3.2.2])]⟩) ?_
   refine V_e (mb 117 340010386766614455644224) [128, 120, 112, 104, 96, 48] (s1 := ⟨bt 6 (.pt 48 0 :: bt 5 (.pt 96 0 :: .pt 104 0 :: .pt 112 0 :: .pt 120 0 :: .pt 128 0 :: I 0 :: bt 57 (I 0 :: .bot :: .bot :: I 0 :: bt 38 []))), [(128, .box [Ti g2.1, Ti g2.2.1, Ti g2.2.2]), (120, .box [Ti f1.1, Ti f1.2.1, Ti f1.2.2]), (112, .box [Ti y29.1.1, Ti y29.1.2.1, Ti y29.1.2.2, Ti y29.2.1.1, Ti y29.2.1.2.1, Ti y29.2.1.2.2, Ti y29.2.2.1, Ti y29.2.2.2.1, Ti y29.2.2.2.2]), (104, .box [Ti y28.1.1, Ti y28.1.2.1, Ti y28.1.2.2, Ti y28.2.1.1, Ti y28.2.1.2.1, Ti y28.2.1.2.2, Ti y28.2.2.1, Ti y28.2.2.2.1, Ti y28.2.2.2.2]), (96, .box [Ti y27.1.1, Ti y27.1.2.1, Ti y27.1.2.2, Ti y27.2.1.1, Ti y27.2.1.2.1, Ti y27.2.1.2.2, Ti y27.2.2.1, Ti y27.2.2.2.1, Ti y27.2.2.2.2]), (48, .box [Ti vh3.1, Ti vh3.2.1, Ti vh3.2.2])]⟩) ?_
   refine V_block (V_unroll 40 ?_)
   refine VR_s (n := 39) ?_
   refine V_keep (mb 117 340010386766614455644224) [128, 120, 112, 104, 96, 48] (s' := ⟨bt 6 (.pt 48 0 :: bt 5 (.pt 96 0 :: .pt 104 0 :: .pt 112 0 :: .pt 120 0 :: .pt 128 0 :: I 0 :: bt 57 (I 0 :: .bot :: .bot :: I 0 :: bt 38 []))), [(128, .box [Ti g2.1, Ti g2.2.1, Ti g2.2.2]), (120, .box [Ti f1.1, Ti f1.2.1, Ti f1.2.2]), (112, .box [Ti y29.1.1, Ti y29.1.2.1, Ti y29.1.2.2, Ti y29.2.1.1, Ti y29.2.1.2.1, Ti y29.2.1.2.2, Ti y29.2.2.1, Ti y29.2.2.2.1, Ti y29.2.2.2.2]), (104, .box [Ti y28.1.1, Ti y28.1.2.1, Ti y28.1.2.2, Ti y28.2.1.1, Ti y28.2.1.2.1, Ti y28.2.1.2.2, Ti y28.2.2.1, Ti y28.2.2.2.1, Ti y28.2.2.2.2]), (96, .box [Ti y27.1.1, Ti y27.1.2.1, Ti y27.1.2.2, Ti y27.2.1.1, Ti y27.2.1.2.1, Ti y27.2.1.2.2, Ti y27.2.2.1, Ti y27.2.2.2.1, Ti y27.2.2.2.2]), (48, .box [Ti vh3.1, Ti vh3.2.1, Ti vh3.2.2])]⟩) (by kernel_rfl) ?_
   refine V_e (mb 117 944473296573929042997312) [128, 120, 112, 104, 96, 48] (s1 := ⟨bt 6 (.pt 48 0 :: bt 5 (.pt 96 0 :: .pt 104 0 :: .pt 112 0 :: .pt 120 0 :: .pt 128 0 :: I 0 :: bt 57 (I 0 :: .bot :: .bot :: I 0 :: Bo true :: bt 37 []))), [(128, .box [Ti g2.1, Ti g2.2.1, Ti g2.2.2]), (120, .box [Ti f1.1, Ti f1.2.1, Ti f1.2.2]), (112, .box [Ti y29.1.1, Ti y29.1.2.1, Ti y29.1.2.2, Ti y29.2.1.1, Ti y29.2.1.2.1, Ti y29.2.1.2.2, Ti y29.2.2.1, Ti y29.2.2.2.1, Ti y29.2.2.2.2]), (104, .box [Ti y28.1.1, Ti y28.1.2.1, Ti y28.1.2.2, Ti y28.2.1.1, Ti y28.2.1.2.1, Ti y28.2.1.2.2, Ti y28.2.2.1, Ti y28.2.2.2.1, Ti y28.2.2.2.2]), (96, .box [Ti y27.1.1, Ti y27.1.2.1, Ti y27.1.2.2, Ti y27.2.1.1, Ti y27.2.1.2.1, Ti y27.2.1.2.2, Ti y27.2.2.1, Ti y27.2.2.2.1, Ti y27.2.2.2.2]), (48, .box [Ti vh3.1, Ti vh3.2.1, Ti vh3.2.2])]⟩) ?_
   refine V_seq ?_
   refine V_cond_true rfl ?_
   refine V_skip ?_
   show V _ _ _ _
   refine V_seq ?_
   refine V_block ?_
   refine V_e (mb 117 340010386766614455906368) [128, 120, 112, 104, 96, 48] (s1 := ⟨bt 6 (.pt 48 0 :: bt 5 (.pt 96 0 :: .pt 104 0 :: .pt 112 0 :: .pt 120 0 :: .pt 128 0 :: I 0 :: I 0 :: bt 56 (I 0 :: .bot :: .bot :: I 0 :: bt 38 []))), [(128, .box [Ti g2.1, Ti g2.2.1, Ti g2.2.2]), (120, .box [Ti f1.1, Ti f1.2.1, Ti f1.2.2]), (112, .box [Ti y29.1.1, Ti y29.1.2.1, Ti y29.1.2.2, Ti y29.2.1.1, Ti y29.2.1.2.1, Ti y29.2.1.2.2, Ti y29.2.2.1, Ti y29.2.2.2.1, Ti y29.2.2.2.2]), (104, .box [Ti y28.1.1, Ti y28.1.2.1, Ti y28.1.2.2, Ti y28.2.1.1, Ti y28.2.1.2.1, Ti y28.2.1.2.2, Ti y28.2.2.1, Ti y28.2.2.2.1, Ti y28.2.2.2.2]), (96, .box [Ti y27.1.1, Ti y27.1.2.1, Ti y27.1.2.2, Ti y27.2.1.1, Ti y27.2.1.2.1, Ti y27.2.1.2.2, Ti y27.2.2.1, Ti y27.2.2.2.1, Ti y27.2.2.2.2]), (48, .box [Ti vh3.1, Ti vh3.2.1, Ti vh3.2.2])]⟩) ?_
   obtain ⟨t32, ht32, h⟩ := of_bind h
   have ht32 := some_inj ht32
   refine V_sdreg [0, 1, 0, 0, 4, 28, 60, 127, 0, 256, 0, 0, 1024, 7168, 15360, 32512, 65535, 0, 131072, 0, 0, 524288, 3670016, 7864320, 16646144, 33554431, 0, 67108864, 201326592, 0, 536870912, 1610612736, 4227858432, 8589934591] 34 (cdm 34 [49189065721488485024, 49189065721488485025, 49189065721488474250, 49189065721488474666, 49189065721488474266, 49189065721488474458, 49189065721488475482, 49189065721488479573, 49189065719340378794, 49189065719340444330, 49189065718634293930, 49189065718661556906, 49189065718635342506, 49189065718647925418, 49189065718715034282, 49189065718983142058, 49189065720056862037, 49188502608326339242, 49188502625506208426, 49188317512415750826, 49188324659241331370, 49188317787293657770, 49188321085828541098, 49188338678014585514, 49188408960859417258, 49188690430109504853, 12108678198123473578, 12113181797750844074, 12131196196260326058, 192153584101141162, 480383960252852906, 1633305464859699882, 6150415891112307370, 24595658764946068821]) (mb 117 20769187434479320900888599772524608) [128, 120, 112, 104, 96, 48] (s1 := ⟨bt 6 (.pt 48 0 :: bt 5 (.pt 96 0 :: .pt 104 0 :: .pt 112 0 :: .pt 120 0 :: .pt 128 0 :: I 0 :: bt 57 (I 0 :: .bot :: .bot :: I 0 :: bt 35 (Bo t32 :: .bot :: .bot :: [])))), [(128, .box [Ti g2.1, Ti g2.2.1, Ti g2.2.2]), (120, .box [Ti f1.1, Ti f1.2.1, Ti f1.2.2]), (112, .box [Ti y29.1.1, Ti y29.1.2.1, Ti y29.1.2.2, Ti y29.2.1.1, Ti y29.2.1.2.1, Ti y29.2.1.2.2, Ti y29.2.2.1, Ti y29.2.2.2.1, Ti y29.2.2.2.2]), (104, .box [Ti y28.1.1, Ti y28.1.2.1, Ti y28.1.2.2, Ti y28.2.1.1, Ti y28.2.1.2.1, Ti y28.2.1.2.2, Ti y28.2.2.1, Ti y28.2.2.2.1, Ti y28.2.2.2.2]), (96, .box [Ti y27.1.1, Ti y27.1.2.1, Ti y27.1.2.2, Ti y27.2.1.1, Ti y27.2.1.2.1, Ti y27.2.1.2.2, Ti y27.2.2.1, Ti y27.2.2.2.1, Ti y27.2.2.2.2]), (48, .box [Ti vh3.1, Ti vh3.2.1, Ti vh3.2.2])]⟩) (by kernel_rfl) (by kernel_rfl) ?_ ?_
   ·refine DA 34 ?_
    refine XL_nil ?_
    subst ht32
    kernel_rfl
   refine V_cond rfl (fun hc33 => ?_) (fun hc33 => ?_)
   ·have h := of_true h hc33
    refine V_e (mb 117 768) [] (s1 := ⟨bt 8 (Bo false :: Bo true :: bt 107 []), []⟩) ?_
    refine V_ret ?_
    obtain rfl := some_inj h
    show Post _ _ _ _ _
    exact ⟨.inr rfl, rfl, rfl, rfl⟩
   ·have h := of_false h hc33
    refine V_skip ?_
    show V _ _ _ _
    refine V_reg (mb 117 340010386766614455644224) [128, 120, 112, 104, 96, 48] (s1 := ⟨bt 6 (.pt 48 0 :: bt 5 (.pt 96 0 :: .pt 104 0 :: .pt 112 0 :: .pt 120 0 :: .pt 128 0 :: I 0 :: bt 57 (I 0 :: .bot :: .bot :: I 1 :: bt 38 []))), [(128, .box [Ti g2.1, Ti g2.2.1, Ti g2.2.2]), (120, .box [Ti f1.1, Ti f1.2.1, Ti f1.2.2]), (112, .box [Ti y29.1.1, Ti y29.1.2.1, Ti y29.1.2.2, Ti y29.2.1.1, Ti y29.2.1.2.1, Ti y29.2.1.2.2, Ti y29.2.2.1, Ti y29.2.2.2.1, Ti y29.2.2.2.2]), (104, .box [Ti y28.1.1, Ti y28.1.2.1, Ti y28.1.2.2, Ti y28.2.1.1, Ti y28.2.1.2.1, Ti y28.2.1.2.2, Ti y28.2.2.1, Ti y28.2.2.2.1, Ti y28.2.2.2.2]), (96, .box [Ti y27.1.1, Ti y27.1.2.1, Ti y27.1.2.2, Ti y27.2.1.1, Ti y27.2.1.2.1, Ti y27.2.1.2.2, Ti y27.2.2.1, Ti y27.2.2.2.1, Ti y27.2.2.2.2]), (48, .box [Ti vh3.1, Ti vh3.2.1, Ti vh3.2.2])]⟩) ?_ ?_
    ·exact XE
    show VR _ _ _ _ _
    refine VR_s (n := 38) ?_
    refine V_keep (mb 117 340010386766614455644224) [128, 120, 112, 104, 96, 48] (s' := ⟨bt 6 (.pt 48 0 :: bt 5 (.pt 96 0 :: .pt 104 0 :: .pt 112 0 :: .pt 120 0 :: .pt 128 0 :: I 0 :: bt 57 (I 0 :: .bot :: .bot :: I 1 :: bt 38 []))), [(128, .box [Ti g2.1, Ti g2.2.1, Ti g2.2.2]), (120, .box [Ti f1.1, Ti f1.2.1, Ti f1.2.2]), (112, .box [Ti y29.1.1, Ti y29.1.2.1, Ti y29.1.2.2, Ti y29.2.1.1, Ti y29.2.1.2.1, Ti y29.2.1.2.2, Ti y29.2.2.1, Ti y29.2.2.2.1, Ti y29.2.2.2.2]), (104, .box [Ti y28.1.1, Ti y28.1.2.1, Ti y28.1.2.2, Ti y28.2.1.1, Ti y28.2.1.2.1, Ti y28.2.1.2.2, Ti y28.2.2.1, Ti y28.2.2.2.1, Ti y28.2.2.2.2]), (96, .box [Ti y27.1.1, Ti y27.1.2.1, Ti y27.1.2.2, Ti y27.2.1.1, Ti y27.2.1.2.1, Ti y27.2.1.2.2, Ti y27.2.2.1, Ti y27.2.2.2.1, Ti y27.2.2.2.2]), (48, .box [Ti vh3.1, Ti vh3.2.1, Ti vh3.2.2])]⟩) (by kernel_rfl) ?_
    refine V_e (mb 117 944473296573929042997312) [128, 120, 112, 104, 96, 48] (s1 := ⟨bt 6 (.pt 48 0 :: bt 5 (.pt 96 0 :: .pt 104 0 :: .pt 112 0 :: .pt 120 0 :: .pt 128 0 :: I 0 :: bt 57 (I 0 :: .bot :: .bot :: I 1 :: Bo true :: bt 37 []))), [(128, .box [Ti g2.1, Ti g2.2.1, Ti g2.2.2]), (120, .box [Ti f1.1, Ti f1.2.1, Ti f1.2.2]), (112, .box [Ti y29.1.1, Ti y29.1.2.1, Ti y29.1.2.2, Ti y29.2.1.1, Ti y29.2.1.2.1, Ti y29.2.1.2.2, Ti y29.2.2.1, Ti y29.2.2.2.1, Ti y29.2.2.2.2]), (104, .box [Ti y28.1.1, Ti y28.1.2.1, Ti y28.1.2.2, Ti y28.2.1.1, Ti y28.2.1.2.1, Ti y28.2.1.2.2, Ti y28.2.2.1, Ti y28.2.2.2.1, Ti y28.2.2.2.2]), (96, .box [Ti y27.1.1, Ti y27.1.2.1, Ti y27.1.2.2, Ti y27.2.1.1, Ti y27.2.1.2.1, Ti y27.2.1.2.2, Ti y27.2.2.1, Ti y27.2.2.2.1, Ti y27.2.2.2.2]), (48, .box [Ti vh3.1, Ti vh3.2.1, Ti vh3.2.2])]⟩) ?_
    refine V_seq ?_
    refine V_cond_true rfl ?_
    refine V_skip ?_
    show V _ _ _ _
    refine V_seq ?_
    refine V_block ?_
    refine V_e (mb 117 340010386766614455906368) [128, 120, 112, 104, 96, 48] (s1 := ⟨bt 6 (.pt 48 0 :: bt 5 (.pt 96 0 :: .pt 104 0 :: .pt 112 0 :: .pt 120 0 :: .pt 128 0 :: I 0 :: I 1 :: bt 56 (I 0 :: .bot :: .bot :: I 1 :: bt 38 []))), [(128, .box [Ti g2.1, Ti g2.2.1, Ti g2.2.2]), (120, .box [Ti f1.1, Ti f1.2.1, Ti f1.2.2]), (112, .box [Ti y29.1.1, Ti y29.1.2.1, Ti y29.1.2.2, Ti y29.2.1.1, Ti y29.2.1.2.1, Ti y29.2.1.2.2, Ti y29.2.2.1, Ti y29.2.2.2.1, Ti y29.2.2.2.2]), (104, .box [Ti y28.1.1, Ti y28.1.2.1, Ti y28.1.2.2, Ti y28.2.1.1, Ti y28.2.1.2.1, Ti y28.2.1.2.2, Ti y28.2.2.1, Ti y28.2.2.2.1, Ti y28.2.2.2.2]), (96, .box [Ti y27.1.1, Ti y27.1.2.1, Ti y27.1.2.2, Ti y27.2.1.1, Ti y27.2.1.2.1, Ti y27.2.1.2.2, Ti y27.2.2.1, Ti y27.2.2.2.1, Ti y27.2.2.2.2]), (48, .box [Ti vh3.1, Ti vh3.2.1, Ti vh3.2.2])]⟩) ?_
    obtain ⟨t35, ht35, h⟩ := of_bind h
    have ht35 := some_inj ht35
    refine V_sdreg [0, 1, 0, 0, 4, 28, 60, 127, 0, 256, 0, 0, 1024, 7168, 15360, 32512, 65535, 0, 131072, 0, 0, 524288, 3670016, 7864320, 16646144, 33554431, 0, 67108864, 201326592, 0, 536870912, 1610612736, 4227858432, 8589934591] 34 (cdm 34 [49189065721488485024, 49189065721488485025, 49189065721488474250, 49189065721488474666, 49189065721488474266, 49189065721488474458, 49189065721488475482, 49189065721488479573, 49189065719340378794, 49189065719340444330, 49189065718634293930, 49189065718661556906, 49189065718635342506, 49189065718647925418, 49189065718715034282, 49189065718983142058, 49189065720056862037, 49188502608326339242, 49188502625506208426, 49188317512415750826, 49188324659241331370, 49188317787293657770, 49188321085828541098, 49188338678014585514, 49188408960859417258, 49188690430109504853, 12108678198123473578, 12113181797750844074, 12131196196260326058, 192153584101141162, 480383960252852906, 1633305464859699882, 6150415891112307370, 24595658764946068821]) (mb 117 20769187434479320900888599772524608) [128, 120, 112, 104, 96, 48] (s1 := ⟨bt 6 (.pt 48 0 :: bt 5 (.pt 96 0 :: .pt 104 0 :: .pt 112 0 :: .pt 120 0 :: .pt 128 0 :: I 0 :: bt 57 (I 0 :: .bot :: .bot :: I 1 :: bt 35 (Bo t35 :: .bot :: .bot :: [])))), [(128, .box [Ti g2.1, Ti g2.2.1, Ti g2.2.2]), (120, .box [Ti f1.1, Ti f1.2.1, Ti f1.2.2]), (112, .box [Ti y29.1.1, Ti y29.1.2.1, Ti y29.1.2.2, Ti y29.2.1.1, Ti y29.2.1.2.1, Ti y29.2.1.2.2, Ti y29.2.2.1, Ti y29.2.2.2.1, Ti y29.2.2.2.2]), (104, .box [Ti y28.1.1, Ti y28.1.2.1, Ti y28.1.2.2, Ti y28.2.1.1, Ti y28.2.1.2.1, Ti y28.2.1.2.2, Ti y28.2.2.1, Ti y28.2.2.2.1, Ti y28.2.2.2.2]), (96, .box [Ti y27.1.1, Ti y27.1.2.1, Ti y27.1.2.2, Ti y27.2.1.1, Ti y27.2.1.2.1, Ti y27.2.1.2.2, Ti y27.2.2.1, Ti y27.2.2.2.1, Ti y27.2.2.2.2]), (48, .box [Ti vh3.1, Ti vh3.2.1, Ti vh3.2.2])]⟩) (by kernel_rfl) (by kernel_rfl) ?_ ?_
    ·refine DA 34 ?_
     refine XL_nil ?_
     subst ht35
     kernel_rfl
    refine V_cond rfl (fun hc36 => ?_) (fun hc36 => ?_)
    ·have h := of_true h hc36
     refine V_e (mb 117 768) [] (s1 := ⟨bt 8 (Bo false :: Bo true :: bt 107 []), []⟩) ?_
     refine V_ret ?_
     obtain rfl := some_inj h
     show Post _ _ _ _ _
     exact ⟨.inr rfl, rfl, rfl, rfl⟩
    ·have h := of_false h hc36
     refine V_skip ?_
     show V _ _ _ _
     refine V_reg (mb 117 340010386766614455644224) [128, 120, 112, 104, 96, 48] (s1 := ⟨bt 6 (.pt 48 0 :: bt 5 (.pt 96 0 :: .pt 104 0 :: .pt 112 0 :: .pt 120 0 :: .pt 128 0 :: I 0 :: bt 57 (I 0 :: .bot :: .bot :: I 2 :: bt 38 []))), [(128, .box [Ti g2.1, Ti g2.2.1, Ti g2.2.2]), (120, .box [Ti f1.1, Ti f1.2.1, Ti f1.2.2]), (112, .box [Ti y29.1.1, Ti y29.1.2.1, Ti y29.1.2.2, Ti y29.2.1.1, Ti y29.2.1.2.1, Ti y29.2.1.2.2, Ti y29.2.2.1, Ti y29.2.2.2.1, Ti y29.2.2.2.2]), (104, .box [Ti y28.1.1, Ti y28.1.2.1, Ti y28.1.2.2, Ti y28.2.1.1, Ti y28.2.1.2.1, Ti y28.2.1.2.2, Ti y28.2.2.1, Ti y28.2.2.2.1, Ti y28.2.2.2.2]), (96, .box [Ti y27.1.1, Ti y27.1.2.1, Ti y27.1.2.2, Ti y27.2.1.1, Ti y27.2.1.2.1, Ti y27.2.1.2.2, Ti y27.2.2.1, Ti y27.2.2.2.1, Ti y27.2.2.2.2]), (48, .box [Ti vh3.1, Ti vh3.2.1, Ti vh3.2.2])]⟩) ?_ ?_
     ·exact XE
     show VR _ _ _ _ _
     refine VR_s (n := 37) ?_
     refine V_keep (mb 117 340010386766614455644224) [128, 120, 112, 104, 96, 48] (s' := ⟨bt 6 (.pt 48 0 :: bt 5 (.pt 96 0 :: .pt 104 0 :: .pt 112 0 :: .pt 120 0 :: .pt 128 0 :: I 0 :: bt 57 (I 0 :: .bot :: .bot :: I 2 :: bt 38 []))), [(128, .box [Ti g2.1, Ti g2.2.1, Ti g2.2.2]), (120, .box [Ti f1.1, Ti f1.2.1, Ti f1.2.2]), (112, .box [Ti y29.1.1, Ti y29.1.2.1, Ti y29.1.2.2, Ti y29.2.1.1, Ti y29.2.1.2.1, Ti y29.2.1.2.2, Ti y29.2.2.1, Ti y29.2.2.2.1, Ti y29.2.2.2.2]), (104, .box [Ti y28.1.1, Ti y28.1.2.1, Ti y28.1.2.2, Ti y28.2.1.1, Ti y28.2.1.2.1, Ti y28.2.1.2.2, Ti y28.2.2.1, Ti y28.2.2.2.1, Ti y28.2.2.2.2]), (96, .box [Ti y27.1.1, Ti y27.1.2.1, Ti y27.1.2.2, Ti y27.2.1.1, Ti y27.2.1.2.1, Ti y27.2.1.2.2, Ti y27.2.2.1, Ti y27.2.2.2.1, Ti y27.2.2.2.2]), (48, .box [Ti vh3.1, Ti vh3.2.1, Ti vh3.2.2])]⟩) (by kernel_rfl) ?_
     refine V_e (mb 117 944473296573929042997312) [128, 120, 112, 104, 96, 48] (s1 := ⟨bt 6 (.pt 48 0 :: bt 5 (.pt 96 0 :: .pt 104 0 :: .pt 112 0 :: .pt 120 0 :: .pt 128 0 :: I 0 :: bt 57 (I 0 :: .bot :: .bot :: I 2 :: Bo true :: bt 37 []))), [(128, .box [Ti g2.1, Ti g2.2.1, Ti g2.2.2]), (120, .box [Ti f1.1, Ti f1.2.1, Ti f1.2.2]), (112, .box [Ti y29.1.1, Ti y29.1.2.1, Ti y29.1.2.2, Ti y29.2.1.1, Ti y29.2.1.2.1, Ti y29.2.1.2.2, Ti y29.2.2.1, Ti y29.2.2.2.1, Ti y29.2.2.2.2]), (104, .box [Ti y28.1.1, Ti y28.1.2.1, Ti y28.1.2.2, Ti y28.2.1.1, Ti y28.2.1.2.1, Ti y28.2.1.2.2, Ti y28.2.2.1, Ti y28.2.2.2.1, Ti y28.2.2.2.2]), (96, .box [Ti y27.1.1, Ti y27.1.2.1, Ti y27.1.2.2, Ti y27.2.1.1, Ti y27.2.1.2.1, Ti y27.2.1.2.2, Ti y27.2.2.1, Ti y27.2.2.2.1, Ti y27.2.2.2.2]), (48, .box [Ti vh3.1, Ti vh3.2.1, Ti vh3.2.2])]⟩) ?_
     refine V_seq ?_
     refine V_cond_true rfl ?_
     refine V_skip ?_
     show V _ _ _ _
     refine V_seq ?_
     refine V_block ?_
     refine V_e (mb 117 340010386766614455906368) [128, 120, 112, 104, 96, 48] (s1 := ⟨bt 6 (.pt 48 0 :: bt 5 (.pt 96 0 :: .pt 104 0 :: .pt 112 0 :: .pt 120 0 :: .pt 128 0 :: I 0 :: I 2 :: bt 56 (I 0 :: .bot :: .bot :: I 2 :: bt 38 []))), [(128, .box [Ti g2.1, Ti g2.2.1, Ti g2.2.2]), (120, .box [Ti f1.1, Ti f1.2.1, Ti f1.2.2]), (112, .box [Ti y29.1.1, Ti y29.1.2.1, Ti y29.1.2.2, Ti y29.2.1.1, Ti y29.2.1.2.1, Ti y29.2.1.2.2, Ti y29.2.2.1, Ti y29.2.2.2.1, Ti y29.2.2.2.2]), (104, .box [Ti y28.1.1, Ti y28.1.2.1, Ti y28.1.2.2, Ti y28.2.1.1, Ti y28.2.1.2.1, Ti y28.2.1.2.2, Ti y28.2.2.1, Ti y28.2.2.2.1, Ti y28.2.2.2.2]), (96, .box [Ti y27.1.1, Ti y27.1.2.1, Ti y27.1.2.2, Ti y27.2.1.1, Ti y27.2.1.2.1, Ti y27.2.1.2.2, Ti y27.2.2.1, Ti y27.2.2.2.1, Ti y27.2.2.2.2]), (48, .box [Ti vh3.1, Ti vh3.2.1, Ti vh3.2.2])]⟩) ?_
     obtain ⟨t38, ht38, h⟩ := of_bind h
     have ht38 := some_inj ht38
     refine V_sdreg [0, 1, 0, 0, 4, 28, 60, 127, 0, 256, 0, 0, 1024, 7168, 15360, 32512, 65535, 0, 131072, 0, 0, 524288, 3670016, 7864320, 16646144, 33554431, 0, 67108864, 201326592, 0, 536870912, 1610612736, 4227858432, 8589934591] 34 (cdm 34 [49189065721488485024, 49189065721488485025, 49189065721488474250, 49189065721488474666, 49189065721488474266, 49189065721488474458, 49189065721488475482, 49189065721488479573, 49189065719340378794, 49189065719340444330, 49189065718634293930, 49189065718661556906, 49189065718635342506, 49189065718647925418, 49189065718715034282, 49189065718983142058, 49189065720056862037, 49188502608326339242, 49188502625506208426, 49188317512415750826, 49188324659241331370, 49188317787293657770, 49188321085828541098, 49188338678014585514, 49188408960859417258, 49188690430109504853, 12108678198123473578, 12113181797750844074, 12131196196260326058, 192153584101141162, 480383960252852906, 1633305464859699882, 6150415891112307370, 24595658764946068821]) (mb 117 20769187434479320900888599772524608) [128, 120, 112, 104, 96, 48] (s1 := ⟨bt 6 (.pt 48 0 :: bt 5 (.pt 96 0 :: .pt 104 0 :: .pt 112 0 :: .pt 120 0 :: .pt 128 0 :: I 0 :: bt 57 (I 0 :: .bot :: .bot :: I 2 :: bt 35 (Bo t38 :: .bot :: .bot :: [])))), [(128, .box [Ti g2.1, Ti g2.2.1, Ti g2.2.2]), (120, .box [Ti f1.1, Ti f1.2.1, Ti f1.2.2]), (112, .box [Ti y29.1.1, Ti y29.1.2.1, Ti y29.1.2.2, Ti y29.2.1.1, Ti y29.2.1.2.1, Ti y29.2.1.2.2, Ti y29.2.2.1, Ti y29.2.2.2.1, Ti y29.2.2.2.2]), (104, .box [Ti y28.1.1, Ti y28.1.2.1, Ti y28.1.2.2, Ti y28.2.1.1, Ti y28.2.1.2.1, Ti y28.2.1.2.2, Ti y28.2.2.1, Ti y28.2.2.2.1, Ti y28.2.2.2.2]), (96, .box [Ti y27.1.1, Ti y27.1.2.1, Ti y27.1.2.2, Ti y27.2.1.1, Ti y27.2.1.2.1, Ti y27.2.1.2.2, Ti y27.2.2.1, Ti y27.2.2.2.1, Ti y27.2.2.2.2]), (48, .box [Ti vh3.1, Ti vh3.2.1, Ti vh3.2.2])]⟩) (by kernel_rfl) (by kernel_rfl) ?_ ?_
     ·refine DA 34 ?_
      refine XL_nil ?_
      subst ht38
      kernel_rfl
     refine V_cond rfl (fun hc39 => ?_) (fun hc39 => ?_)
     ·have h := of_true h hc39
      refine V_e (mb 117 768) [] (s1 := ⟨bt 8 (Bo false :: Bo true :: bt 107 []), []⟩) ?_
      refine V_ret ?_
      obtain rfl := some_inj h
      show Post _ _ _ _ _
      exact ⟨.inr rfl, rfl, rfl, rfl⟩
     ·have h := of_false h hc39
      refine V_skip ?_
      show V _ _ _ _
      refine V_reg (mb 117 340010386766614455644224) [128, 120, 112, 104, 96, 48] (s1 := ⟨bt 6 (.pt 48 0 :: bt 5 (.pt 96 0 :: .pt 104 0 :: .pt 112 0 :: .pt 120 0 :: .pt 128 0 :: I 0 :: bt 57 (I 0 :: .bot :: .bot :: I 3 :: bt 38 []))), [(128, .box [Ti g2.1, Ti g2.2.1, Ti g2.2.2]), (120, .box [Ti f1.1, Ti f1.2.1, Ti f1.2.2]), (112, .box [Ti y29.1.1, Ti y29.1.2.1, Ti y29.1.2.2, Ti y29.2.1.1, Ti y29.2.1.2.1, Ti y29.2.1.2.2, Ti y29.2.2.1, Ti y29.2.2.2.1, Ti y29.2.2.2.2]), (104, .box [Ti y28.1.1, Ti y28.1.2.1, Ti y28.1.2.2, Ti y28.2.1.1, Ti y28.2.1.2.1, Ti y28.2.1.2.2, Ti y28.2.2.1, Ti y28.2.2.2.1, Ti y28.2.2.2.2]), (96, .box [Ti y27.1.1, Ti y27.1.2.1, Ti y27.1.2.2, Ti y27.2.1.1, Ti y27.2.1.2.1, Ti y27.2.1.2.2, Ti y27.2.2.1, Ti y27.2.2.2.1, Ti y27.2.2.2.2]), (48, .box [Ti vh3.1, Ti vh3.2.1, Ti vh3.2.2])]⟩) ?_ ?_
      ·exact XE
      show VR _ _ _ _ _
      refine VR_s (n := 36) ?_
      refine V_keep (mb 117 340010386766614455644224) [128, 120, 112, 104, 96, 48] (s' := ⟨bt 6 (.pt 48 0 :: bt 5 (.pt 96 0 :: .pt 104 0 :: .pt 112 0 :: .pt 120 0 :: .pt 128 0 :: I 0 :: bt 57 (I 0 :: .bot :: .bot :: I 3 :: bt 38 []))), [(128, .box [Ti g2.1, Ti g2.2.1, Ti g2.2.2]), (120, .box [Ti f1.1, Ti f1.2.1, Ti f1.2.2]), (112, .box [Ti y29.1.1, Ti y29.1.2.1, Ti y29.1.2.2, Ti y29.2.1.1, Ti y29.2.1.2.1, Ti y29.2.1.2.2, Ti y29.2.2.1, Ti y29.2.2.2.1, Ti y29.2.2.2.2]), (104, .box [Ti y28.1.1, Ti y28.1.2.1, Ti y28.1.2.2, Ti y28.2.1.1, Ti y28.2.1.2.1, Ti y28.2.1.2.2, Ti y28.2.2.1, Ti y28.2.2.2.1, Ti y28.2.2.2.2]), (96, .box [Ti y27.1.1, Ti y27.1.2.1, Ti y27.1.2.2, Ti y27.2.1.1, Ti y27.2.1.2.1, Ti y27.2.1.2.2, Ti y27.2.2.1, Ti y27.2.2.2.1, Ti y27.2.2.2.2]), (48, .box [Ti vh3.1, Ti vh3.2.1, Ti vh3.2.2])]⟩) (by kernel_rfl) ?_
      refine V_e (mb 117 944473296573929042997312) [128, 120, 112, 104, 96, 48] (s1 := ⟨bt 6 (.pt 48 0 :: bt 5 (.pt 96 0 :: .pt 104 0 :: .pt 112 0 :: .pt 120 0 :: .pt 128 0 :: I 0 :: bt 57 (I 0 :: .bot :: .bot :: I 3 :: Bo false :: bt 37 []))), [(128, .box [Ti g2.1, Ti g2.2.1, Ti g2.2.2]), (120, .box [Ti f1.1, Ti f1.2.1, Ti f1.2.2]), (112, .box [Ti y29.1.1, Ti y29.1.2.1, Ti y29.1.2.2, Ti y29.2.1.1, Ti y29.2.1.2.1, Ti y29.2.1.2.2, Ti y29.2.2.1, Ti y29.2.2.2.1, Ti y29.2.2.2.2]), (104, .box [Ti y28.1.1, Ti y28.1.2.1, Ti y28.1.2.2, Ti y28.2.1.1, Ti y28.2.1.2.1, Ti y28.2.1.2.2, Ti y28.2.2.1, Ti y28.2.2.2.1, Ti y28.2.2.2.2]), (96, .box [Ti y27.1.1, Ti y27.1.2.1, Ti y27.1.2.2, Ti y27.2.1.1, Ti y27.2.1.2.1, Ti y27.2.1.2.2, Ti y27.2.2.1, Ti y27.2.2.2.1, Ti y27.2.2.2.2]), (48, .box [Ti vh3.1, Ti vh3.2.1, Ti vh3.2.2])]⟩) ?_
      refine V_seq ?_
      refine V_cond_false rfl ?_
      refine V_exit ?_
      show V _ _ _ _
      refine V_reg (mb 117 37778931862957161836608) [128, 120, 112, 104, 96, 48] (s1 := ⟨bt 6 (.pt 48 0 :: bt 5 (.pt 96 0 :: .pt 104 0 :: .pt 112 0 :: .pt 120 0 :: .pt 128 0 :: bt 58 (I 1 :: bt 41 []))), [(128, .box [Ti g2.1, Ti g2.2.1, Ti g2.2.2]), (120, .box [Ti f1.1, Ti f1.2.1, Ti f1.2.2]), (112, .box [Ti y29.1.1, Ti y29.1.2.1, Ti y29.1.2.2, Ti y29.2.1.1, Ti y29.2.1.2.1, Ti y29.2.1.2.2, Ti y29.2.2.1, Ti y29.2.2.2.1, Ti y29.2.2.2.2]), (104, .box [Ti y28.1.1, Ti y28.1.2.1, Ti y28.1.2.2, Ti y28.2.1.1, Ti y28.2.1.2.1, Ti y28.2.1.2.2, Ti y28.2.2.1, Ti y28.2.2.2.1, Ti y28.2.2.2.2]), (96, .box [Ti y27.1.1, Ti y27.1.2.1, Ti y27.1.2.2, Ti y27.2.1.1, Ti y27.2.1.2.1, Ti y27.2.1.2.2, Ti y27.2.2.1, Ti y27.2.2.2.1, Ti y27.2.2.2.2]), (48, .box [Ti vh3.1, Ti vh3.2.1, Ti vh3.2.2])]⟩) ?_ ?_
      ·exact XE
      show VR _ _ _ _ _
      refine VR_s (n := 38) ?_
      refine V_keep (mb 117 37778931862957161836608) [128, 120, 112, 104, 96, 48] (s' := ⟨bt 6 (.pt 48 0 :: bt 5 (.pt 96 0 :: .pt 104 0 :: .pt 112 0 :: .pt 120 0 :: .pt 128 0 :: bt 58 (I 1 :: bt 41 []))), [(128, .box [Ti g2.1, Ti g2.2.1, Ti g2.2.2]), (120, .box [Ti f1.1, Ti f1.2.1, Ti f1.2.2]), (112, .box [Ti y29.1.1, Ti y29.1.2.1, Ti y29.1.2.2, Ti y29.2.1.1, Ti y29.2.1.2.1, Ti y29.2.1.2.2, Ti y29.2.2.1, Ti y29.2.2.2.1, Ti y29.2.2.2.2]), (104, .box [Ti y28.1.1, Ti y28.1.2.1, Ti y28.1.2.2, Ti y28.2.1.1, Ti y28.2.1.2.1, Ti y28.2.1.2.2, Ti y28.2.2.1, Ti y28.2.2.2.1, Ti y28.2.2.2.2]), (96, .box [Ti y27.1.1, Ti y27.1.2.1, Ti y27.1.2.2, Ti y27.2.1.1, Ti y27.2.1.2.1, Ti y27.2.1.2.2, Ti y27.2.2.1, Ti y27.2.2.2.1, Ti y27.2.2.2.2]), (48, .box [Ti vh3.1, Ti vh3.2.1, Ti vh3.2.2])]⟩) (by kernel_rfl) ?_
      refine V_e (mb 117 113336795588871485255744) [128, 120, 112, 104, 96, 48] (s1 := ⟨bt 6 (.pt 48 0 :: bt 5 (.pt 96 0 :: .pt 104 0 :: .pt 112 0 :: .pt 120 0 :: .pt 128 0 :: bt 58 (I 1 :: Bo true :: bt 40 []))), [(128, .box [Ti g2.1, Ti g2.2.1, Ti g2.2.2]), (120, .box [Ti f1.1, Ti f1.2.1, Ti f1.2.2]), (112, .box [Ti y29.1.1, Ti y29.1.2.1, Ti y29.1.2.2, Ti y29.2.1.1, Ti y29.2.1.2.1, Ti y29.2.1.2.2, Ti y29.2.2.1, Ti y29.2.2.2.1, Ti y29.2.2.2.2]), (104, .box [Ti y28.1.1, Ti y28.1.2.1, Ti y28.1.2.2, Ti y28.2.1.1, Ti y28.2.1.2.1, Ti y28.2.1.2.2, Ti y28.2.2.1, Ti y28.2.2.2.1, Ti y28.2.2.2.2]), (96, .box [Ti y27.1.1, Ti y27.1.2.1, Ti y27.1.2.2, Ti y27.2.1.1, Ti y27.2.1.2.1, Ti y27.2.1.2.2, Ti y27.2.2.1, Ti y27.2.2.2.1, Ti y27.2.2.2.2]), (48, .box [Ti vh3.1, Ti vh3.2.1, Ti vh3.2.2])]⟩) ?_
      refine V_seq ?_
      refine V_cond_true rfl ?_
      refine V_skip ?_
      show V _ _ _ _
      refine V_seq ?_
      refine V_block ?_
      refine V_e (mb 117 37778931862957161967680) [128, 120, 112, 104, 96, 48] (s1 := ⟨bt 6 (.pt 48 0 :: bt 5 (.pt 96 0 :: .pt 104 0 :: .pt 112 0 :: .pt 120 0 :: .pt 128 0 :: I 1 :: bt 57 (I 1 :: bt 41 []))), [(128, .box [Ti g2.1, Ti g2.2.1, Ti g2.2.2]), (120, .box [Ti f1.1, Ti f1.2.1, Ti f1.2.2]), (112, .box [Ti y29.1.1, Ti y29.1.2.1, Ti y29.1.2.2, Ti y29.2.1.1, Ti y29.2.1.2.1, Ti y29.2.1.2.2, Ti y29.2.2.1, Ti y29.2.2.2.1, Ti y29.2.2.2.2]), (104, .box [Ti y28.1.1, Ti y28.1.2.1, Ti y28.1.2.2, Ti y28.2.1.1, Ti y28.2.1.2.1, Ti y28.2.1.2.2, Ti y28.2.2.1, Ti y28.2.2.2.1, Ti y28.2.2.2.2]), (96, .box [Ti y27.1.1, Ti y27.1.2.1, Ti y27.1.2.2, Ti y27.2.1.1, Ti y27.2.1.2.1, Ti y27.2.1.2.2, Ti y27.2.2.1, Ti y27.2.2.2.1, Ti y27.2.2.2.2]), (48, .box [Ti vh3.1, Ti vh3.2.1, Ti vh3.2.2])]⟩) ?_
      refine V_e (mb 117 340010386766614455644224) [128, 120, 112, 104, 96, 48] (s1 := ⟨bt 6 (.pt 48 0 :: bt 5 (.pt 96 0 :: .pt 104 0 :: .pt 112 0 :: .pt 120 0 :: .pt 128 0 :: I 1 :: bt 57 (I 1 :: .bot :: .bot :: I 0 :: bt 38 []))), [(128, .box [Ti g2.1, Ti g2.2.1, Ti g2.2.2]), (120, .box [Ti f1.1, Ti f1.2.1, Ti f1.2.2]), (112, .box [Ti y29.1.1, Ti y29.1.2.1, Ti y29.1.2.2, Ti y29.2.1.1, Ti y29.2.1.2.1, Ti y29.2.1.2.2, Ti y29.2.2.1, Ti y29.2.2.2.1, Ti y29.2.2.2.2]), (104, .box [Ti y28.1.1, Ti y28.1.2.1, Ti y28.1.2.2, Ti y28.2.1.1, Ti y28.2.1.2.1, Ti y28.2.1.2.2, Ti y28.2.2.1, Ti y28.2.2.2.1, Ti y28.2.2.2.2]), (96, .box [Ti y27.1.1, Ti y27.1.2.1, Ti y27.1.2.2, Ti y27.2.1.1, Ti y27.2.1.2.1, Ti y27.2.1.2.2, Ti y27.2.2.1, Ti y27.2.2.2.1, Ti y27.2.2.2.2]), (48, .box [Ti vh3.1, Ti vh3.2.1, Ti vh3.2.2])]⟩) ?_
      refine V_block (V_unroll 40 ?_)
      refine VR_s (n := 39) ?_
      refine V_keep (mb 117 340010386766614455644224) [128, 120, 112, 104, 96, 48] (s' := ⟨bt 6 (.pt 48 0 :: bt 5 (.pt 96 0 :: .pt 104 0 :: .pt 112 0 :: .pt 120 0 :: .pt 128 0 :: I 1 :: bt 57 (I 1 :: .bot :: .bot :: I 0 :: bt 38 []))), [(128, .box [Ti g2.1, Ti g2.2.1, Ti g2.2.2]), (120, .box [Ti f1.1, Ti f1.2.1, Ti f1.2.2]), (112, .box [Ti y29.1.1, Ti y29.1.2.1, Ti y29.1.2.2, Ti y29.2.1.1, Ti y29.2.1.2.1, Ti y29.2.1.2.2, Ti y29.2.2.1, Ti y29.2.2.2.1, Ti y29.2.2.2.2]), (104, .box [Ti y28.1.1, Ti y28.1.2.1, Ti y28.1.2.2, Ti y28.2.1.1, Ti y28.2.1.2.1, Ti y28.2.1.2.2, Ti y28.2.2.1, Ti y28.2.2.2.1, Ti y28.2.2.2.2]), (96, .box [Ti y27.1.1, Ti y27.1.2.1, Ti y27.1.2.2, Ti y27.2.1.1, Ti y27.2.1.2.1, Ti y27.2.1.2.2, Ti y27.2.2.1, Ti y27.2.2.2.1, Ti y27.2.2.2.2]), (48, .box [Ti vh3.1, Ti vh3.2.1, Ti vh3.2.2])]⟩) (by kernel_rfl) ?_
      refine V_e (mb 117 944473296573929042997312) [128, 120, 112, 104, 96, 48] (s1 := ⟨bt 6 (.pt 48 0 :: bt 5 (.pt 96 0 :: .pt 104 0 :: .pt 112 0 :: .pt 120 0 :: .pt 128 0 :: I 1 :: bt 57 (I 1 :: .bot :: .bot :: I 0 :: Bo true :: bt 37 []))), [(128, .box [Ti g2.1, Ti g2.2.1, Ti g2.2.2]), (120, .box [Ti f1.1, Ti f1.2.1, Ti f1.2.2]), (112, .box [Ti y29.1.1, Ti y29.1.2.1, Ti y29.1.2.2, Ti y29.2.1.1, Ti y29.2.1.2.1, Ti y29.2.1.2.2, Ti y29.2.2.1, Ti y29.2.2.2.1, Ti y29.2.2.2.2]), (104, .box [Ti y28.1.1, Ti y28.1.2.1, Ti y28.1.2.2, Ti y28.2.1.1, Ti y28.2.1.2.1, Ti y28.2.1.2.2, Ti y28.2.2.1, Ti y28.2.2.2.1, Ti y28.2.2.2.2]), (96, .box [Ti y27.1.1, Ti y27.1.2.1, Ti y27.1.2.2, Ti y27.2.1.1, Ti y27.2.1.2.1, Ti y27.2.1.2.2, Ti y27.2.2.1, Ti y27.2.2.2.1, Ti y27.2.2.2.2]), (48, .box [Ti vh3.1, Ti vh3.2.1, Ti vh3.2.2])]⟩) ?_
      refine V_seq ?_
      refine V_cond_true rfl ?_
      refine V_skip ?_
      show V _ _ _ _
      refine V_seq ?_
      refine V_block ?_
      refine V_e (mb 117 340010386766614455906368) [128, 120, 112, 104, 96, 48] (s1 := ⟨bt 6 (.pt 48 0 :: bt 5 (.pt 96 0 :: .pt 104 0 :: .pt 112 0 :: .pt 120 0 :: .pt 128 0 :: I 1 :: I 0 :: bt 56 (I 1 :: .bot :: .bot :: I 0 :: bt 38 []))), [(128, .box [Ti g2.1, Ti g2.2.1, Ti g2.2.2]), (120, .box [Ti f1.1, Ti f1.2.1, Ti f1.2.2]), (112, .box [Ti y29.1.1, Ti y29.1.2.1, Ti y29.1.2.2, Ti y29.2.1.1, Ti y29.2.1.2.1, Ti y29.2.1.2.2, Ti y29.2.2.1, Ti y29.2.2.2.1, Ti y29.2.2.2.2]), (104, .box [Ti y28.1.1, Ti y28.1.2.1, Ti y28.1.2.2, Ti y28.2.1.1, Ti y28.2.1.2.1, Ti y28.2.1.2.2, Ti y28.2.2.1, Ti y28.2.2.2.1, Ti y28.2.2.2.2]), (96, .box [Ti y27.1.1, Ti y27.1.2.1, Ti y27.1.2.2, Ti y27.2.1.1, Ti y27.2.1.2.1, Ti y27.2.1.2.2, Ti y27.2.2.1, Ti y27.2.2.2.1, Ti y27.2.2.2.2]), (48, .box [Ti vh3.1, Ti vh3.2.1, Ti vh3.2.2])]⟩) ?_
      obtain ⟨t43, ht43, h⟩ := of_bind h
      have ht43 := some_inj ht43
      refine V_sdreg [0, 1, 0, 0, 4, 28, 60, 127, 0, 256, 0, 0, 1024, 7168, 15360, 32512, 65535, 0, 131072, 0, 0, 524288, 3670016, 7864320, 16646144, 33554431, 0, 67108864, 201326592, 0, 536870912, 1610612736, 4227858432, 8589934591] 34 (cdm 34 [49189065721488485024, 49189065721488485025, 49189065721488474250, 49189065721488474666, 49189065721488474266, 49189065721488474458, 49189065721488475482, 49189065721488479573, 49189065719340378794, 49189065719340444330, 49189065718634293930, 49189065718661556906, 49189065718635342506, 49189065718647925418, 49189065718715034282, 49189065718983142058, 49189065720056862037, 49188502608326339242, 49188502625506208426, 49188317512415750826, 49188324659241331370, 49188317787293657770, 49188321085828541098, 49188338678014585514, 49188408960859417258, 49188690430109504853, 12108678198123473578, 12113181797750844074, 12131196196260326058, 192153584101141162, 480383960252852906, 1633305464859699882, 6150415891112307370, 24595658764946068821]) (mb 117 20769187434479320900888599772524608) [128, 120, 112, 104, 96, 48] (s1 := ⟨bt 6 (.pt 48 0 :: bt 5 (.pt 96 0 :: .pt 104 0 :: .pt 112 0 :: .pt 120 0 :: .pt 128 0 :: I 1 :: bt 57 (I 1 :: .bot :: .bot :: I 0 :: bt 35 (Bo t43 :: .bot :: .bot :: [])))), [(128, .box [Ti g2.1, Ti g2.2.1, Ti g2.2.2]), (120, .box [Ti f1.1, Ti f1.2.1, Ti f1.2.2]), (112, .box [Ti y29.1.1, Ti y29.1.2.1, Ti y29.1.2.2, Ti y29.2.1.1, Ti y29.2.1.2.1, Ti y29.2.1.2.2, Ti y29.2.2.1, Ti y29.2.2.2.1, Ti y29.2.2.2.2]), (104, .box [Ti y28.1.1, Ti y28.1.2.1, Ti y28.1.2.2, Ti y28.2.1.1, Ti y28.2.1.2.1, Ti y28.2.1.2.2, Ti y28.2.2.1, Ti y28.2.2.2.1, Ti y28.2.2.2.2]), (96, .box [Ti y27.1.1, Ti y27.1.2.1, Ti y27.1.2.2, Ti y27.2.1.1, Ti y27.2.1.2.1, Ti y27.2.1.2.2, Ti y27.2.2.1, Ti y27.2.2.2.1, Ti y27.2.2.2.2]), (48, .box [Ti vh3.1, Ti vh3.2.1, Ti vh3.2.2])]⟩) (by kernel_rfl) (by kernel_rfl) ?_ ?_
      ·refine DA 34 ?_
       refine XL_nil ?_
       subst ht43
       kernel_rfl
      refine V_cond rfl (fun hc44 => ?_) (fun hc44 => ?_)
      ·have h := of_true h hc44
       refine V_e (mb 117 768) [] (s1 := ⟨bt 8 (Bo false :: Bo true :: bt 107 []), []⟩) ?_
       refine V_ret ?_
       obtain rfl := some_inj h
       show Post _ _ _ _ _
       exact ⟨.inr rfl, rfl, rfl, rfl⟩
      ·have h := of_false h hc44
       refine V_skip ?_
       show V _ _ _ _
       refine V_reg (mb 117 340010386766614455644224) [128, 120, 112, 104, 96, 48] (s1 := ⟨bt 6 (.pt 48 0 :: bt 5 (.pt 96 0 :: .pt 104 0 :: .pt 112 0 :: .pt 120 0 :: .pt 128 0 :: I 1 :: bt 57 (I 1 :: .bot :: .bot :: I 1 :: bt 38 []))), [(128, .box [Ti g2.1, Ti g2.2.1, Ti g2.2.2]), (120, .box [Ti f1.1, Ti f1.2.1, Ti f1.2.2]), (112, .box [Ti y29.1.1, Ti y29.1.2.1, Ti y29.1.2.2, Ti y29.2.1.1, Ti y29.2.1.2.1, Ti y29.2.1.2.2, Ti y29.2.2.1, Ti y29.2.2.2.1, Ti y29.2.2.2.2]), (104, .box [Ti y28.1.1, Ti y28.1.2.1, Ti y28.1.2.2, Ti y28.2.1.1, Ti y28.2.1.2.1, Ti y28.2.1.2.2, Ti y28.2.2.1, Ti y28.2.2.2.1, Ti y28.2.2.2.2]), (96, .box [Ti y27.1.1, Ti y27.1.2.1, Ti y27.1.2.2, Ti y27.2.1.1, Ti y27.2.1.2.1, Ti y27.2.1.2.2, Ti y27.2.2.1, Ti y27.2.2.2.1, Ti y27.2.2.2.2]), (48, .box [Ti vh3.1, Ti vh3.2.1, Ti vh3.2.2])]⟩) ?_ ?_
       ·exact XE
       show VR _ _ _ _ _
       refine VR_s (n := 38) ?_
       refine V_keep (mb 117 340010386766614455644224) [128, 120, 112, 104, 96, 48] (s' := ⟨bt 6 (.pt 48 0 :: bt 5 (.pt 96 0 :: .pt 104 0 :: .pt 112 0 :: .pt 120 0 :: .pt 128 0 :: I 1 :: bt 57 (I 1 :: .bot :: .bot :: I 1 :: bt 38 []))), [(128, .box [Ti g2.1, Ti g2.2.1, Ti g2.2.2]), (120, .box [Ti f1.1, Ti f1.2.1, Ti f1.2.2]), (112, .box [Ti y29.1.1, Ti y29.1.2.1, Ti y29.1.2.2, Ti y29.2.1.1, Ti y29.2.1.2.1, Ti y29.2.1.2.2, Ti y29.2.2.1, Ti y29.2.2.2.1, Ti y29.2.2.2.2]), (104, .box [Ti y28.1.1, Ti y28.1.2.1, Ti y28.1.2.2, Ti y28.2.1.1, Ti y28.2.1.2.1, Ti y28.2.1.2.2, Ti y28.2.2.1, Ti y28.2.2.2.1, Ti y28.2.2.2.2]), (96, .box [Ti y27.1.1, Ti y27.1.2.1, Ti y27.1.2.2, Ti y27.2.1.1, Ti y27.2.1.2.1, Ti y27.2.1.2.2, Ti y27.2.2.1, Ti y27.2.2.2.1, Ti y27.2.2.2.2]), (48, .box [Ti vh3.1, Ti vh3.2.1, Ti vh3.2.2])]⟩) (by kernel_rfl) ?_
       refine V_e (mb 117 944473296573929042997312) [128, 120, 112, 104, 96, 48] (s1 := ⟨bt 6 (.pt 48 0 :: bt 5 (.pt 96 0 :: .pt 104 0 :: .pt 112 0 :: .pt 120 0 :: .pt 128 0 :: I 1 :: bt 57 (I 1 :: .bot :: .bot :: I 1 :: Bo true :: bt 37 []))), [(128, .box [Ti g2.1, Ti g2.2.1, Ti g2.2.2]), (120, .box [Ti f1.1, Ti f1.2.1, Ti f1.2.2]), (112, .box [Ti y29.1.1, Ti y29.1.2.1, Ti y29.1.2.2, Ti y29.2.1.1, Ti y29.2.1.2.1, Ti y29.2.1.2.2, Ti y29.2.2.1, Ti y29.2.2.2.1, Ti y29.2.2.2.2]), (104, .box [Ti y28.1.1, Ti y28.1.2.1, Ti y28.1.2.2, Ti y28.2.1.1, Ti y28.2.1.2.1, Ti y28.2.1.2.2, Ti y28.2.2.1, Ti y28.2.2.2.1, Ti y28.2.2.2.2]), (96, .box [Ti y27.1.1, Ti y27.1.2.1, Ti y27.1.2.2, Ti y27.2.1.1, Ti y27.2.1.2.1, Ti y27.2.1.2.2, Ti y27.2.2.1, Ti y27.2.2.2.1, Ti y27.2.2.2.2]), (48, .box [Ti vh3.1, Ti vh3.2.1, Ti vh3.2.2])]⟩) ?_
       refine V_seq ?_
       refine V_cond_true rfl ?_
       refine V_skip ?_
       show V _ _ _ _
       refine V_seq ?_
       refine V_block ?_
       refine V_e (mb 117 340010386766614455906368) [128, 120, 112, 104, 96, 48] (s1 := ⟨bt 6 (.pt 48 0 :: bt 5 (.pt 96 0 :: .pt 104 0 :: .pt 112 0 :: .pt 120 0 :: .pt 128 0 :: I 1 :: I 1 :: bt 56 (I 1 :: .bot :: .bot :: I 1 :: bt 38 []))), [(128, .box [Ti g2.1, Ti g2.2.1, Ti g2.2.2]), (120, .box [Ti f1.1, Ti f1.2.1, Ti f1.2.2]), (112, .box [Ti y29.1.1, Ti y29.1.2.1, Ti y29.1.2.2, Ti y29.2.1.1, Ti y29.2.1.2.1, Ti y29.2.1.2.2, Ti y29.2.2.1, Ti y29.2.2.2.1, Ti y29.2.2.2.2]), (104, .box [Ti y28.1.1, Ti y28.1.2.1, Ti y28.1.2.2, Ti y28.2.1.1, Ti y28.2.1.2.1, Ti y28.2.1.2.2, Ti y28.2.2.1, Ti y28.2.2.2.1, Ti y28.2.2.2.2]), (96, .box [Ti y27.1.1, Ti y27.1.2.1, Ti y27.1.2.2, Ti y27.2.1.1, Ti y27.2.1.2.1, Ti y27.2.1.2.2, Ti y27.2.2.1, Ti y27.2.2.2.1, Ti y27.2.2.2.2]), (48, .box [Ti vh3.1, Ti vh3.2.1, Ti vh3.2.2])]⟩) ?_
       obtain ⟨t46, ht46, h⟩ := of_bind h
       have ht46 := some_inj ht46
       refine V_sdreg [0, 1, 0, 0, 4, 28, 60, 127, 0, 256, 0, 0, 1024, 7168, 15360, 32512, 65535, 0, 131072, 0, 0, 524288, 3670016, 7864320, 16646144, 33554431, 0, 67108864, 201326592, 0, 536870912, 1610612736, 4227858432, 8589934591] 34 (cdm 34 [49189065721488485024, 49189065721488485025, 49189065721488474250, 49189065721488474666, 49189065721488474266, 49189065721488474458, 49189065721488475482, 49189065721488479573, 49189065719340378794, 49189065719340444330, 49189065718634293930, 49189065718661556906, 49189065718635342506, 49189065718647925418, 49189065718715034282, 49189065718983142058, 49189065720056862037, 49188502608326339242, 49188502625506208426, 49188317512415750826, 49188324659241331370, 49188317787293657770, 49188321085828541098, 49188338678014585514, 49188408960859417258, 49188690430109504853, 12108678198123473578, 12113181797750844074, 12131196196260326058, 192153584101141162, 480383960252852906, 1633305464859699882, 6150415891112307370, 24595658764946068821]) (mb 117 20769187434479320900888599772524608) [128, 120, 112, 104, 96, 48] (s1 := ⟨bt 6 (.pt 48 0 :: bt 5 (.pt 96 0 :: .pt 104 0 :: .pt 112 0 :: .pt 120 0 :: .pt 128 0 :: I 1 :: bt 57 (I 1 :: .bot :: .bot :: I 1 :: bt 35 (Bo t46 :: .bot :: .bot :: [])))), [(128, .box [Ti g2.1, Ti g2.2.1, Ti g2.2.2]), (120, .box [Ti f1.1, Ti f1.2.1, Ti f1.2.2]), (112, .box [Ti y29.1.1, Ti y29.1.2.1, Ti y29.1.2.2, Ti y29.2.1.1, Ti y29.2.1.2.1, Ti y29.2.1.2.2, Ti y29.2.2.1, Ti y29.2.2.2.1, Ti y29.2.2.2.2]), (104, .box [Ti y28.1.1, Ti y28.1.2.1, Ti y28.1.2.2, Ti y28.2.1.1, Ti y28.2.1.2.1, Ti y28.2.1.2.2, Ti y28.2.2.1, Ti y28.2.2.2.1, Ti y28.2.2.2.2]), (96, .box [Ti y27.1.1, Ti y27.1.2.1, Ti y27.1.2.2, Ti y27.2.1.1, Ti y27.2.1.2.1, Ti y27.2.1.2.2, Ti y27.2.2.1, Ti y27.2.2.2.1, Ti y27.2.2.2.2]), (48, .box [Ti vh3.1, Ti vh3.2.1, Ti vh3.2.2])]⟩) (by kernel_rfl) (by kernel_rfl) ?_ ?_
       ·refine DA 34 ?_
        refine XL_nil ?_
        subst ht46
        kernel_rfl
       refine V_cond rfl (fun hc47 => ?_) (fun hc47 => ?_)
       ·have h := of_true h hc47
        refine V_e (mb 117 768) [] (s1 := ⟨bt 8 (Bo false :: Bo true :: bt 107 []), []⟩) ?_
        refine V_ret ?_
        obtain rfl := some_inj h
        show Post _ _ _ _ _
        exact ⟨.inr rfl, rfl, rfl, rfl⟩
       ·have h := of_false h hc47
        refine V_skip ?_
        show V _ _ _ _
        refine V_reg (mb 117 340010386766614455644224) [128, 120, 112, 104, 96, 48] (s1 := ⟨bt 6 (.pt 48 0 :: bt 5 (.pt 96 0 :: .pt 104 0 :: .pt 112 0 :: .pt 120 0 :: .pt 128 0 :: I 1 :: bt 57 (I 1 :: .bot :: .bot :: I 2 :: bt 38 []))), [(128, .box [Ti g2.1, Ti g2.2.1, Ti g2.2.2]), (120, .box [Ti f1.1, Ti f1.2.1, Ti f1.2.2]), (112, .box [Ti y29.1.1, Ti y29.1.2.1, Ti y29.1.2.2, Ti y29.2.1.1, Ti y29.2.1.2.1, Ti y29.2.1.2.2, Ti y29.2.2.1, Ti y29.2.2.2.1, Ti y29.2.2.2.2]), (104, .box [Ti y28.1.1, Ti y28.1.2.1, Ti y28.1.2.2, Ti y28.2.1.1, Ti y28.2.1.2.1, Ti y28.2.1.2.2, Ti y28.2.2.1, Ti y28.2.2.2.1, Ti y28.2.2.2.2]), (96, .box [Ti y27.1.1, Ti y27.1.2.1, Ti y27.1.2.2, Ti y27.2.1.1, Ti y27.2.1.2.1, Ti y27.2.1.2.2, Ti y27.2.2.1, Ti y27.2.2.2.1, Ti y27.2.2.2.2]), (48, .box [Ti vh3.1, Ti vh3.2.1, Ti vh3.2.2])]⟩) ?_ ?_
        ·exact XE
        show VR _ _ _ _ _
        refine VR_s (n := 37) ?_
        refine V_keep (mb 117 340010386766614455644224) [128, 120, 112, 104, 96, 48] (s' := ⟨bt 6 (.pt 48 0 :: bt 5 (.pt 96 0 :: .pt 104 0 :: .pt 112 0 :: .pt 120 0 :: .pt 128 0 :: I 1 :: bt 57 (I 1 :: .bot :: .bot :: I 2 :: bt 38 []))), [(128, .box [Ti g2.1, Ti g2.2.1, Ti g2.2.2]), (120, .box [Ti f1.1, Ti f1.2.1, Ti f1.2.2]), (112, .box [Ti y29.1.1, Ti y29.1.2.1, Ti y29.1.2.2, Ti y29.2.1.1, Ti y29.2.1.2.1, Ti y29.2.1.2.2, Ti y29.2.2.1, Ti y29.2.2.2.1, Ti y29.2.2.2.2]), (104, .box [Ti y28.1.1, Ti y28.1.2.1, Ti y28.1.2.2, Ti y28.2.1.1, Ti y28.2.1.2.1, Ti y28.2.1.2.2, Ti y28.2.2.1, Ti y28.2.2.2.1, Ti y28.2.2.2.2]), (96, .box [Ti y27.1.1, Ti y27.1.2.1, Ti y27.1.2.2, Ti y27.2.1.1, Ti y27.2.1.2.1, Ti y27.2.1.2.2, Ti y27.2.2.1, Ti y27.2.2.2.1, Ti y27.2.2.2.2]), (48, .box [Ti vh3.1, Ti vh3.2.1, Ti vh3.2.2])]⟩) (by kernel_rfl) ?_
        refine V_e (mb 117 944473296573929042997312) [128, 120, 112, 104, 96, 48] (s1 := ⟨bt 6 (.pt 48 0 :: bt 5 (.pt 96 0 :: .pt 104 0 :: .pt 112 0 :: .pt 120 0 :: .pt 128 0 :: I 1 :: bt 57 (I 1 :: .bot :: .bot :: I 2 :: Bo true :: bt 37 []))), [(128, .box [Ti g2.1, Ti g2.2.1, Ti g2.2.2]), (120, .box [Ti f1.1, Ti f1.2.1, Ti f1.2.2]), (112, .box [Ti y29.1.1, Ti y29.1.2.1, Ti y29.1.2.2, Ti y29.2.1.1, Ti y29.2.1.2.1, Ti y29.2.1.2.2, Ti y29.2.2.1, Ti y29.2.2.2.1, Ti y29.2.2.2.2]), (104, .box [Ti y28.1.1, Ti y28.1.2.1, Ti y28.1.2.2, Ti y28.2.1.1, Ti y28.2.1.2.1, Ti y28.2.1.2.2, Ti y28.2.2.1, Ti y28.2.2.2.1, Ti y28.2.2.2.2]), (96, .box [Ti y27.1.1, Ti y27.1.2.1, Ti y27.1.2.2, Ti y27.2.1.1, Ti y27.2.1.2.1, Ti y27.2.1.2.2, Ti y27.2.2.1, Ti y27.2.2.2.1, Ti y27.2.2.2.2]), (48, .box [Ti vh3.1, Ti vh3.2.1, Ti vh3.2.2])]⟩) ?_
        refine V_seq ?_
        refine V_cond_true rfl ?_
        refine V_skip ?_
        show V _ _ _ _
        refine V_seq ?_
        refine V_block ?_
        refine V_e (mb 117 340010386766614455906368) [128, 120, 112, 104, 96, 48] (s1 := ⟨bt 6 (.pt 48 0 :: bt 5 (.pt 96 0 :: .pt 104 0 :: .pt 112 0 :: .pt 120 0 :: .pt 128 0 :: I 1 :: I 2 :: bt 56 (I 1 :: .bot :: .bot :: I 2 :: bt 38 []))), [(128, .box [Ti g2.1, Ti g2.2.1, Ti g2.2.2]), (120, .box [Ti f1.1, Ti f1.2.1, Ti f1.2.2]), (112, .box [Ti y29.1.1, Ti y29.1.2.1, Ti y29.1.2.2, Ti y29.2.1.1, Ti y29.2.1.2.1, Ti y29.2.1.2.2, Ti y29.2.2.1, Ti y29.2.2.2.1, Ti y29.2.2.2.2]), (104, .box [Ti y28.1.1, Ti y28.1.2.1, Ti y28.1.2.2, Ti y28.2.1.1, Ti y28.2.1.2.1, Ti y28.2.1.2.2, Ti y28.2.2.1, Ti y28.2.2.2.1, Ti y28.2.2.2.2]), (96, .box [Ti y27.1.1, Ti y27.1.2.1, Ti y27.1.2.2, Ti y27.2.1.1, Ti y27.2.1.2.1, Ti y27.2.1.2.2, Ti y27.2.2.1, Ti y27.2.2.2.1, Ti y27.2.2.2.2]), (48, .box [Ti vh3.1, Ti vh3.2.1, Ti vh3.2.2])]⟩) ?_
        obtain ⟨t49, ht49, h⟩ := of_bind h
        have ht49 := some_inj ht49
        refine V_sdreg [0, 1, 0, 0, 4, 28, 60, 127, 0, 256, 0, 0, 1024, 7168, 15360, 32512, 65535, 0, 131072, 0, 0, 524288, 3670016, 7864320, 16646144, 33554431, 0, 67108864, 201326592, 0, 536870912, 1610612736, 4227858432, 8589934591] 34 (cdm 34 [49189065721488485024, 49189065721488485025, 49189065721488474250, 49189065721488474666, 49189065721488474266, 49189065721488474458, 49189065721488475482, 49189065721488479573, 49189065719340378794, 49189065719340444330, 49189065718634293930, 49189065718661556906, 49189065718635342506, 49189065718647925418, 49189065718715034282, 49189065718983142058, 49189065720056862037, 49188502608326339242, 49188502625506208426, 49188317512415750826, 49188324659241331370, 49188317787293657770, 49188321085828541098, 49188338678014585514, 49188408960859417258, 49188690430109504853, 12108678198123473578, 12113181797750844074, 12131196196260326058, 192153584101141162, 480383960252852906, 1633305464859699882, 6150415891112307370, 24595658764946068821]) (mb 117 20769187434479320900888599772524608) [128, 120, 112, 104, 96, 48] (s1 := ⟨bt 6 (.pt 48 0 :: bt 5 (.pt 96 0 :: .pt 104 0 :: .pt 112 0 :: .pt 120 0 :: .pt 128 0 :: I 1 :: bt 57 (I 1 :: .bot :: .bot :: I 2 :: bt 35 (Bo t49 :: .bot :: .bot :: [])))), [(128, .box [Ti g2.1, Ti g2.2.1, Ti g2.2.2]), (120, .box [Ti f1.1, Ti f1.2.1, Ti f1.2.2]), (112, .box [Ti y29.1.1, Ti y29.1.2.1, Ti y29.1.2.2, Ti y29.2.1.1, Ti y29.2.1.2.1, Ti y29.2.1.2.2, Ti y29.2.2.1, Ti y29.2.2.2.1, Ti y29.2.2.2.2]), (104, .box [Ti y28.1.1, Ti y28.1.2.1, Ti y28.1.2.2, Ti y28.2.1.1, Ti y28.2.1.2.1, Ti y28.2.1.2.2, Ti y28.2.2.1, Ti y28.2.2.2.1, Ti y28.2.2.2.2]), (96, .box [Ti y27.1.1, Ti y27.1.2.1, Ti y27.1.2.2, Ti y27.2.1.1, Ti y27.2.1.2.1, Ti y27.2.1.2.2, Ti y27.2.2.1, Ti y27.2.2.2.1, Ti y27.2.2.2.2]), (48, .box [Ti vh3.1, Ti vh3.2.1, Ti vh3.2.2])]⟩) (by kernel_rfl) (by kernel_rfl) ?_ ?_
        ·refine DA 34 ?_
         refine XL_nil ?_
         subst ht49
         kernel_rfl
        refine V_cond rfl (fun hc50 => ?_) (fun hc50 => ?_)
        ·have h := of_true h hc50
         refine V_e (mb 117 768) [] (s1 := ⟨bt 8 (Bo false :: Bo true :: bt 107 []), []⟩) ?_
         refine V_ret ?_
         obtain rfl := some_inj h
         show Post _ _ _ _ _
         exact ⟨.inr rfl, rfl, rfl, rfl⟩
        ·have h := of_false h hc50
         refine V_skip ?_
         show V _ _ _ _
         refine V_reg (mb 117 340010386766614455644224) [128, 120, 112, 104, 96, 48] (s1 := ⟨bt 6 (.pt 48 0 :: bt 5 (.pt 96 0 :: .pt 104 0 :: .pt 112 0 :: .pt 120 0 :: .pt 128 0 :: I 1 :: bt 57 (I 1 :: .bot :: .bot :: I 3 :: bt 38 []))), [(128, .box [Ti g2.1, Ti g2.2.1, Ti g2.2.2]), (120, .box [Ti f1.1, Ti f1.2.1, Ti f1.2.2]), (112, .box [Ti y29.1.1, Ti y29.1.2.1, Ti y29.1.2.2, Ti y29.2.1.1, Ti y29.2.1.2.1, Ti y29.2.1.2.2, Ti y29.2.2.1, Ti y29.2.2.2.1, Ti y29.2.2.2.2]), (104, .box [Ti y28.1.1, Ti y28.1.2.1, Ti y28.1.2.2, Ti y28.2.1.1, Ti y28.2.1.2.1, Ti y28.2.1.2.2, Ti y28.2.2.1, Ti y28.2.2.2.1, Ti y28.2.2.2.2]), (96, .box [Ti y27.1.1, Ti y27.1.2.1, Ti y27.1.2.2, Ti y27.2.1.1, Ti y27.2.1.2.1, Ti y27.2.1.2.2, Ti y27.2.2.1, Ti y27.2.2.2.1, Ti y27.2.2.2.2]), (48, .box [Ti vh3.1, Ti vh3.2.1, Ti vh3.2.2])]⟩) ?_ ?_
         ·exact XE
         show VR _ _ _ _ _
         refine VR_s (n := 36) ?_
         refine V_keep (mb 117 340010386766614455644224) [128, 120, 112, 104, 96, 48] (s' := ⟨bt 6 (.pt 48 0 :: bt 5 (.pt 96 0 :: .pt 104 0 :: .pt 112 0 :: .pt 120 0 :: .pt 128 0 :: I 1 :: bt 57 (I 1 :: .bot :: .bot :: I 3 :: bt 38 []))), [(128, .box [Ti g2.1, Ti g2.2.1, Ti g2.2.2]), (120, .box [Ti f1.1, Ti f1.2.1, Ti f1.2.2]), (112, .box [Ti y29.1.1, Ti y29.1.2.1, Ti y29.1.2.2, Ti y29.2.1.1, Ti y29.2.1.2.1, Ti y29.2.1.2.2, Ti y29.2.2.1, Ti y29.2.2.2.1, Ti y29.2.2.2.2]), (104, .box [Ti y28.1.1, Ti y28.1.2.1, Ti y28.1.2.2, Ti y28.2.1.1, Ti y28.2.1.2.1, Ti y28.2.1.2.2, Ti y28.2.2.1, Ti y28.2.2.2.1, Ti y28.2.2.2.2]), (96, .box [Ti y27.1.1, Ti y27.1.2.1, Ti y27.1.2.2, Ti y27.2.1.1, Ti y27.2.1.2.1, Ti y27.2.1.2.2, Ti y27.2.2.1, Ti y27.2.2.2.1, Ti y27.2.2.2.2]), (48, .box [Ti vh3.1, Ti vh3.2.1, Ti vh3.2.2])]⟩) (by kernel_rfl) ?_
         refine V_e (mb 117 944473296573929042997312) [128, 120, 112, 104, 96, 48] (s1 := ⟨bt 6 (.pt 48 0 :: bt 5 (.pt 96 0 :: .pt 104 0 :: .pt 112 0 :: .pt 120 0 :: .pt 128 0 :: I 1 :: bt 57 (I 1 :: .bot :: .bot :: I 3 :: Bo false :: bt 37 []))), [(128, .box [Ti g2.1, Ti g2.2.1, Ti g2.2.2]), (120, .box [Ti f1.1, Ti f1.2.1, Ti f1.2.2]), (112, .box [Ti y29.1.1, Ti y29.1.2.1, Ti y29.1.2.2, Ti y29.2.1.1, Ti y29.2.1.2.1, Ti y29.2.1.2.2, Ti y29.2.2.1, Ti y29.2.2.2.1, Ti y29.2.2.2.2]), (104, .box [Ti y28.1.1, Ti y28.1.2.1, Ti y28.1.2.2, Ti y28.2.1.1, Ti y28.2.1.2.1, Ti y28.2.1.2.2, Ti y28.2.2.1, Ti y28.2.2.2.1, Ti y28.2.2.2.2]), (96, .box [Ti y27.1.1, Ti y27.1.2.1, Ti y27.1.2.2, Ti y27.2.1.1, Ti y27.2.1.2.1, Ti y27.2.1.2.2, Ti y27.2.2.1, Ti y27.2.2.2.1, Ti y27.2.2.2.2]), (48, .box [Ti vh3.1, Ti vh3.2.1, Ti vh3.2.2])]⟩) ?_
         refine V_seq ?_
         refine V_cond_false rfl ?_
         refine V_exit ?_
         show V _ _ _ _
         refine V_reg (mb 117 37778931862957161836608) [128, 120, 112, 104, 96, 48] (s1 := ⟨bt 6 (.pt 48 0 :: bt 5 (.pt 96 0 :: .pt 104 0 :: .pt 112 0 :: .pt 120 0 :: .pt 128 0 :: bt 58 (I 2 :: bt 41 []))), [(128, .box [Ti g2.1, Ti g2.2.1, Ti g2.2.2]), (120, .box [Ti f1.1, Ti f1.2.1, Ti f1.2.2]), (112, .box [Ti y29.1.1, Ti y29.1.2.1, Ti y29.1.2.2, Ti y29.2.1.1, Ti y29.2.1.2.1, Ti y29.2.1.2.2, Ti y29.2.2.1, Ti y29.2.2.2.1, Ti y29.2.2.2.2]), (104, .box [Ti y28.1.1, Ti y28.1.2.1, Ti y28.1.2.2, Ti y28.2.1.1, Ti y28.2.1.2.1, Ti y28.2.1.2.2, Ti y28.2.2.1, Ti y28.2.2.2.1, Ti y28.2.2.2.2]), (96, .box [Ti y27.1.1, Ti y27.1.2.1, Ti y27.1.2.2, Ti y27.2.1.1, Ti y27.2.1.2.1, Ti y27.2.1.2.2, Ti y27.2.2.1, Ti y27.2.2.2.1, Ti y27.2.2.2.2]), (48, .box [Ti vh3.1, Ti vh3.2.1, Ti vh3.2.2])]⟩) ?_ ?_
         ·exact XE
         show VR _ _ _ _ _
         refine VR_s (n := 37) ?_
         refine V_keep (mb 117 37778931862957161836608) [128, 120, 112, 104, 96, 48] (s' := ⟨bt 6 (.pt 48 0 :: bt 5 (.pt 96 0 :: .pt 104 0 :: .pt 112 0 :: .pt 120 0 :: .pt 128 0 :: bt 58 (I 2 :: bt 41 []))), [(128, .box [Ti g2.1, Ti g2.2.1, Ti g2.2.2]), (120, .box [Ti f1.1, Ti f1.2.1, Ti f1.2.2]), (112, .box [Ti y29.1.1, Ti y29.1.2.1, Ti y29.1.2.2, Ti y29.2.1.1, Ti y29.2.1.2.1, Ti y29.2.1.2.2, Ti y29.2.2.1, Ti y29.2.2.2.1, Ti y29.2.2.2.2]), (104, .box [Ti y28.1.1, Ti y28.1.2.1, Ti y28.1.2.2, Ti y28.2.1.1, Ti y28.2.1.2.1, Ti y28.2.1.2.2, Ti y28.2.2.1, Ti y28.2.2.2.1, Ti y28.2.2.2.2]), (96, .box [Ti y27.1.1, Ti y27.1.2.1, Ti y27.1.2.2, Ti y27.2.1.1, Ti y27.2.1.2.1, Ti y27.2.1.2.2, Ti y27.2.2.1, Ti y27.2.2.2.1, Ti y27.2.2.2.2]), (48, .box [Ti vh3.1, Ti vh3.2.1, Ti vh3.2.2])]⟩) (by kernel_rfl) ?_
         refine V_e (mb 117 113336795588871485255744) [128, 120, 112, 104, 96, 48] (s1 := ⟨bt 6 (.pt 48 0 :: bt 5 (.pt 96 0 :: .pt 104 0 :: .pt 112 0 :: .pt 120 0 :: .pt 128 0 :: bt 58 (I 2 :: Bo true :: bt 40 []))), [(128, .box [Ti g2.1, Ti g2.2.1, Ti g2.2.2]), (120, .box [Ti f1.1, Ti f1.2.1, Ti f1.2.2]), (112, .box [Ti y29.1.1, Ti y29.1.2.1, Ti y29.1.2.2, Ti y29.2.1.1, Ti y29.2.1.2.1, Ti y29.2.1.2.2, Ti y29.2.2.1, Ti y29.2.2.2.1, Ti y29.2.2.2.2]), (104, .box [Ti y28.1.1, Ti y28.1.2.1, Ti y28.1.2.2, Ti y28.2.1.1, Ti y28.2.1.2.1, Ti y28.2.1.2.2, Ti y28.2.2.1, Ti y28.2.2.2.1, Ti y28.2.2.2.2]), (96, .box [Ti y27.1.1, Ti y27.1.2.1, Ti y27.1.2.2, Ti y27.2.1.1, Ti y27.2.1.2.1, Ti y27.2.1.2.2, Ti y27.2.2.1, Ti y27.2.2.2.1, Ti y27.2.2.2.2]), (48, .box [Ti vh3.1, Ti vh3.2.1, Ti vh3.2.2])]⟩) ?_
         refine V_seq ?_
         refine V_cond_true rfl ?_
         refine V_skip ?_
         show V _ _ _ _
         refine V_seq ?_
         refine V_block ?_
         refine V_e (mb 117 37778931862957161967680) [128, 120, 112, 104, 96, 48] (s1 := ⟨bt 6 (.pt 48 0 :: bt 5 (.pt 96 0 :: .pt 104 0 :: .pt 112 0 :: .pt 120 0 :: .pt 128 0 :: I 2 :: bt 57 (I 2 :: bt 41 []))), [(128, .box [Ti g2.1, Ti g2.2.1, Ti g2.2.2]), (120, .box [Ti f1.1, Ti f1.2.1, Ti f1.2.2]), (112, .box [Ti y29.1.1, Ti y29.1.2.1, Ti y29.1.2.2, Ti y29.2.1.1, Ti y29.2.1.2.1, Ti y29.2.1.2.2, Ti y29.2.2.1, Ti y29.2.2.2.1, Ti y29.2.2.2.2]), (104, .box [Ti y28.1.1, Ti y28.1.2.1, Ti y28.1.2.2, Ti y28.2.1.1, Ti y28.2.1.2.1, Ti y28.2.1.2.2, Ti y28.2.2.1, Ti y28.2.2.2.1, Ti y28.2.2.2.2]), (96, .box [Ti y27.1.1, Ti y27.1.2.1, Ti y27.1.2.2, Ti y27.2.1.1, Ti y27.2.1.2.1, Ti y27.2.1.2.2, Ti y27.2.2.1, Ti y27.2.2.2.1, Ti y27.2.2.2.2]), (48, .box [Ti vh3.1, Ti vh3.2.1, Ti vh3.2.2])]⟩) ?_
         refine V_e (mb 117 340010386766614455644224) [128, 120, 112, 104, 96, 48] (s1 := ⟨bt 6 (.pt 48 0 :: bt 5 (.pt 96 0 :: .pt 104 0 :: .pt 112 0 :: .pt 120 0 :: .pt 128 0 :: I 2 :: bt 57 (I 2 :: .bot :: .bot :: I 0 :: bt 38 []))), [(128, .box [Ti g2.1, Ti g2.2.1, Ti g2.2.2]), (120, .box [Ti f1.1, Ti f1.2.1, Ti f1.2.2]), (112, .box [Ti y29.1.1, Ti y29.1.2.1, Ti y29.1.2.2, Ti y29.2.1.1, Ti y29.2.1.2.1, Ti y29.2.1.2.2, Ti y29.2.2.1, Ti y29.2.2.2.1, Ti y29.2.2.2.2]), (104, .box [Ti y28.1.1, Ti y28.1.2.1, Ti y28.1.2.2, Ti y28.2.1.1, Ti y28.2.1.2.1, Ti y28.2.1.2.2, Ti y28.2.2.1, Ti y28.2.2.2.1, Ti y28.2.2.2.2]), (96, .box [Ti y27.1.1, Ti y27.1.2.1, Ti y27.1.2.2, Ti y27.2.1.1, Ti y27.2.1.2.1, Ti y27.2.1.2.2, Ti y27.2.2.1, Ti y27.2.2.2.1, Ti y27.2.2.2.2]), (48, .box [Ti vh3.1, Ti vh3.2.1, Ti vh3.2.2])]⟩) ?_
         refine V_block (V_unroll 40 ?_)
         refine VR_s (n := 39) ?_
         refine V_keep (mb 117 340010386766614455644224) [128, 120, 112, 104, 96, 48] (s' := ⟨bt 6 (.pt 48 0 :: bt 5 (.pt 96 0 :: .pt 104 0 :: .pt 112 0 :: .pt 120 0 :: .pt 128 0 :: I 2 :: bt 57 (I 2 :: .bot :: .bot :: I 0 :: bt 38 []))), [(128, .box [Ti g2.1, Ti g2.2.1, Ti g2.2.2]), (120, .box [Ti f1.1, Ti f1.2.1, Ti f1.2.2]), (112, .box [Ti y29.1.1, Ti y29.1.2.1, Ti y29.1.2.2, Ti y29.2.1.1, Ti y29.2.1.2.1, Ti y29.2.1.2.2, Ti y29.2.2.1, Ti y29.2.2.2.1, Ti y29.2.2.2.2]), (104, .box [Ti y28.1.1, Ti y28.1.2.1, Ti y28.1.2.2, Ti y28.2.1.1, Ti y28.2.1.2.1, Ti y28.2.1.2.2, Ti y28.2.2.1, Ti y28.2.2.2.1, Ti y28.2.2.2.2]), (96, .box [Ti y27.1.1, Ti y27.1.2.1, Ti y27.1.2.2, Ti y27.2.1.1, Ti y27.2.1.2.1, Ti y27.2.1.2.2, Ti y27.2.2.1, Ti y27.2.2.2.1, Ti y27.2.2.2.2]), (48, .box [Ti vh3.1, Ti vh3.2.1, Ti vh3.2.2])]⟩) (by kernel_rfl) ?_
         refine V_e (mb 117 944473296573929042997312) [128, 120, 112, 104, 96, 48] (s1 := ⟨bt 6 (.pt 48 0 :: bt 5 (.pt 96 0 :: .pt 104 0 :: .pt 112 0 :: .pt 120 0 :: .pt 128 0 :: I 2 :: bt 57 (I 2 :: .bot :: .bot :: I 0 :: Bo true :: bt 37 []))), [(128, .box [Ti g2.1, Ti g2.2.1, Ti g2.2.2]), (120, .box [Ti f1.1, Ti f1.2.1, Ti f1.2.2]), (112, .box [Ti y29.1.1, Ti y29.1.2.1, Ti y29.1.2.2, Ti y29.2.1.1, Ti y29.2.1.2.1, Ti y29.2.1.2.2, Ti y29.2.2.1, Ti y29.2.2.2.1, Ti y29.2.2.2.2]), (104, .box [Ti y28.1.1, Ti y28.1.2.1, Ti y28.1.2.2, Ti y28.2.1.1, Ti y28.2.1.2.1, Ti y28.2.1.2.2, Ti y28.2.2.1, Ti y28.2.2.2.1, Ti y28.2.2.2.2]), (96, .box [Ti y27.1.1, Ti y27.1.2.1, Ti y27.1.2.2, Ti y27.2.1.1, Ti y27.2.1.2.1, Ti y27.2.1.2.2, Ti y27.2.2.1, Ti y27.2.2.2.1, Ti y27.2.2.2.2]), (48, .box [Ti vh3.1, Ti vh3.2.1, Ti vh3.2.2])]⟩) ?_
         refine V_seq ?_
         refine V_cond_true rfl ?_
         refine V_skip ?_
         show V _ _ _ _
         refine V_seq ?_
         refine V_block ?_
         refine V_e (mb 117 340010386766614455906368) [128, 120, 112, 104, 96, 48] (s1 := ⟨bt 6 (.pt 48 0 :: bt 5 (.pt 96 0 :: .pt 104 0 :: .pt 112 0 :: .pt 120 0 :: .pt 128 0 :: I 2 :: I 0 :: bt 56 (I 2 :: .bot :: .bot :: I 0 :: bt 38 []))), [(128, .box [Ti g2.1, Ti g2.2.1, Ti g2.2.2]), (120, .box [Ti f1.1, Ti f1.2.1, Ti f1.2.2]), (112, .box [Ti y29.1.1, Ti y29.1.2.1, Ti y29.1.2.2, Ti y29.2.1.1, Ti y29.2.1.2.1, Ti y29.2.1.2.2, Ti y29.2.2.1, Ti y29.2.2.2.1, Ti y29.2.2.2.2]), (104, .box [Ti y28.1.1, Ti y28.1.2.1, Ti y28.1.2.2, Ti y28.2.1.1, Ti y28.2.1.2.1, Ti y28.2.1.2.2, Ti y28.2.2.1, Ti y28.2.2.2.1, Ti y28.2.2.2.2]), (96, .box [Ti y27.1.1, Ti y27.1.2.1, Ti y27.1.2.2, Ti y27.2.1.1, Ti y27.2.1.2.1, Ti y27.2.1.2.2, Ti y27.2.2.1, Ti y27.2.2.2.1, Ti y27.2.2.2.2]), (48, .box [Ti vh3.1, Ti vh3.2.1, Ti vh3.2.2])]⟩) ?_
         obtain ⟨t54, ht54, h⟩ := of_bind h
         have ht54 := some_inj ht54
         refine V_sdreg [0, 1, 0, 0, 4, 28, 60, 127, 0, 256, 0, 0, 1024, 7168, 15360, 32512, 65535, 0, 131072, 0, 0, 524288, 3670016, 7864320, 16646144, 33554431, 0, 67108864, 201326592, 0, 536870912, 1610612736, 4227858432, 8589934591] 34 (cdm 34 [49189065721488485024, 49189065721488485025, 49189065721488474250, 49189065721488474666, 49189065721488474266, 49189065721488474458, 49189065721488475482, 49189065721488479573, 49189065719340378794, 49189065719340444330, 49189065718634293930, 49189065718661556906, 49189065718635342506, 49189065718647925418, 49189065718715034282, 49189065718983142058, 49189065720056862037, 49188502608326339242, 49188502625506208426, 49188317512415750826, 49188324659241331370, 49188317787293657770, 49188321085828541098, 49188338678014585514, 49188408960859417258, 49188690430109504853, 12108678198123473578, 12113181797750844074, 12131196196260326058, 192153584101141162, 480383960252852906, 1633305464859699882, 6150415891112307370, 24595658764946068821]) (mb 117 20769187434479320900888599772524608) [128, 120, 112, 104, 96, 48] (s1 := ⟨bt 6 (.pt 48 0 :: bt 5 (.pt 96 0 :: .pt 104 0 :: .pt 112 0 :: .pt 120 0 :: .pt 128 0 :: I 2 :: bt 57 (I 2 :: .bot :: .bot :: I 0 :: bt 35 (Bo t54 :: .bot :: .bot :: [])))), [(128, .box [Ti g2.1, Ti g2.2.1, Ti g2.2.2]), (120, .box [Ti f1.1, Ti f1.2.1, Ti f1.2.2]), (112, .box [Ti y29.1.1, Ti y29.1.2.1, Ti y29.1.2.2, Ti y29.2.1.1, Ti y29.2.1.2.1, Ti y29.2.1.2.2, Ti y29.2.2.1, Ti y29.2.2.2.1, Ti y29.2.2.2.2]), (104, .box [Ti y28.1.1, Ti y28.1.2.1, Ti y28.1.2.2, Ti y28.2.1.1, Ti y28.2.1.2.1, Ti y28.2.1.2.2, Ti y28.2.2.1, Ti y28.2.2.2.1, Ti y28.2.2.2.2]), (96, .box [Ti y27.1.1, Ti y27.1.2.1, Ti y27.1.2.2, Ti y27.2.1.1, Ti y27.2.1.2.1, Ti y27.2.1.2.2, Ti y27.2.2.1, Ti y27.2.2.2.1, Ti y27.2.2.2.2]), (48, .box [Ti vh3.1, Ti vh3.2.1, Ti vh3.2.2])]⟩) (by kernel_rfl) (by kernel_rfl) ?_ ?_
         ·refine DA 34 ?_
          refine XL_nil ?_
          subst ht54
          kernel_rfl
         refine V_cond rfl (fun hc55 => ?_) (fun hc55 => ?_)
         ·have h := of_true h hc55
          refine V_e (mb 117 768) [] (s1 := ⟨bt 8 (Bo false :: Bo true :: bt 107 []), []⟩) ?_
          refine V_ret ?_
          obtain rfl := some_inj h
          show Post _ _ _ _ _
          exact ⟨.inr rfl, rfl, rfl, rfl⟩
         ·have h := of_false h hc55
          refine V_skip ?_
          show V _ _ _ _
          refine V_reg (mb 117 340010386766614455644224) [128, 120, 112, 104, 96, 48] (s1 := ⟨bt 6 (.pt 48 0 :: bt 5 (.pt 96 0 :: .pt 104 0 :: .pt 112 0 :: .pt 120 0 :: .pt 128 0 :: I 2 :: bt 57 (I 2 :: .bot :: .bot :: I 1 :: bt 38 []))), [(128, .box [Ti g2.1, Ti g2.2.1, Ti g2.2.2]), (120, .box [Ti f1.1, Ti f1.2.1, Ti f1.2.2]), (112, .box [Ti y29.1.1, Ti y29.1.2.1, Ti y29.1.2.2, Ti y29.2.1.1, Ti y29.2.1.2.1, Ti y29.2.1.2.2, Ti y29.2.2.1, Ti y29.2.2.2.1, Ti y29.2.2.2.2]), (104, .box [Ti y28.1.1, Ti y28.1.2.1, Ti y28.1.2.2, Ti y28.2.1.1, Ti y28.2.1.2.1, Ti y28.2.1.2.2, Ti y28.2.2.1, Ti y28.2.2.2.1, Ti y28.2.2.2.2]), (96, .box [Ti y27.1.1, Ti y27.1.2.1, Ti y27.1.2.2, Ti y27.2.1.1, Ti y27.2.1.2.1, Ti y27.2.1.2.2, Ti y27.2.2.1, Ti y27.2.2.2.1, Ti y27.2.2.2.2]), (48, .box [Ti vh3.1, Ti vh3.2.1, Ti vh3.2.2])]⟩) ?_ ?_
          ·exact XE
          show VR _ _ _ _ _
          refine VR_s (n := 38) ?_
          refine V_keep (mb 117 340010386766614455644224) [128, 120, 112, 104, 96, 48] (s' := ⟨bt 6 (.pt 48 0 :: bt 5 (.pt 96 0 :: .pt 104 0 :: .pt 112 0 :: .pt 120 0 :: .pt 128 0 :: I 2 :: bt 57 (I 2 :: .bot :: .bot :: I 1 :: bt 38 []))), [(128, .box [Ti g2.1, Ti g2.2.1, Ti g2.2.2]), (120, .box [Ti f1.1, Ti f1.2.1, Ti f1.2.2]), (112, .box [Ti y29.1.1, Ti y29.1.2.1, Ti y29.1.2.2, Ti y29.2.1.1, Ti y29.2.1.2.1, Ti y29.2.1.2.2, Ti y29.2.2.1, Ti y29.2.2.2.1, Ti y29.2.2.2.2]), (104, .box [Ti y28.1.1, Ti y28.1.2.1, Ti y28.1.2.2, Ti y28.2.1.1, Ti y28.2.1.2.1, Ti y28.2.1.2.2, Ti y28.2.2.1, Ti y28.2.2.2.1, Ti y28.2.2.2.2]), (96, .box [Ti y27.1.1, Ti y27.1.2.1, Ti y27.1.2.2, Ti y27.2.1.1, Ti y27.2.1.2.1, Ti y27.2.1.2.2, Ti y27.2.2.1, Ti y27.2.2.2.1, Ti y27.2.2.2.2]), (48, .box [Ti vh3.1, Ti vh3.2.1, Ti vh3.2.2])]⟩) (by kernel_rfl) ?_
          refine V_e (mb 117 944473296573929042997312) [128, 120, 112, 104, 96, 48] (s1 := ⟨bt 6 (.pt 48 0 :: bt 5 (.pt 96 0 :: .pt 104 0 :: .pt 112 0 :: .pt 120 0 :: .pt 128 0 :: I 2 :: bt 57 (I 2 :: .bot :: .bot :: I 1 :: Bo true :: bt 37 []))), [(128, .box [Ti g2.1, Ti g2.2.1, Ti g2.2.2]), (120, .box [Ti f1.1, Ti f1.2.1, Ti f1.2.2]), (112, .box [Ti y29.1.1, Ti y29.1.2.1, Ti y29.1.2.2, Ti y29.2.1.1, Ti y29.2.1.2.1, Ti y29.2.1.2.2, Ti y29.2.2.1, Ti y29.2.2.2.1, Ti y29.2.2.2.2]), (104, .box [Ti y28.1.1, Ti y28.1.2.1, Ti y28.1.2.2, Ti y28.2.1.1, Ti y28.2.1.2.1, Ti y28.2.1.2.2, Ti y28.2.2.1, Ti y28.2.2.2.1, Ti y28.2.2.2.2]), (96, .box [Ti y27.1.1, Ti y27.1.2.1, Ti y27.1.2.2, Ti y27.2.1.1, Ti y27.2.1.2.1, Ti y27.2.1.2.2, Ti y27.2.2.1, Ti y27.2.2.2.1, Ti y27.2.2.2.2]), (48, .box [Ti vh3.1, Ti vh3.2.1, Ti vh3.2.2])]⟩) ?_
          refine V_seq ?_
          refine V_cond_true rfl ?_
          refine V_skip ?_
          show V _ _ _ _
          refine V_seq ?_
          refine V_block ?_
          refine V_e (mb 117 340010386766614455906368) [128, 120, 112, 104, 96, 48] (s1 := ⟨bt 6 (.pt 48 0 :: bt 5 (.pt 96 0 :: .pt 104 0 :: .pt 112 0 :: .pt 120 0 :: .pt 128 0 :: I 2 :: I 1 :: bt 56 (I 2 :: .bot :: .bot :: I 1 :: bt 38 []))), [(128, .box [Ti g2.1, Ti g2.2.1, Ti g2.2.2]), (120, .box [Ti f1.1, Ti f1.2.1, Ti f1.2.2]), (112, .box [Ti y29.1.1, Ti y29.1.2.1, Ti y29.1.2.2, Ti y29.2.1.1, Ti y29.2.1.2.1, Ti y29.2.1.2.2, Ti y29.2.2.1, Ti y29.2.2.2.1, Ti y29.2.2.2.2]), (104, .box [Ti y28.1.1, Ti y28.1.2.1, Ti y28.1.2.2, Ti y28.2.1.1, Ti y28.2.1.2.1, Ti y28.2.1.2.2, Ti y28.2.2.1, Ti y28.2.2.2.1, Ti y28.2.2.2.2]), (96, .box [Ti y27.1.1, Ti y27.1.2.1, Ti y27.1.2.2, Ti y27.2.1.1, Ti y27.2.1.2.1, Ti y27.2.1.2.2, Ti y27.2.2.1, Ti y27.2.2.2.1, Ti y27.2.2.2.2]), (48, .box [Ti vh3.1, Ti vh3.2.1, Ti vh3.2.2])]⟩) ?_
          obtain ⟨t57, ht57, h⟩ := of_bind h
          have ht57 := some_inj ht57
          refine V_sdreg [0, 1, 0, 0, 4, 28, 60, 127, 0, 256, 0, 0, 1024, 7168, 15360, 32512, 65535, 0, 131072, 0, 0, 524288, 3670016, 7864320, 16646144, 33554431, 0, 67108864, 201326592, 0, 536870912, 1610612736, 4227858432, 8589934591] 34 (cdm 34 [49189065721488485024, 49189065721488485025, 49189065721488474250, 49189065721488474666, 49189065721488474266, 49189065721488474458, 49189065721488475482, 49189065721488479573, 49189065719340378794, 49189065719340444330, 49189065718634293930, 49189065718661556906, 49189065718635342506, 49189065718647925418, 49189065718715034282, 49189065718983142058, 49189065720056862037, 49188502608326339242, 49188502625506208426, 49188317512415750826, 49188324659241331370, 49188317787293657770, 49188321085828541098, 49188338678014585514, 49188408960859417258, 49188690430109504853, 12108678198123473578, 12113181797750844074, 12131196196260326058, 192153584101141162, 480383960252852906, 1633305464859699882, 6150415891112307370, 24595658764946068821]) (mb 117 20769187434479320900888599772524608) [128, 120, 112, 104, 96, 48] (s1 := ⟨bt 6 (.pt 48 0 :: bt 5 (.pt 96 0 :: .pt 104 0 :: .pt 112 0 :: .pt 120 0 :: .pt 128 0 :: I 2 :: bt 57 (I 2 :: .bot :: .bot :: I 1 :: bt 35 (Bo t57 :: .bot :: .bot :: [])))), [(128, .box [Ti g2.1, Ti g2.2.1, Ti g2.2.2]), (120, .box [Ti f1.1, Ti f1.2.1, Ti f1.2.2]), (112, .box [Ti y29.1.1, Ti y29.1.2.1, Ti y29.1.2.2, Ti y29.2.1.1, Ti y29.2.1.2.1, Ti y29.2.1.2.2, Ti y29.2.2.1, Ti y29.2.2.2.1, Ti y29.2.2.2.2]), (104, .box [Ti y28.1.1, Ti y28.1.2.1, Ti y28.1.2.2, Ti y28.2.1.1, Ti y28.2.1.2.1, Ti y28.2.1.2.2, Ti y28.2.2.1, Ti y28.2.2.2.1, Ti y28.2.2.2.2]), (96, .box [Ti y27.1.1, Ti y27.1.2.1, Ti y27.1.2.2, Ti y27.2.1.1, Ti y27.2.1.2.1, Ti y27.2.1.2.2, Ti y27.2.2.1, Ti y27.2.2.2.1, Ti y27.2.2.2.2]), (48, .box [Ti vh3.1, Ti vh3.2.1, Ti vh3.2.2])]⟩) (by kernel_rfl) (by kernel_rfl) ?_ ?_
          ·refine DA 34 ?_
           refine XL_nil ?_
           subst ht57
           kernel_rfl
          refine V_cond rfl (fun hc58 => ?_) (fun hc58 => ?_)
          ·have h := of_true h hc58
           refine V_e (mb 117 768) [] (s1 := ⟨bt 8 (Bo false :: Bo true :: bt 107 []), []⟩) ?_
           refine V_ret ?_
           obtain rfl := some_inj h
           show Post _ _ _ _ _
           exact ⟨.inr rfl, rfl, rfl, rfl⟩
          ·have h := of_false h hc58
           refine V_skip ?_
           show V _ _ _ _
           refine V_reg (mb 117 340010386766614455644224) [128, 120, 112, 104, 96, 48] (s1 := ⟨bt 6 (.pt 48 0 :: bt 5 (.pt 96 0 :: .pt 104 0 :: .pt 112 0 :: .pt 120 0 :: .pt 128 0 :: I 2 :: bt 57 (I 2 :: .bot :: .bot :: I 2 :: bt 38 []))), [(128, .box [Ti g2.1, Ti g2.2.1, Ti g2.2.2]), (120, .box [Ti f1.1, Ti f1.2.1, Ti f1.2.2]), (112, .box [Ti y29.1.1, Ti y29.1.2.1, Ti y29.1.2.2, Ti y29.2.1.1, Ti y29.2.1.2.1, Ti y29.2.1.2.2, Ti y29.2.2.1, Ti y29.2.2.2.1, Ti y29.2.2.2.2]), (104, .box [Ti y28.1.1, Ti y28.1.2.1, Ti y28.1.2.2, Ti y28.2.1.1, Ti y28.2.1.2.1, Ti y28.2.1.2.2, Ti y28.2.2.1, Ti y28.2.2.2.1, Ti y28.2.2.2.2]), (96, .box [Ti y27.1.1, Ti y27.1.2.1, Ti y27.1.2.2, Ti y27.2.1.1, Ti y27.2.1.2.1, Ti y27.2.1.2.2, Ti y27.2.2.1, Ti y27.2.2.2.1, Ti y27.2.2.2.2]), (48, .box [Ti vh3.1, Ti vh3.2.1, Ti vh3.2.2])]⟩) ?_ ?_
           ·exact XE
           show VR _ _ _ _ _
           refine VR_s (n := 37) ?_
           refine V_keep (mb 117 340010386766614455644224) [128, 120, 112, 104, 96, 48] (s' := ⟨bt 6 (.pt 48 0 :: bt 5 (.pt 96 0 :: .pt 104 0 :: .pt 112 0 :: .pt 120 0 :: .pt 128 0 :: I 2 :: bt 57 (I 2 :: .bot :: .bot :: I 2 :: bt 38 []))), [(128, .box [Ti g2.1, Ti g2.2.1, Ti g2.2.2]), (120, .box [Ti f1.1, Ti f1.2.1, Ti f1.2.2]), (112, .box [Ti y29.1.1, Ti y29.1.2.1, Ti y29.1.2.2, Ti y29.2.1.1, Ti y29.2.1.2.1, Ti y29.2.1.2.2, Ti y29.2.2.1, Ti y29.2.2.2.1, Ti y29.2.2.2.2]), (104, .box [Ti y28.1.1, Ti y28.1.2.1, Ti y28.1.2.2, Ti y28.2.1.1, Ti y28.2.1.2.1, Ti y28.2.1.2.2, Ti y28.2.2.1, Ti y28.2.2.2.1, Ti y28.2.2.2.2]), (96, .box [Ti y27.1.1, Ti y27.1.2.1, Ti y27.1.2.2, Ti y27.2.1.1, Ti y27.2.1.2.1, Ti y27.2.1.2.2, Ti y27.2.2.1, Ti y27.2.2.2.1, Ti y27.2.2.2.2]), (48, .box [Ti vh3.1, Ti vh3.2.1, Ti vh3.2.2])]⟩) (by kernel_rfl) ?_
           refine V_e (mb 117 944473296573929042997312) [128, 120, 112, 104, 96, 48] (s1 := ⟨bt 6 (.pt 48 0 :: bt 5 (.pt 96 0 :: .pt 104 0 :: .pt 112 0 :: .pt 120 0 :: .pt 128 0 :: I 2 :: bt 57 (I 2 :: .bot :: .bot :: I 2 :: Bo true :: bt 37 []))), [(128, .box [Ti g2.1, Ti g2.2.1, Ti g2.2.2]), (120, .box [Ti f1.1, Ti f1.2.1, Ti f1.2.2]), (112, .box [Ti y29.1.1, Ti y29.1.2.1, Ti y29.1.2.2, Ti y29.2.1.1, Ti y29.2.1.2.1, Ti y29.2.1.2.2, Ti y29.2.2.1, Ti y29.2.2.2.1, Ti y29.2.2.2.2]), (104, .box [Ti y28.1.1, Ti y28.1.2.1, Ti y28.1.2.2, Ti y28.2.1.1, Ti y28.2.1.2.1, Ti y28.2.1.2.2, Ti y28.2.2.1, Ti y28.2.2.2.1, Ti y28.2.2.2.2]), (96, .box [Ti y27.1.1, Ti y27.1.2.1, Ti y27.1.2.2, Ti y27.2.1.1, Ti y27.2.1.2.1, Ti y27.2.1.2.2, Ti y27.2.2.1, Ti y27.2.2.2.1, Ti y27.2.2.2.2]), (48, .box [Ti vh3.1, Ti vh3.2.1, Ti vh3.2.2])]⟩) ?_
           refine V_seq ?_
           refine V_cond_true rfl ?_
           refine V_skip ?_
           show V _ _ _ _
           refine V_seq ?_
           refine V_block ?_
           refine V_e (mb 117 340010386766614455906368) [128, 120, 112, 104, 96, 48] (s1 := ⟨bt 6 (.pt 48 0 :: bt 5 (.pt 96 0 :: .pt 104 0 :: .pt 112 0 :: .pt 120 0 :: .pt 128 0 :: I 2 :: I 2 :: bt 56 (I 2 :: .bot :: .bot :: I 2 :: bt 38 []))), [(128, .box [Ti g2.1, Ti g2.2.1, Ti g2.2.2]), (120, .box [Ti f1.1, Ti f1.2.1, Ti f1.2.2]), (112, .box [Ti y29.1.1, Ti y29.1.2.1, Ti y29.1.2.2, Ti y29.2.1.1, Ti y29.2.1.2.1, Ti y29.2.1.2.2, Ti y29.2.2.1, Ti y29.2.2.2.1, Ti y29.2.2.2.2]), (104, .box [Ti y28.1.1, Ti y28.1.2.1, Ti y28.1.2.2, Ti y28.2.1.1, Ti y28.2.1.2.1, Ti y28.2.1.2.2, Ti y28.2.2.1, Ti y28.2.2.2.1, Ti y28.2.2.2.2]), (96, .box [Ti y27.1.1, Ti y27.1.2.1, Ti y27.1.2.2, Ti y27.2.1.1, Ti y27.2.1.2.1, Ti y27.2.1.2.2, Ti y27.2.2.1, Ti y27.2.2.2.1, Ti y27.2.2.2.2]), (48, .box [Ti vh3.1, Ti vh3.2.1, Ti vh3.2.2])]⟩) ?_
           obtain ⟨t60, ht60, h⟩ := of_bind h
           have ht60 := some_inj ht60
           refine V_sdreg [0, 1, 0, 0, 4, 28, 60, 127, 0, 256, 0, 0, 1024, 7168, 15360, 32512, 65535, 0, 131072, 0, 0, 524288, 3670016, 7864320, 16646144, 33554431, 0, 67108864, 201326592, 0, 536870912, 1610612736, 4227858432, 8589934591] 34 (cdm 34 [49189065721488485024, 49189065721488485025, 49189065721488474250, 49189065721488474666, 49189065721488474266, 49189065721488474458, 49189065721488475482, 49189065721488479573, 49189065719340378794, 49189065719340444330, 49189065718634293930, 49189065718661556906, 49189065718635342506, 49189065718647925418, 49189065718715034282, 49189065718983142058, 49189065720056862037, 49188502608326339242, 49188502625506208426, 49188317512415750826, 49188324659241331370, 49188317787293657770, 49188321085828541098, 49188338678014585514, 49188408960859417258, 49188690430109504853, 12108678198123473578, 12113181797750844074, 12131196196260326058, 192153584101141162, 480383960252852906, 1633305464859699882, 6150415891112307370, 24595658764946068821]) (mb 117 20769187434479320900888599772524608) [128, 120, 112, 104, 96, 48] (s1 := ⟨bt 6 (.pt 48 0 :: bt 5 (.pt 96 0 :: .pt 104 0 :: .pt 112 0 :: .pt 120 0 :: .pt 128 0 :: I 2 :: bt 57 (I 2 :: .bot :: .bot :: I 2 :: bt 35 (Bo t60 :: .bot :: .bot :: [])))), [(128, .box [Ti g2.1, Ti g2.2.1, Ti g2.2.2]), (120, .box [Ti f1.1, Ti f1.2.1, Ti f1.2.2]), (112, .box [Ti y29.1.1, Ti y29.1.2.1, Ti y29.1.2.2, Ti y29.2.1.1, Ti y29.2.1.2.1, Ti y29.2.1.2.2, Ti y29.2.2.1, Ti y29.2.2.2.1, Ti y29.2.2.2.2]), (104, .box [Ti y28.1.1, Ti y28.1.2.1, Ti y28.1.2.2, Ti y28.2.1.1, Ti y28.2.1.2.1, Ti y28.2.1.2.2, Ti y28.2.2.1, Ti y28.2.2.2.1, Ti y28.2.2.2.2]), (96, .box [Ti y27.1.1, Ti y27.1.2.1, Ti y27.1.2.2, Ti y27.2.1.1, Ti y27.2.1.2.1, Ti y27.2.1.2.2, Ti y27.2.2.1, Ti y27.2.2.2.1, Ti y27.2.2.2.2]), (48, .box [Ti vh3.1, Ti vh3.2.1, Ti vh3.2.2])]⟩) (by kernel_rfl) (by kernel_rfl) ?_ ?_
           ·refine DA 34 ?_
            refine XL_nil ?_
            subst ht60
            kernel_rfl
           refine V_cond rfl (fun hc61 => ?_) (fun hc61 => ?_)
           ·have h := of_true h hc61
            refine V_e (mb 117 768) [] (s1 := ⟨bt 8 (Bo false :: Bo true :: bt 107 []), []⟩) ?_
            refine V_ret ?_
            obtain rfl := some_inj h
            show Post _ _ _ _ _
            exact ⟨.inr rfl, rfl, rfl, rfl⟩
           ·have h := of_false h hc61
            refine V_skip ?_
            show V _ _ _ _
            refine V_reg (mb 117 340010386766614455644224) [128, 120, 112, 104, 96, 48] (s1 := ⟨bt 6 (.pt 48 0 :: bt 5 (.pt 96 0 :: .pt 104 0 :: .pt 112 0 :: .pt 120 0 :: .pt 128 0 :: I 2 :: bt 57 (I 2 :: .bot :: .bot :: I 3 :: bt 38 []))), [(128, .box [Ti g2.1, Ti g2.2.1, Ti g2.2.2]), (120, .box [Ti f1.1, Ti f1.2.1, Ti f1.2.2]), (112, .box [Ti y29.1.1, Ti y29.1.2.1, Ti y29.1.2.2, Ti y29.2.1.1, Ti y29.2.1.2.1, Ti y29.2.1.2.2, Ti y29.2.2.1, Ti y29.2.2.2.1, Ti y29.2.2.2.2]), (104, .box [Ti y28.1.1, Ti y28.1.2.1, Ti y28.1.2.2, Ti y28.2.1.1, Ti y28.2.1.2.1, Ti y28.2.1.2.2, Ti y28.2.2.1, Ti y28.2.2.2.1, Ti y28.2.2.2.2]), (96, .box [Ti y27.1.1, Ti y27.1.2.1, Ti y27.1.2.2, Ti y27.2.1.1, Ti y27.2.1.2.1, Ti y27.2.1.2.2, Ti y27.2.2.1, Ti y27.2.2.2.1, Ti y27.2.2.2.2]), (48, .box [Ti vh3.1, Ti vh3.2.1, Ti vh3.2.2])]⟩) ?_ ?_
            ·exact XE
            show VR _ _ _ _ _
            refine VR_s (n := 36) ?_
            refine V_keep (mb 117 340010386766614455644224) [128, 120, 112, 104, 96, 48] (s' := ⟨bt 6 (.pt 48 0 :: bt 5 (.pt 96 0 :: .pt 104 0 :: .pt 112 0 :: .pt 120 0 :: .pt 128 0 :: I 2 :: bt 57 (I 2 :: .bot :: .bot :: I 3 :: bt 38 []))), [(128, .box [Ti g2.1, Ti g2.2.1, Ti g2.2.2]), (120, .box [Ti f1.1, Ti f1.2.1, Ti f1.2.2]), (112, .box [Ti y29.1.1, Ti y29.1.2.1, Ti y29.1.2.2, Ti y29.2.1.1, Ti y29.2.1.2.1, Ti y29.2.1.2.2, Ti y29.2.2.1, Ti y29.2.2.2.1, Ti y29.2.2.2.2]), (104, .box [Ti y28.1.1, Ti y28.1.2.1, Ti y28.1.2.2, Ti y28.2.1.1, Ti y28.2.1.2.1, Ti y28.2.1.2.2, Ti y28.2.2.1, Ti y28.2.2.2.1, Ti y28.2.2.2.2]), (96, .box [Ti y27.1.1, Ti y27.1.2.1, Ti y27.1.2.2, Ti y27.2.1.1, Ti y27.2.1.2.1, Ti y27.2.1.2.2, Ti y27.2.2.1, Ti y27.2.2.2.1, Ti y27.2.2.2.2]), (48, .box [Ti vh3.1, Ti vh3.2.1, Ti vh3.2.2])]⟩) (by kernel_rfl) ?_
            refine V_e (mb 117 944473296573929042997312) [128, 120, 112, 104, 96, 48] (s1 := ⟨bt 6 (.pt 48 0 :: bt 5 (.pt 96 0 :: .pt 104 0 :: .pt 112 0 :: .pt 120 0 :: .pt 128 0 :: I 2 :: bt 57 (I 2 :: .bot :: .bot :: I 3 :: Bo false :: bt 37 []))), [(128, .box [Ti g2.1, Ti g2.2.1, Ti g2.2.2]), (120, .box [Ti f1.1, Ti f1.2.1, Ti f1.2.2]), (112, .box [Ti y29.1.1, Ti y29.1.2.1, Ti y29.1.2.2, Ti y29.2.1.1, Ti y29.2.1.2.1, Ti y29.2.1.2.2, Ti y29.2.2.1, Ti y29.2.2.2.1, Ti y29.2.2.2.2]), (104, .box [Ti y28.1.1, Ti y28.1.2.1, Ti y28.1.2.2, Ti y28.2.1.1, Ti y28.2.1.2.1, Ti y28.2.1.2.2, Ti y28.2.2.1, Ti y28.2.2.2.1, Ti y28.2.2.2.2]), (96, .box [Ti y27.1.1, Ti y27.1.2.1, Ti y27.1.2.2, Ti y27.2.1.1, Ti y27.2.1.2.1, Ti y27.2.1.2.2, Ti y27.2.2.1, Ti y27.2.2.2.1, Ti y27.2.2.2.2]), (48, .box [Ti vh3.1, Ti vh3.2.1, Ti vh3.2.2])]⟩) ?_
            refine V_seq ?_
            refine V_cond_false rfl ?_
            refine V_exit ?_
            show V _ _ _ _
            refine V_reg (mb 117 37778931862957161836608) [128, 120, 112, 104, 96, 48] (s1 := ⟨bt 6 (.pt 48 0 :: bt 5 (.pt 96 0 :: .pt 104 0 :: .pt 112 0 :: .pt 120 0 :: .pt 128 0 :: bt 58 (I 3 :: bt 41 []))), [(128, .box [Ti g2.1, Ti g2.2.1, Ti g2.2.2]), (120, .box [Ti f1.1, Ti f1.2.1, Ti f1.2.2]), (112, .box [Ti y29.1.1, Ti y29.1.2.1, Ti y29.1.2.2, Ti y29.2.1.1, Ti y29.2.1.2.1, Ti y29.2.1.2.2, Ti y29.2.2.1, Ti y29.2.2.2.1, Ti y29.2.2.2.2]), (104, .box [Ti y28.1.1, Ti y28.1.2.1, Ti y28.1.2.2, Ti y28.2.1.1, Ti y28.2.1.2.1, Ti y28.2.1.2.2, Ti y28.2.2.1, Ti y28.2.2.2.1, Ti y28.2.2.2.2]), (96, .box [Ti y27.1.1, Ti y27.1.2.1, Ti y27.1.2.2, Ti y27.2.1.1, Ti y27.2.1.2.1, Ti y27.2.1.2.2, Ti y27.2.2.1, Ti y27.2.2.2.1, Ti y27.2.2.2.2]), (48, .box [Ti vh3.1, Ti vh3.2.1, Ti vh3.2.2])]⟩) ?_ ?_
            ·exact XE
            show VR _ _ _ _ _
            refine VR_s (n := 36) ?_
            refine V_keep (mb 117 37778931862957161836608) [128, 120, 112, 104, 96, 48] (s' := ⟨bt 6 (.pt 48 0 :: bt 5 (.pt 96 0 :: .pt 104 0 :: .pt 112 0 :: .pt 120 0 :: .pt 128 0 :: bt 58 (I 3 :: bt 41 []))), [(128, .box [Ti g2.1, Ti g2.2.1, Ti g2.2.2]), (120, .box [Ti f1.1, Ti f1.2.1, Ti f1.2.2]), (112, .box [Ti y29.1.1, Ti y29.1.2.1, Ti y29.1.2.2, Ti y29.2.1.1, Ti y29.2.1.2.1, Ti y29.2.1.2.2, Ti y29.2.2.1, Ti y29.2.2.2.1, Ti y29.2.2.2.2]), (104, .box [Ti y28.1.1, Ti y28.1.2.1, Ti y28.1.2.2, Ti y28.2.1.1, Ti y28.2.1.2.1, Ti y28.2.1.2.2, Ti y28.2.2.1, Ti y28.2.2.2.1, Ti y28.2.2.2.2]), (96, .box [Ti y27.1.1, Ti y27.1.2.1, Ti y27.1.2.2, Ti y27.2.1.1, Ti y27.2.1.2.1, Ti y27.2.1.2.2, Ti y27.2.2.1, Ti y27.2.2.2.1, Ti y27.2.2.2.2]), (48, .box [Ti vh3.1, Ti vh3.2.1, Ti vh3.2.2])]⟩) (by kernel_rfl) ?_
            refine V_e (mb 117 113336795588871485255744) [128, 120, 112, 104, 96, 48] (s1 := ⟨bt 6 (.pt 48 0 :: bt 5 (.pt 96 0 :: .pt 104 0 :: .pt 112 0 :: .pt 120 0 :: .pt 128 0 :: bt 58 (I 3 :: Bo false :: bt 40 []))), [(128, .box [Ti g2.1, Ti g2.2.1, Ti g2.2.2]), (120, .box [Ti f1.1, Ti f1.2.1, Ti f1.2.2]), (112, .box [Ti y29.1.1, Ti y29.1.2.1, Ti y29.1.2.2, Ti y29.2.1.1, Ti y29.2.1.2.1, Ti y29.2.1.2.2, Ti y29.2.2.1, Ti y29.2.2.2.1, Ti y29.2.2.2.2]), (104, .box [Ti y28.1.1, Ti y28.1.2.1, Ti y28.1.2.2, Ti y28.2.1.1, Ti y28.2.1.2.1, Ti y28.2.1.2.2, Ti y28.2.2.1, Ti y28.2.2.2.1, Ti y28.2.2.2.2]), (96, .box [Ti y27.1.1, Ti y27.1.2.1, Ti y27.1.2.2, Ti y27.2.1.1, Ti y27.2.1.2.1, Ti y27.2.1.2.2, Ti y27.2.2.1, Ti y27.2.2.2.1, Ti y27.2.2.2.2]), (48, .box [Ti vh3.1, Ti vh3.2.1, Ti vh3.2.2])]⟩) ?_
            refine V_seq ?_
            refine V_cond_false rfl ?_
            refine V_exit ?_
            show V _ _ _ _
            refine V_e (mb 117 768) [] (s1 := ⟨bt 8 (Bo true :: Bo true :: bt 107 []), []⟩) ?_
            refine V_ret ?_
            obtain rfl := some_inj h
            show Post _ _ _ _ _
            exact ⟨.inr rfl, rfl, rfl, rfl⟩
theorem cf_laws_numberOf : ∀ args w, (callFunc 13 args).run Try.prog w = .ok (.enter 13 args) w := run_callFunc Try.func13 (by kernel_rfl) (by kernel_rfl)
theorem s_laws_numberOf {b1 : List Int} {r : Int} (h : r_laws_numberOf b1 = some r) : CallS Try.prog 13 [.c (.sl (b1.map c5))] (I r) [] := by
  refine CallS_of_text (rs := [.t 2]) (vs := [.tmp 2]) Try.func13 rfl rfl (.cons rfl FitsL.nil) (by decide) 20 rfl ?_
  unfold r_laws_numberOf at h
  show V _ _ ⟨.c (.sl (b1.map c5)) :: bt 19 [], []⟩ _
  refine V_e (mb 20 1) [] (s1 := ⟨.c (.sl (b1.map c5)) :: bt 19 [], []⟩) ?_
  refine V_e (mb 20 9) [] (s1 := ⟨.c (.sl (b1.map c5)) :: .bot :: .bot :: I 0 :: bt 16 [], []⟩) ?_
  refine V_seq ?_
  refine V_sreg (mb 20 456) [] (s1 := ⟨bt 3 (I 0 :: .bot :: .bot :: .c (.sl (b1.map c5)) :: I ((b1.length : Int)) :: I 0 :: bt 11 []), []⟩) ?_ ?_
  ·refine XR 1 ?_
   refine L0 rfl rfl (Y0_lenM (c := c5) (xs := b1) Try.underlying22 rfl (by kernel_rfl)) ?_
   exact XE
  obtain ⟨o5, hLo5, h⟩ := of_bind h
  refine V_toK (mb 20 8) [] (s1 := ⟨bt 3 (I o5 :: bt 16 []), []⟩) ?_ ?_
  ·clear h
   refine V_block (V_loop (fun n s => ∃ (vn2 : Int) (t3 : Int), s.keep (mb 20 456) [] = (⟨bt 3 (I vn2 :: .bot :: .bot :: .c (.sl (b1.map c5)) :: I ((b1.length : Int)) :: I t3 :: bt 11 []), []⟩ : St) ∧ r_laws_numberOf_L4 b1 n vn2 t3 = some o5) FU ⟨_, _,  by rfl, hLo5⟩ ?_)
   clear hLo5
   rintro n s ⟨vn2, t3, hs, h⟩
   refine V_keep _ _ hs ?_
   clear hs
   cases n with
   | zero => cases h
   | succ n =>
    rw [r_laws_numberOf_L4] at h
    refine V_e (mb 20 968) [] (s1 := ⟨bt 3 (I vn2 :: .bot :: .bot :: .c (.sl (b1.map c5)) :: I ((b1.length : Int)) :: I t3 :: Bo (ltI t3 ((b1.length : Int))) :: bt 10 []), []⟩) ?_
    refine V_seq ?_
    refine V_cond rfl (fun hc6 => ?_) (fun hc6 => ?_)
    ·have h := of_true h hc6
     refine V_skip ?_
     show V _ _ _ _
     refine V_seq ?_
     refine V_block ?_
     obtain ⟨e7, he7, h⟩ := of_bind h
     refine V_sreg (mb 20 488) [] (s1 := ⟨bt 3 (I vn2 :: .bot :: .c (.v (.int .u8 e7)) :: .c (.sl (b1.map c5)) :: I ((b1.length : Int)) :: I t3 :: bt 11 []), []⟩) ?_ ?_
     ·refine L0 rfl rfl (Y0_idxM (c := c5) (xs := b1) (v := e7) (n := t3) Try.underlying22 sz5 rfl (by kernel_rfl) (by kernel_rfl) he7) ?_
      exact XE
     obtain ⟨vn8, hvn8, h⟩ := of_sI h
     refine V_reg (mb 20 456) [] (s1 := ⟨bt 3 (I vn8 :: .bot :: .bot :: .c (.sl (b1.map c5)) :: I ((b1.length : Int)) :: I t3 :: bt 11 []), []⟩) ?_ ?_
     ·refine XR 3 ?_
      refine L0 rfl rfl (Y0_conv (k2 := .u8) (a := e7) Try.underlying5 Try.underlying3 rfl (by kernel_rfl)) ?_
      refine XR 1 ?_
      refine L0 rfl rfl (Y0_rem (k := .i64) (a := w64 ((w64 (31 * vn2)) + (IntKind.i64.wrap e7))) (b := 1000003) rfl (by kernel_rfl) (by kernel_rfl) (by decide)) ?_
      refine XR 1 ?_
      refine XL_nil ?_
      subst hvn8
      kernel_rfl
     show V _ _ _ _
     obtain ⟨t9, ht9, h⟩ := of_sI h
     refine V_reg (mb 20 456) [] (s1 := ⟨bt 3 (I vn8 :: .bot :: .bot :: .c (.sl (b1.map c5)) :: I ((b1.length : Int)) :: I t9 :: bt 11 []), []⟩) ?_ ?_
     ·refine XR 2 ?_
      refine XL_nil ?_
      subst ht9
      kernel_rfl
     exact ⟨n, Nat.lt_succ_self n, _, _,  by rfl, h⟩
    ·have h := of_false h hc6
     refine V_exit ?_
     obtain rfl := some_inj h
     show St.keep _ _ _ = _
     rfl
  show V _ _ _ _
  refine V_e (mb 20 4) [] (s1 := ⟨.bot :: .bot :: I o5 :: bt 17 [], []⟩) ?_
  refine V_ret ?_
  obtain rfl := some_inj h
  show Post _ _ _ _ _
  exact ⟨.inr rfl, rfl, rfl, rfl⟩
theorem cf_impl_ValueAt : ∀ args w, (callFunc 30 args).run Try.prog w = .ok (.enter 30 args) w := run_callFunc Try.func30 (by kernel_rfl) (by kernel_rfl)
theorem s_impl_ValueAt {f1 : (Int × Int × Int)} {x2 : Int} {y3 : Int} {r : (Int × Bool)} (h : r_impl_ValueAt f1 x2 y3 = some r) : CallS Try.prog 30 [.ag [Ti f1.1, Ti f1.2.1, Ti f1.2.2], I x2, I y3] (.tc (I r.1) (.tc (Bo r.2) .tn)) [] := by
  refine CallS_of_text (rs := [.t 6, .t 7]) (vs := [.tmp 6, .tmp 7]) Try.func30 rfl rfl (.cons rfl (.cons rfl FitsL.nil)) (by decide) 22 rfl ?_
  unfold r_impl_ValueAt at h
  show V _ _ ⟨.ag [Ti f1.1, Ti f1.2.1, Ti f1.2.2] :: I x2 :: I y3 :: bt 19 [], []⟩ _
  refine V_e (mb 22 14) [24] (s1 := ⟨.bot :: I x2 :: I y3 :: .pt 24 0 :: bt 18 [], [(24, .box [Ti f1.1, Ti f1.2.1, Ti f1.2.2])]⟩) ?_
  refine V_seq ?_
  obtain ⟨y4, hy4, h⟩ := of_bind h
  obtain ⟨b7, hb7, h⟩ := of_bind h
  refine V_sreg (mb 22 131086) [24] (s1 := ⟨.bot :: I x2 :: I y3 :: .pt 24 0 :: bt 13 (Bo b7 :: bt 4 []), [(24, .box [Ti f1.1, Ti f1.2.1, Ti f1.2.2])]⟩) ?_ ?_
  ·refine XR 1 ?_
   refine XC (s_impl_IsForm hy4) cf_impl_IsForm rfl rfl rfl ?_
   refine XR 2 ?_
   refine XL_split (!y4) (fun hc5 => ?_) (fun hc5 => ?_)
   ·have hb7 := some_inj (of_true hb7 hc5)
    refine XL_skipF _ rfl rfl (by kernel_rfl) hc5 rfl ?_
    refine XL_skipF _ rfl rfl (by kernel_rfl) hc5 rfl ?_
    refine XL_skipF _ rfl rfl (by kernel_rfl) hc5 rfl ?_
    refine XL_skipF _ rfl rfl (by kernel_rfl) hc5 rfl ?_
    refine XL_skipF _ rfl rfl (by kernel_rfl) hc5 rfl ?_
    refine XL_cons rfl (X_of_Y0 rfl (Y0_pickTe (b := !y4) (p := true) rfl (by kernel_rfl) hc5 (by kernel_rfl) hb7)) ?_
    exact XE
   ·have hb7 := of_false hb7 hc5
    obtain ⟨y6, hy6, hb7⟩ := of_bind hb7
    have hb7 := some_inj hb7
    refine XL_takeC _ rfl rfl (by kernel_rfl) hc5 (X_of_Y0 rfl (E_move (I x2) rfl (by kernel_rfl))) ?_
    refine XL_takeC _ rfl rfl (by kernel_rfl) hc5 (X_of_Y0 rfl (E_move (I y3) rfl (by kernel_rfl))) ?_
    refine XL_takeC _ rfl rfl (by kernel_rfl) hc5 (X_of_Y1 rfl (Y1_bslice (z := zv3) (els := [x2, y3].map c3) Try.underlying47 iz3 rfl (by decide) rfl (by kernel_rfl) rfl (by simp [c3]) (by decide) (by decide))) ?_
    refine XL_takeC _ rfl rfl (by kernel_rfl) hc5 (X_of_Y1 rfl (Y1_callS (s_impl_areNumbers hy6) cf_impl_areNumbers rfl (by kernel_rfl) rfl rfl)) ?_
    refine XL_takeC _ rfl rfl (by kernel_rfl) hc5 (X_of_Y0 rfl (Y0_not (b := y6) rfl (by kernel_rfl))) ?_
    refine XL_cons rfl (X_of_Y0 rfl (Y0_pickFe (b := !y4) (p := !y6) rfl (by kernel_rfl) hc5 (by kernel_rfl) hb7)) ?_
    exact XE
  refine V_cond rfl (fun hc8 => ?_) (fun hc8 => ?_)
  ·have h := of_true h hc8
   refine V_e (mb 22 192) [] (s1 := ⟨bt 6 (I 0 :: Bo false :: bt 14 []), []⟩) ?_
   refine V_ret ?_
   obtain rfl := some_inj h
   show Post _ _ _ _ _
   exact ⟨.inr rfl, rfl, rfl, rfl⟩
  ·have h := of_false h hc8
   refine V_skip ?_
   show V _ _ _ _
   obtain ⟨y9, hy9, h⟩ := of_bind h
   refine V_sreg (mb 22 192) [] (s1 := ⟨bt 6 (I y9 :: Bo true :: bt 14 []), []⟩) ?_ ?_
   ·refine XR 3 ?_
    refine XC (s_impl_Form_at hy9) cf_impl_Form_at rfl rfl rfl ?_
    exact XE
   refine V_ret ?_
   obtain rfl := some_inj h
   show Post _ _ _ _ _
   exact ⟨.inr rfl, rfl, rfl, rfl⟩
end Go.Proofs.Ytafomkclmkfjeaa
