/-
  The functions of the program compute what the plain functions say: more of them.
  Conditions: none.
-/
import Derived.Test.YtafomkclmkfjeaaCmSnd3
namespace Go.Proofs.Ytafomkclmkfjeaa
open Go.RowKit
set_option linter.unusedVariables false
set_option linter.unusedSimpArgs false
set_option maxRecDepth 100000
set_option maxHeartbeats 400000
theorem cf_impl_ComposeForms : ∀ args w, (callFunc 8 args).run Try.prog w = .ok (.enter 8 args) w := run_callFunc Try.func8 (by kernel_rfl) (by kernel_rfl)
theorem s_impl_ComposeForms {f1 : (Int × Int × Int)} {g2 : (Int × Int × Int)} {r : (((Int × Int × Int)) × Bool)} (h : r_impl_ComposeForms f1 g2 = some r) : CallS Try.prog 8 [.ag [Ti f1.1, Ti f1.2.1, Ti f1.2.2], .ag [Ti g2.1, Ti g2.2.1, Ti g2.2.2]] (.tc (.ag [Ti r.1.1, Ti r.1.2.1, Ti r.1.2.2]) (.tc (Bo r.2) .tn)) [] := by
  refine CallS_of_text (rs := [.w 4 3, .t 5]) (vs := [.cell 4 25, .tmp 5]) Try.func8 rfl rfl (.cons ⟨rfl, wd25⟩ (.cons rfl FitsL.nil)) (by decide) 14 rfl ?_
  unfold r_impl_ComposeForms at h
  show V _ _ ⟨.ag [Ti f1.1, Ti f1.2.1, Ti f1.2.2] :: .ag [Ti g2.1, Ti g2.2.1, Ti g2.2.2] :: bt 12 [], []⟩ _
  refine V_e (mb 14 28) [32, 24, 16] (s1 := ⟨.bot :: .bot :: .pt 16 0 :: .pt 24 0 :: .pt 32 0 :: bt 9 [], [(32, .box [Ti 0, Ti 0, Ti 0]), (24, .box [Ti g2.1, Ti g2.2.1, Ti g2.2.2]), (16, .box [Ti f1.1, Ti f1.2.1, Ti f1.2.2])]⟩) ?_
  refine V_seq ?_
  obtain ⟨y3, hy3, h⟩ := of_bind h
  refine V_sreg (mb 14 540) [32, 24, 16] (s1 := ⟨.bot :: .bot :: .pt 16 0 :: .pt 24 0 :: .pt 32 0 :: bt 4 (Bo (!y3) :: bt 4 []), [(32, .box [Ti 0, Ti 0, Ti 0]), (24, .box [Ti g2.1, Ti g2.2.1, Ti g2.2.2]), (16, .box [Ti f1.1, Ti f1.2.1, Ti f1.2.2])]⟩) ?_ ?_
  ·refine XR 2 ?_
   refine XC (s_impl_arePair hy3) cf_impl_arePair rfl rfl rfl ?_
   exact XE
  refine V_cond rfl (fun hc4 => ?_) (fun hc4 => ?_)
  ·have h := of_true h hc4
   refine V_sreg (mb 14 48) [32] (s1 := ⟨bt 4 (.pt 32 0 :: Bo false :: bt 8 []), [(32, .box [Ti 0, Ti 0, Ti 0])]⟩) ?_ ?_
   ·refine L0 rfl rfl (Y0_build (cs := [Ti 0, Ti 0, Ti 0]) pl25 bt25 rfl rfl (by kernel_rfl)) ?_
    exact XE
   refine V_ret ?_
   obtain rfl := some_inj h
   show Post _ _ _ _ _
   exact ⟨.inr rfl, rfl, rfl, rfl⟩
  ·have h := of_false h hc4
   refine V_skip ?_
   show V _ _ _ _
   obtain ⟨y5, hy5, h⟩ := of_bind h
   refine V_sreg (mb 14 48) [32] (s1 := ⟨bt 4 (.pt 32 0 :: Bo true :: bt 8 []), [(32, .box [Ti y5.1, Ti y5.2.1, Ti y5.2.2])]⟩) ?_ ?_
   ·refine XR 2 ?_
    refine XC (s_impl_compose hy5) cf_impl_compose rfl rfl rfl ?_
    exact XE
   refine V_ret ?_
   obtain rfl := some_inj h
   show Post _ _ _ _ _
   exact ⟨.inr rfl, rfl, rfl, rfl⟩
theorem cf_laws_sameInts : ∀ args w, (callFunc 28 args).run Try.prog w = .ok (.enter 28 args) w := run_callFunc Try.func28 (by kernel_rfl) (by kernel_rfl)
theorem s_laws_sameInts {a1 : List Int} {b2 : List Int} {r : Bool} (h : r_laws_sameInts a1 b2 = some r) : CallS Try.prog 28 [.c (.sl (a1.map c3)), .c (.sl (b2.map c3))] (Bo r) [] := by
  refine CallS_of_text (rs := [.t 4]) (vs := [.tmp 4]) Try.func28 rfl rfl (.cons rfl FitsL.nil) (by decide) 26 rfl ?_
  unfold r_laws_sameInts at h
  show V _ _ ⟨.c (.sl (a1.map c3)) :: .c (.sl (b2.map c3)) :: bt 24 [], []⟩ _
  refine V_e (mb 26 3) [] (s1 := ⟨.c (.sl (a1.map c3)) :: .c (.sl (b2.map c3)) :: bt 24 [], []⟩) ?_
  refine V_seq ?_
  refine V_sreg (mb 26 1027) [] (s1 := ⟨.c (.sl (a1.map c3)) :: .c (.sl (b2.map c3)) :: bt 8 (Bo (!eqI ((a1.length : Int)) ((b2.length : Int))) :: bt 15 []), []⟩) ?_ ?_
  ·refine XR 1 ?_
   refine L0 rfl rfl (Y0_lenM (c := c3) (xs := a1) Try.underlying47 rfl (by kernel_rfl)) ?_
   refine XR 1 ?_
   refine L0 rfl rfl (Y0_lenM (c := c3) (xs := b2) Try.underlying47 rfl (by kernel_rfl)) ?_
   exact XE
  refine V_cond rfl (fun hc3 => ?_) (fun hc3 => ?_)
  ·have h := of_true h hc3
   refine V_e (mb 26 16) [] (s1 := ⟨bt 4 (Bo false :: bt 21 []), []⟩) ?_
   refine V_ret ?_
   obtain rfl := some_inj h
   show Post _ _ _ _ _
   exact ⟨.inr rfl, rfl, rfl, rfl⟩
  ·have h := of_false h hc3
   refine V_skip ?_
   show V _ _ _ _
   refine V_seq ?_
   refine V_sreg (mb 26 12291) [] (s1 := ⟨.c (.sl (a1.map c3)) :: .c (.sl (b2.map c3)) :: bt 10 (I ((a1.length : Int)) :: I 0 :: bt 12 []), []⟩) ?_ ?_
   ·refine XR 1 ?_
    refine L0 rfl rfl (Y0_lenM (c := c3) (xs := a1) Try.underlying47 rfl (by kernel_rfl)) ?_
    exact XE
   obtain ⟨qo6, hLo6, hko6⟩ := of_bind h
   refine V_toS (q := qo6) (S := fun o6 => ⟨bt 26 [], []⟩) (mb 26 0) [] ?_ ?_
   ·refine V_block (V_loop (fun n s => ∃ (t4 : Int), s.keep (mb 26 12291) [] = (⟨.c (.sl (a1.map c3)) :: .c (.sl (b2.map c3)) :: bt 10 (I ((a1.length : Int)) :: I t4 :: bt 12 []), []⟩ : St) ∧ r_laws_sameInts_L5 a1 b2 n t4 = some qo6) FU ⟨_,  by rfl, hLo6⟩ ?_)
    clear hLo6
    rintro n s ⟨t4, hs, h⟩
    refine V_keep _ _ hs ?_
    clear hs
    cases n with
    | zero => cases h
    | succ n =>
     rw [r_laws_sameInts_L5] at h
     refine V_e (mb 26 28675) [] (s1 := ⟨.c (.sl (a1.map c3)) :: .c (.sl (b2.map c3)) :: bt 10 (I ((a1.length : Int)) :: I t4 :: Bo (ltI t4 ((a1.length : Int))) :: bt 11 []), []⟩) ?_
     refine V_seq ?_
     refine V_cond rfl (fun hc7 => ?_) (fun hc7 => ?_)
     ·have h := of_true h hc7
      refine V_skip ?_
      show V _ _ _ _
      refine V_seq ?_
      refine V_block ?_
      refine V_e (mb 26 12323) [] (s1 := ⟨.c (.sl (a1.map c3)) :: .c (.sl (b2.map c3)) :: bt 3 (I t4 :: bt 6 (I ((a1.length : Int)) :: I t4 :: bt 12 [])), []⟩) ?_
      obtain ⟨e8, he8, h⟩ := of_bind h
      obtain ⟨e9, he9, h⟩ := of_bind h
      refine V_sdreg [0, 0, 3, 7, 0, 0, 48, 112, 255] 9 (cdm 9 [43528, 43522, 43525, 43541, 2218, 682, 1450, 5546, 21845]) (mb 26 16789507) [] (s1 := ⟨.c (.sl (a1.map c3)) :: .c (.sl (b2.map c3)) :: bt 10 (I ((a1.length : Int)) :: I t4 :: bt 10 (Bo (!eqI e8 e9) :: .bot :: [])), []⟩) (by kernel_rfl) (by kernel_rfl) ?_ ?_
      ·refine DR 2 ?_
       refine DE_0 2 (.pe [Ti e8]) (by kernel_rfl) rfl rfl rfl (gsat_none rfl) (by kernel_rfl) (Y0_idxM (c := c3) (xs := a1) (v := e8) (n := t4) Try.underlying47 sz3 rfl (by kernel_rfl) (by kernel_rfl) he8) 18 rfl ?_
       refine DR 3 ?_
       refine DE_0 6 (.pe [Ti e9]) (by kernel_rfl) rfl rfl rfl (gsat_none rfl) (by kernel_rfl) (Y0_idxM (c := c3) (xs := b2) (v := e9) (n := t4) Try.underlying47 sz3 rfl (by kernel_rfl) (by kernel_rfl) he9) 22 rfl ?_
       refine DA 2 ?_
       exact XE
      refine V_cond rfl (fun hc10 => ?_) (fun hc10 => ?_)
      ·have h := of_true h hc10
       refine V_e (mb 26 16) [] (s1 := ⟨bt 4 (Bo false :: bt 21 []), []⟩) ?_
       refine V_ret ?_
       obtain rfl := some_inj h
       have h := hko6
       obtain rfl := some_inj h
       show Post _ _ _ _ _
       exact ⟨.inr rfl, rfl, rfl, rfl⟩
      ·have h := of_false h hc10
       refine V_skip ?_
       show V _ _ _ _
       obtain ⟨t11, ht11, h⟩ := of_sI h
       refine V_reg (mb 26 12291) [] (s1 := ⟨.c (.sl (a1.map c3)) :: .c (.sl (b2.map c3)) :: bt 10 (I ((a1.length : Int)) :: I t11 :: bt 12 []), []⟩) ?_ ?_
       ·refine XR 2 ?_
        refine XL_nil ?_
        subst ht11
        kernel_rfl
       exact ⟨n, Nat.lt_succ_self n, _,  by rfl, h⟩
     ·have h := of_false h hc7
      refine V_exit ?_
      obtain rfl := some_inj h
      exact ⟨_, rfl, by rfl⟩
   rintro o6 rfl
   have h := hko6
   clear hko6
   show V _ _ _ _
   refine V_e (mb 26 16) [] (s1 := ⟨bt 4 (Bo true :: bt 21 []), []⟩) ?_
   refine V_ret ?_
   obtain rfl := some_inj h
   show Post _ _ _ _ _
   exact ⟨.inr rfl, rfl, rfl, rfl⟩
theorem cf_impl_squareOf : ∀ args w, (callFunc 73 args).run Try.prog w = .ok (.enter 73 args) w := run_callFunc Try.func73 (by kernel_rfl) (by kernel_rfl)
theorem s_impl_squareOf {p1 : (Int × Int × Int × Int)} {q2 : (Int × Int × Int × Int)} {r : (((Int × Int × Int)) × ((Int × Int × Int)) × ((Int × Int × Int)))} (h : r_impl_squareOf p1 q2 = some r) : CallS Try.prog 73 [.ag [Ti p1.1, Ti p1.2.1, Ti p1.2.2.1, Ti p1.2.2.2], .ag [Ti q2.1, Ti q2.2.1, Ti q2.2.2.1, Ti q2.2.2.2]] (.ag [Ti r.1.1, Ti r.1.2.1, Ti r.1.2.2, Ti r.2.1.1, Ti r.2.1.2.1, Ti r.2.1.2.2, Ti r.2.2.1, Ti r.2.2.2.1, Ti r.2.2.2.2]) [] := by
  refine CallS_of_text (rs := [.w 4 9]) (vs := [.cell 4 103]) Try.func73 rfl rfl (.cons ⟨rfl, wd103⟩ FitsL.nil) (by decide) 43 rfl ?_
  unfold r_impl_squareOf at h
  show V _ _ ⟨.ag [Ti p1.1, Ti p1.2.1, Ti p1.2.2.1, Ti p1.2.2.2] :: .ag [Ti q2.1, Ti q2.2.1, Ti q2.2.2.1, Ti q2.2.2.2] :: bt 41 [], []⟩ _
  refine V_e (mb 43 28) [32, 24, 16] (s1 := ⟨.bot :: .bot :: .pt 16 0 :: .pt 24 0 :: .pt 32 0 :: bt 38 [], [(32, .box [Ti 0, Ti 0, Ti 0, Ti 0, Ti 0, Ti 0, Ti 0, Ti 0, Ti 0]), (24, .box [Ti q2.1, Ti q2.2.1, Ti q2.2.2.1, Ti q2.2.2.2]), (16, .box [Ti p1.1, Ti p1.2.1, Ti p1.2.2.1, Ti p1.2.2.2])]⟩) ?_
  refine V_sreg (mb 43 60) [40, 32, 24, 16] (s1 := ⟨.bot :: .bot :: .pt 16 0 :: .pt 24 0 :: .pt 32 0 :: .pt 40 0 :: bt 37 [], [(40, .box [Ti 0, Ti 0, Ti 0, Ti 0, Ti 0, Ti 0, Ti 0, Ti 0, Ti 0]), (32, .box [Ti 0, Ti 0, Ti 0, Ti 0, Ti 0, Ti 0, Ti 0, Ti 0, Ti 0]), (24, .box [Ti q2.1, Ti q2.2.1, Ti q2.2.2.1, Ti q2.2.2.2]), (16, .box [Ti p1.1, Ti p1.2.1, Ti p1.2.2.1, Ti p1.2.2.2])]⟩) ?_ ?_
  ·refine L0 rfl rfl (Y0_build (cs := [Ti 0, Ti 0, Ti 0, Ti 0, Ti 0, Ti 0, Ti 0, Ti 0, Ti 0]) pl103 bt103 rfl rfl (by kernel_rfl)) ?_
   exact XE
  refine V_seq ?_
  refine V_e (mb 43 6200) [40, 32, 24] (s1 := ⟨bt 3 (.pt 24 0 :: .pt 32 0 :: .pt 40 0 :: bt 5 (.ag [Ti p1.1, Ti p1.2.1, Ti p1.2.2.1, Ti p1.2.2.2] :: I 0 :: bt 30 [])), [(40, .box [Ti 0, Ti 0, Ti 0, Ti 0, Ti 0, Ti 0, Ti 0, Ti 0, Ti 0]), (32, .box [Ti 0, Ti 0, Ti 0, Ti 0, Ti 0, Ti 0, Ti 0, Ti 0, Ti 0]), (24, .box [Ti q2.1, Ti q2.2.1, Ti q2.2.2.1, Ti q2.2.2.2])]⟩) ?_
  refine V_block (V_unroll 40 ?_)
  refine VR_s (n := 39) ?_
  refine V_keep (mb 43 6200) [40, 32, 24] (s' := ⟨bt 3 (.pt 24 0 :: .pt 32 0 :: .pt 40 0 :: bt 5 (.ag [Ti p1.1, Ti p1.2.1, Ti p1.2.2.1, Ti p1.2.2.2] :: I 0 :: bt 30 [])), [(40, .box [Ti 0, Ti 0, Ti 0, Ti 0, Ti 0, Ti 0, Ti 0, Ti 0, Ti 0]), (32, .box [Ti 0, Ti 0, Ti 0, Ti 0, Ti 0, Ti 0, Ti 0, Ti 0, Ti 0]), (24, .box [Ti q2.1, Ti q2.2.1, Ti q2.2.2.1, Ti q2.2.2.2])]⟩) (by kernel_rfl) ?_
  refine V_e (mb 43 14392) [40, 32, 24] (s1 := ⟨bt 3 (.pt 24 0 :: .pt 32 0 :: .pt 40 0 :: bt 5 (.ag [Ti p1.1, Ti p1.2.1, Ti p1.2.2.1, Ti p1.2.2.2] :: I 0 :: Bo true :: bt 29 [])), [(40, .box [Ti 0, Ti 0, Ti 0, Ti 0, Ti 0, Ti 0, Ti 0, Ti 0, Ti 0]), (32, .box [Ti 0, Ti 0, Ti 0, Ti 0, Ti 0, Ti 0, Ti 0, Ti 0, Ti 0]), (24, .box [Ti q2.1, Ti q2.2.1, Ti q2.2.2.1, Ti q2.2.2.2])]⟩) ?_
  refine V_seq ?_
  refine V_cond_true rfl ?_
  refine V_skip ?_
  show V _ _ _ _
  refine V_seq ?_
  refine V_block ?_
  refine V_sreg (mb 43 6392) [40, 32, 24] (s1 := ⟨bt 3 (.pt 24 0 :: .pt 32 0 :: .pt 40 0 :: I 0 :: I p1.1 :: bt 3 (.ag [Ti p1.1, Ti p1.2.1, Ti p1.2.2.1, Ti p1.2.2.2] :: I 0 :: bt 30 [])), [(40, .box [Ti 0, Ti 0, Ti 0, Ti 0, Ti 0, Ti 0, Ti 0, Ti 0, Ti 0]), (32, .box [Ti 0, Ti 0, Ti 0, Ti 0, Ti 0, Ti 0, Ti 0, Ti 0, Ti 0]), (24, .box [Ti q2.1, Ti q2.2.1, Ti q2.2.2.1, Ti q2.2.2.2])]⟩) ?_ ?_
  ·refine XR 1 ?_
   refine L0 rfl rfl (Y0_indexA (c := fun v => [Ti v]) (xs := [p1.1, p1.2.1, p1.2.2.1, p1.2.2.2]) (v := p1.1) (k := .i64) (n := 0) Try.underlying95 sc3 sz3 rfl (by kernel_rfl) (by kernel_rfl) rfl (fun _ => rfl) rfl rfl) ?_
   exact XE
  refine V_e (mb 43 203000) [40, 32, 24] (s1 := ⟨bt 3 (.pt 24 0 :: .pt 32 0 :: .pt 40 0 :: I 0 :: I p1.1 :: bt 3 (.ag [Ti p1.1, Ti p1.2.1, Ti p1.2.2.1, Ti p1.2.2.2] :: I 0 :: bt 3 (.ag [Ti q2.1, Ti q2.2.1, Ti q2.2.2.1, Ti q2.2.2.2] :: I 0 :: bt 25 []))), [(40, .box [Ti 0, Ti 0, Ti 0, Ti 0, Ti 0, Ti 0, Ti 0, Ti 0, Ti 0]), (32, .box [Ti 0, Ti 0, Ti 0, Ti 0, Ti 0, Ti 0, Ti 0, Ti 0, Ti 0]), (24, .box [Ti q2.1, Ti q2.2.1, Ti q2.2.2.1, Ti q2.2.2.2])]⟩) ?_
  refine V_block (V_unroll 40 ?_)
  refine VR_s (n := 39) ?_
  refine V_keep (mb 43 203000) [40, 32, 24] (s' := ⟨bt 3 (.pt 24 0 :: .pt 32 0 :: .pt 40 0 :: I 0 :: I p1.1 :: bt 3 (.ag [Ti p1.1, Ti p1.2.1, Ti p1.2.2.1, Ti p1.2.2.2] :: I 0 :: bt 3 (.ag [Ti q2.1, Ti q2.2.1, Ti q2.2.2.1, Ti q2.2.2.2] :: I 0 :: bt 25 []))), [(40, .box [Ti 0, Ti 0, Ti 0, Ti 0, Ti 0, Ti 0, Ti 0, Ti 0, Ti 0]), (32, .box [Ti 0, Ti 0, Ti 0, Ti 0, Ti 0, Ti 0, Ti 0, Ti 0, Ti 0]), (24, .box [Ti q2.1, Ti q2.2.1, Ti q2.2.2.1, Ti q2.2.2.2])]⟩) (by kernel_rfl) ?_
  refine V_e (mb 43 465144) [40, 32, 24] (s1 := ⟨bt 3 (.pt 24 0 :: .pt 32 0 :: .pt 40 0 :: I 0 :: I p1.1 :: bt 3 (.ag [Ti p1.1, Ti p1.2.1, Ti p1.2.2.1, Ti p1.2.2.2] :: I 0 :: bt 3 (.ag [Ti q2.1, Ti q2.2.1, Ti q2.2.2.1, Ti q2.2.2.2] :: I 0 :: Bo true :: bt 24 []))), [(40, .box [Ti 0, Ti 0, Ti 0, Ti 0, Ti 0, Ti 0, Ti 0, Ti 0, Ti 0]), (32, .box [Ti 0, Ti 0, Ti 0, Ti 0, Ti 0, Ti 0, Ti 0, Ti 0, Ti 0]), (24, .box [Ti q2.1, Ti q2.2.1, Ti q2.2.2.1, Ti q2.2.2.2])]⟩) ?_
  refine V_seq ?_
  refine V_cond_true rfl ?_
  refine V_skip ?_
  show V _ _ _ _
  refine V_seq ?_
  refine V_block ?_
  refine V_sreg (mb 43 203768) [40, 32, 24] (s1 := ⟨bt 3 (.pt 24 0 :: .pt 32 0 :: .pt 40 0 :: I 0 :: I p1.1 :: I 0 :: I q2.1 :: .bot :: .ag [Ti p1.1, Ti p1.2.1, Ti p1.2.2.1, Ti p1.2.2.2] :: I 0 :: bt 3 (.ag [Ti q2.1, Ti q2.2.1, Ti q2.2.2.1, Ti q2.2.2.2] :: I 0 :: bt 25 [])), [(40, .box [Ti 0, Ti 0, Ti 0, Ti 0, Ti 0, Ti 0, Ti 0, Ti 0, Ti 0]), (32, .box [Ti 0, Ti 0, Ti 0, Ti 0, Ti 0, Ti 0, Ti 0, Ti 0, Ti 0]), (24, .box [Ti q2.1, Ti q2.2.1, Ti q2.2.2.1, Ti q2.2.2.2])]⟩) ?_ ?_
  ·refine XR 1 ?_
   refine L0 rfl rfl (Y0_indexA (c := fun v => [Ti v]) (xs := [q2.1, q2.2.1, q2.2.2.1, q2.2.2.2]) (v := q2.1) (k := .i64) (n := 0) Try.underlying95 sc3 sz3 rfl (by kernel_rfl) (by kernel_rfl) rfl (fun _ => rfl) rfl rfl) ?_
   exact XE
  obtain ⟨f5, hf5, h⟩ := of_sI h
  refine V_dreg [0, 1, 0, 4, 15, 0, 32, 0, 128, 480, 31, 2047, 4095, 0, 0, 24576, 65535, 31, 262143, 524287] 19 (cdm 19 [2819270816, 2819270817, 2819270666, 2819270682, 2819270741, 37180572330, 37180573354, 37180418730, 37180435114, 37180495530, 37179009365, 37179708757, 37183903061, 34941348522, 34538695338, 34740021930, 35791394133, 11453245781, 22906492245]) (mb 43 203000) [40, 32, 24] (s1 := ⟨bt 3 (.pt 24 0 :: .pt 32 0 :: .pt 40 0 :: I 0 :: I p1.1 :: bt 3 (.ag [Ti p1.1, Ti p1.2.1, Ti p1.2.2.1, Ti p1.2.2.2] :: I 0 :: bt 3 (.ag [Ti q2.1, Ti q2.2.1, Ti q2.2.2.1, Ti q2.2.2.2] :: I 0 :: bt 25 []))), [(40, .box [Ti f5, Ti 0, Ti 0, Ti 0, Ti 0, Ti 0, Ti 0, Ti 0, Ti 0]), (32, .box [Ti 0, Ti 0, Ti 0, Ti 0, Ti 0, Ti 0, Ti 0, Ti 0, Ti 0]), (24, .box [Ti q2.1, Ti q2.2.1, Ti q2.2.2.1, Ti q2.2.2.2])]⟩) (by kernel_rfl) (by kernel_rfl) ?_ ?_
  ·refine DR 1 ?_
   refine DE_0 1 (I 0) (by kernel_rfl) rfl rfl rfl (gsat_none rfl) (by kernel_rfl) (Y0_quo64 (a := 0) (b := 2) rfl (by kernel_rfl) (by kernel_rfl) (by decide)) 22 rfl ?_
   refine DR 1 ?_
   refine DE_0 3 (I 0) (by kernel_rfl) rfl rfl rfl (gsat_none rfl) (by kernel_rfl) (Y0_quo64 (a := 0) (b := 2) rfl (by kernel_rfl) (by kernel_rfl) (by decide)) 24 rfl ?_
   refine DR 2 ?_
   refine DE_0 6 (I 0) (by kernel_rfl) rfl rfl rfl (gsat_none rfl) (by kernel_rfl) (Y0_rem (k := .i64) (a := 0) (b := 2) rfl (by kernel_rfl) (by kernel_rfl) (by decide)) 27 rfl ?_
   refine DR 1 ?_
   refine DE_0 8 (I 0) (by kernel_rfl) rfl rfl rfl (gsat_none rfl) (by kernel_rfl) (Y0_rem (k := .i64) (a := 0) (b := 2) rfl (by kernel_rfl) (by kernel_rfl) (by decide)) 29 rfl ?_
   refine DA 10 ?_
   refine XR 1 ?_
   refine XL_nil ?_
   subst hf5
   kernel_rfl
  show V _ _ _ _
  refine V_reg (mb 43 203000) [40, 32, 24] (s1 := ⟨bt 3 (.pt 24 0 :: .pt 32 0 :: .pt 40 0 :: I 0 :: I p1.1 :: bt 3 (.ag [Ti p1.1, Ti p1.2.1, Ti p1.2.2.1, Ti p1.2.2.2] :: I 0 :: bt 3 (.ag [Ti q2.1, Ti q2.2.1, Ti q2.2.2.1, Ti q2.2.2.2] :: I 1 :: bt 25 []))), [(40, .box [Ti f5, Ti 0, Ti 0, Ti 0, Ti 0, Ti 0, Ti 0, Ti 0, Ti 0]), (32, .box [Ti 0, Ti 0, Ti 0, Ti 0, Ti 0, Ti 0, Ti 0, Ti 0, Ti 0]), (24, .box [Ti q2.1, Ti q2.2.1, Ti q2.2.2.1, Ti q2.2.2.2])]⟩) ?_ ?_
  ·exact XE
  show VR _ _ _ _ _
  refine VR_s (n := 38) ?_
  refine V_keep (mb 43 203000) [40, 32, 24] (s' := ⟨bt 3 (.pt 24 0 :: .pt 32 0 :: .pt 40 0 :: I 0 :: I p1.1 :: bt 3 (.ag [Ti p1.1, Ti p1.2.1, Ti p1.2.2.1, Ti p1.2.2.2] :: I 0 :: bt 3 (.ag [Ti q2.1, Ti q2.2.1, Ti q2.2.2.1, Ti q2.2.2.2] :: I 1 :: bt 25 []))), [(40, .box [Ti f5, Ti 0, Ti 0, Ti 0, Ti 0, Ti 0, Ti 0, Ti 0, Ti 0]), (32, .box [Ti 0, Ti 0, Ti 0, Ti 0, Ti 0, Ti 0, Ti 0, Ti 0, Ti 0]), (24, .box [Ti q2.1, Ti q2.2.1, Ti q2.2.2.1, Ti q2.2.2.2])]⟩) (by kernel_rfl) ?_
  refine V_e (mb 43 465144) [40, 32, 24] (s1 := ⟨bt 3 (.pt 24 0 :: .pt 32 0 :: .pt 40 0 :: I 0 :: I p1.1 :: bt 3 (.ag [Ti p1.1, Ti p1.2.1, Ti p1.2.2.1, Ti p1.2.2.2] :: I 0 :: bt 3 (.ag [Ti q2.1, Ti q2.2.1, Ti q2.2.2.1, Ti q2.2.2.2] :: I 1 :: Bo true :: bt 24 []))), [(40, .box [Ti f5, Ti 0, Ti 0, Ti 0, Ti 0, Ti 0, Ti 0, Ti 0, Ti 0]), (32, .box [Ti 0, Ti 0, Ti 0, Ti 0, Ti 0, Ti 0, Ti 0, Ti 0, Ti 0]), (24, .box [Ti q2.1, Ti q2.2.1, Ti q2.2.2.1, Ti q2.2.2.2])]⟩) ?_
  refine V_seq ?_
  refine V_cond_true rfl ?_
  refine V_skip ?_
  show V _ _ _ _
  refine V_seq ?_
  refine V_block ?_
  refine V_sreg (mb 43 203768) [40, 32, 24] (s1 := ⟨bt 3 (.pt 24 0 :: .pt 32 0 :: .pt 40 0 :: I 0 :: I p1.1 :: I 1 :: I q2.2.1 :: .bot :: .ag [Ti p1.1, Ti p1.2.1, Ti p1.2.2.1, Ti p1.2.2.2] :: I 0 :: bt 3 (.ag [Ti q2.1, Ti q2.2.1, Ti q2.2.2.1, Ti q2.2.2.2] :: I 1 :: bt 25 [])), [(40, .box [Ti f5, Ti 0, Ti 0, Ti 0, Ti 0, Ti 0, Ti 0, Ti 0, Ti 0]), (32, .box [Ti 0, Ti 0, Ti 0, Ti 0, Ti 0, Ti 0, Ti 0, Ti 0, Ti 0]), (24, .box [Ti q2.1, Ti q2.2.1, Ti q2.2.2.1, Ti q2.2.2.2])]⟩) ?_ ?_
  ·refine XR 1 ?_
   refine L0 rfl rfl (Y0_indexA (c := fun v => [Ti v]) (xs := [q2.1, q2.2.1, q2.2.2.1, q2.2.2.2]) (v := q2.2.1) (k := .i64) (n := 1) Try.underlying95 sc3 sz3 rfl (by kernel_rfl) (by kernel_rfl) rfl (fun _ => rfl) rfl rfl) ?_
   exact XE
  obtain ⟨f7, hf7, h⟩ := of_sI h
  refine V_dreg [0, 1, 0, 4, 15, 0, 32, 0, 128, 480, 31, 2047, 4095, 0, 0, 24576, 65535, 31, 262143, 524287] 19 (cdm 19 [2819270816, 2819270817, 2819270666, 2819270682, 2819270741, 37180572330, 37180573354, 37180418730, 37180435114, 37180495530, 37179009365, 37179708757, 37183903061, 34941348522, 34538695338, 34740021930, 35791394133, 11453245781, 22906492245]) (mb 43 203000) [40, 32, 24] (s1 := ⟨bt 3 (.pt 24 0 :: .pt 32 0 :: .pt 40 0 :: I 0 :: I p1.1 :: bt 3 (.ag [Ti p1.1, Ti p1.2.1, Ti p1.2.2.1, Ti p1.2.2.2] :: I 0 :: bt 3 (.ag [Ti q2.1, Ti q2.2.1, Ti q2.2.2.1, Ti q2.2.2.2] :: I 1 :: bt 25 []))), [(40, .box [Ti f5, Ti f7, Ti 0, Ti 0, Ti 0, Ti 0, Ti 0, Ti 0, Ti 0]), (32, .box [Ti 0, Ti 0, Ti 0, Ti 0, Ti 0, Ti 0, Ti 0, Ti 0, Ti 0]), (24, .box [Ti q2.1, Ti q2.2.1, Ti q2.2.2.1, Ti q2.2.2.2])]⟩) (by kernel_rfl) (by kernel_rfl) ?_ ?_
  ·refine DR 1 ?_
   refine DE_0 1 (I 0) (by kernel_rfl) rfl rfl rfl (gsat_none rfl) (by kernel_rfl) (Y0_quo64 (a := 0) (b := 2) rfl (by kernel_rfl) (by kernel_rfl) (by decide)) 22 rfl ?_
   refine DR 1 ?_
   refine DE_0 3 (I 0) (by kernel_rfl) rfl rfl rfl (gsat_none rfl) (by kernel_rfl) (Y0_quo64 (a := 1) (b := 2) rfl (by kernel_rfl) (by kernel_rfl) (by decide)) 24 rfl ?_
   refine DR 2 ?_
   refine DE_0 6 (I 0) (by kernel_rfl) rfl rfl rfl (gsat_none rfl) (by kernel_rfl) (Y0_rem (k := .i64) (a := 0) (b := 2) rfl (by kernel_rfl) (by kernel_rfl) (by decide)) 27 rfl ?_
   refine DR 1 ?_
   refine DE_0 8 (I 1) (by kernel_rfl) rfl rfl rfl (gsat_none rfl) (by kernel_rfl) (Y0_rem (k := .i64) (a := 1) (b := 2) rfl (by kernel_rfl) (by kernel_rfl) (by decide)) 29 rfl ?_
   refine DA 10 ?_
   refine XR 1 ?_
   refine XL_nil ?_
   subst hf7
   kernel_rfl
  show V _ _ _ _
  refine V_reg (mb 43 203000) [40, 32, 24] (s1 := ⟨bt 3 (.pt 24 0 :: .pt 32 0 :: .pt 40 0 :: I 0 :: I p1.1 :: bt 3 (.ag [Ti p1.1, Ti p1.2.1, Ti p1.2.2.1, Ti p1.2.2.2] :: I 0 :: bt 3 (.ag [Ti q2.1, Ti q2.2.1, Ti q2.2.2.1, Ti q2.2.2.2] :: I 2 :: bt 25 []))), [(40, .box [Ti f5, Ti f7, Ti 0, Ti 0, Ti 0, Ti 0, Ti 0, Ti 0, Ti 0]), (32, .box [Ti 0, Ti 0, Ti 0, Ti 0, Ti 0, Ti 0, Ti 0, Ti 0, Ti 0]), (24, .box [Ti q2.1, Ti q2.2.1, Ti q2.2.2.1, Ti q2.2.2.2])]⟩) ?_ ?_
  ·exact XE
  show VR _ _ _ _ _
  refine VR_s (n := 37) ?_
  refine V_keep (mb 43 203000) [40, 32, 24] (s' := ⟨bt 3 (.pt 24 0 :: .pt 32 0 :: .pt 40 0 :: I 0 :: I p1.1 :: bt 3 (.ag [Ti p1.1, Ti p1.2.1, Ti p1.2.2.1, Ti p1.2.2.2] :: I 0 :: bt 3 (.ag [Ti q2.1, Ti q2.2.1, Ti q2.2.2.1, Ti q2.2.2.2] :: I 2 :: bt 25 []))), [(40, .box [Ti f5, Ti f7, Ti 0, Ti 0, Ti 0, Ti 0, Ti 0, Ti 0, Ti 0]), (32, .box [Ti 0, Ti 0, Ti 0, Ti 0, Ti 0, Ti 0, Ti 0, Ti 0, Ti 0]), (24, .box [Ti q2.1, Ti q2.2.1, Ti q2.2.2.1, Ti q2.2.2.2])]⟩) (by kernel_rfl) ?_
  refine V_e (mb 43 465144) [40, 32, 24] (s1 := ⟨bt 3 (.pt 24 0 :: .pt 32 0 :: .pt 40 0 :: I 0 :: I p1.1 :: bt 3 (.ag [Ti p1.1, Ti p1.2.1, Ti p1.2.2.1, Ti p1.2.2.2] :: I 0 :: bt 3 (.ag [Ti q2.1, Ti q2.2.1, Ti q2.2.2.1, Ti q2.2.2.2] :: I 2 :: Bo true :: bt 24 []))), [(40, .box [Ti f5, Ti f7, Ti 0, Ti 0, Ti 0, Ti 0, Ti 0, Ti 0, Ti 0]), (32, .box [Ti 0, Ti 0, Ti 0, Ti 0, Ti 0, Ti 0, Ti 0, Ti 0, Ti 0]), (24, .box [Ti q2.1, Ti q2.2.1, Ti q2.2.2.1, Ti q2.2.2.2])]⟩) ?_
  refine V_seq ?_
  refine V_cond_true rfl ?_
  refine V_skip ?_
  show V _ _ _ _
  refine V_seq ?_
  refine V_block ?_
  refine V_sreg (mb 43 203768) [40, 32, 24] (s1 := ⟨bt 3 (.pt 24 0 :: .pt 32 0 :: .pt 40 0 :: I 0 :: I p1.1 :: I 2 :: I q2.2.2.1 :: .bot :: .ag [Ti p1.1, Ti p1.2.1, Ti p1.2.2.1, Ti p1.2.2.2] :: I 0 :: bt 3 (.ag [Ti q2.1, Ti q2.2.1, Ti q2.2.2.1, Ti q2.2.2.2] :: I 2 :: bt 25 [])), [(40, .box [Ti f5, Ti f7, Ti 0, Ti 0, Ti 0, Ti 0, Ti 0, Ti 0, Ti 0]), (32, .box [Ti 0, Ti 0, Ti 0, Ti 0, Ti 0, Ti 0, Ti 0, Ti 0, Ti 0]), (24, .box [Ti q2.1, Ti q2.2.1, Ti q2.2.2.1, Ti q2.2.2.2])]⟩) ?_ ?_
  ·refine XR 1 ?_
   refine L0 rfl rfl (Y0_indexA (c := fun v => [Ti v]) (xs := [q2.1, q2.2.1, q2.2.2.1, q2.2.2.2]) (v := q2.2.2.1) (k := .i64) (n := 2) Try.underlying95 sc3 sz3 rfl (by kernel_rfl) (by kernel_rfl) rfl (fun _ => rfl) rfl rfl) ?_
   exact XE
  obtain ⟨f9, hf9, h⟩ := of_sI h
  refine V_dreg [0, 1, 0, 4, 15, 0, 32, 0, 128, 480, 31, 2047, 4095, 0, 0, 24576, 65535, 31, 262143, 524287] 19 (cdm 19 [2819270816, 2819270817, 2819270666, 2819270682, 2819270741, 37180572330, 37180573354, 37180418730, 37180435114, 37180495530, 37179009365, 37179708757, 37183903061, 34941348522, 34538695338, 34740021930, 35791394133, 11453245781, 22906492245]) (mb 43 203000) [40, 32, 24] (s1 := ⟨bt 3 (.pt 24 0 :: .pt 32 0 :: .pt 40 0 :: I 0 :: I p1.1 :: bt 3 (.ag [Ti p1.1, Ti p1.2.1, Ti p1.2.2.1, Ti p1.2.2.2] :: I 0 :: bt 3 (.ag [Ti q2.1, Ti q2.2.1, Ti q2.2.2.1, Ti q2.2.2.2] :: I 2 :: bt 25 []))), [(40, .box [Ti f5, Ti f7, Ti 0, Ti f9, Ti 0, Ti 0, Ti 0, Ti 0, Ti 0]), (32, .box [Ti 0, Ti 0, Ti 0, Ti 0, Ti 0, Ti 0, Ti 0, Ti 0, Ti 0]), (24, .box [Ti q2.1, Ti q2.2.1, Ti q2.2.2.1, Ti q2.2.2.2])]⟩) (by kernel_rfl) (by kernel_rfl) ?_ ?_
  ·refine DR 1 ?_
   refine DE_0 1 (I 0) (by kernel_rfl) rfl rfl rfl (gsat_none rfl) (by kernel_rfl) (Y0_quo64 (a := 0) (b := 2) rfl (by kernel_rfl) (by kernel_rfl) (by decide)) 22 rfl ?_
   refine DR 1 ?_
   refine DE_0 3 (I 1) (by kernel_rfl) rfl rfl rfl (gsat_none rfl) (by kernel_rfl) (Y0_quo64 (a := 2) (b := 2) rfl (by kernel_rfl) (by kernel_rfl) (by decide)) 24 rfl ?_
   refine DR 2 ?_
   refine DE_0 6 (I 0) (by kernel_rfl) rfl rfl rfl (gsat_none rfl) (by kernel_rfl) (Y0_rem (k := .i64) (a := 0) (b := 2) rfl (by kernel_rfl) (by kernel_rfl) (by decide)) 27 rfl ?_
   refine DR 1 ?_
   refine DE_0 8 (I 0) (by kernel_rfl) rfl rfl rfl (gsat_none rfl) (by kernel_rfl) (Y0_rem (k := .i64) (a := 2) (b := 2) rfl (by kernel_rfl) (by kernel_rfl) (by decide)) 29 rfl ?_
   refine DA 10 ?_
   refine XR 1 ?_
   refine XL_nil ?_
   subst hf9
   kernel_rfl
  show V _ _ _ _
  refine V_reg (mb 43 203000) [40, 32, 24] (s1 := ⟨bt 3 (.pt 24 0 :: .pt 32 0 :: .pt 40 0 :: I 0 :: I p1.1 :: bt 3 (.ag [Ti p1.1, Ti p1.2.1, Ti p1.2.2.1, Ti p1.2.2.2] :: I 0 :: bt 3 (.ag [Ti q2.1, Ti q2.2.1, Ti q2.2.2.1, Ti q2.2.2.2] :: I 3 :: bt 25 []))), [(40, .box [Ti f5, Ti f7, Ti 0, Ti f9, Ti 0, Ti 0, Ti 0, Ti 0, Ti 0]), (32, .box [Ti 0, Ti 0, Ti 0, Ti 0, Ti 0, Ti 0, Ti 0, Ti 0, Ti 0]), (24, .box [Ti q2.1, Ti q2.2.1, Ti q2.2.2.1, Ti q2.2.2.2])]⟩) ?_ ?_
  ·exact XE
  show VR _ _ _ _ _
  refine VR_s (n := 36) ?_
  refine V_keep (mb 43 203000) [40, 32, 24] (s' := ⟨bt 3 (.pt 24 0 :: .pt 32 0 :: .pt 40 0 :: I 0 :: I p1.1 :: bt 3 (.ag [Ti p1.1, Ti p1.2.1, Ti p1.2.2.1, Ti p1.2.2.2] :: I 0 :: bt 3 (.ag [Ti q2.1, Ti q2.2.1, Ti q2.2.2.1, Ti q2.2.2.2] :: I 3 :: bt 25 []))), [(40, .box [Ti f5, Ti f7, Ti 0, Ti f9, Ti 0, Ti 0, Ti 0, Ti 0, Ti 0]), (32, .box [Ti 0, Ti 0, Ti 0, Ti 0, Ti 0, Ti 0, Ti 0, Ti 0, Ti 0]), (24, .box [Ti q2.1, Ti q2.2.1, Ti q2.2.2.1, Ti q2.2.2.2])]⟩) (by kernel_rfl) ?_
  refine V_e (mb 43 465144) [40, 32, 24] (s1 := ⟨bt 3 (.pt 24 0 :: .pt 32 0 :: .pt 40 0 :: I 0 :: I p1.1 :: bt 3 (.ag [Ti p1.1, Ti p1.2.1, Ti p1.2.2.1, Ti p1.2.2.2] :: I 0 :: bt 3 (.ag [Ti q2.1, Ti q2.2.1, Ti q2.2.2.1, Ti q2.2.2.2] :: I 3 :: Bo true :: bt 24 []))), [(40, .box [Ti f5, Ti f7, Ti 0, Ti f9, Ti 0, Ti 0, Ti 0, Ti 0, Ti 0]), (32, .box [Ti 0, Ti 0, Ti 0, Ti 0, Ti 0, Ti 0, Ti 0, Ti 0, Ti 0]), (24, .box [Ti q2.1, Ti q2.2.1, Ti q2.2.2.1, Ti q2.2.2.2])]⟩) ?_
  refine V_seq ?_
  refine V_cond_true rfl ?_
  refine V_skip ?_
  show V _ _ _ _
  refine V_seq ?_
  refine V_block ?_
  refine V_sreg (mb 43 203768) [40, 32, 24] (s1 := ⟨bt 3 (.pt 24 0 :: .pt 32 0 :: .pt 40 0 :: I 0 :: I p1.1 :: I 3 :: I q2.2.2.2 :: .bot :: .ag [Ti p1.1, Ti p1.2.1, Ti p1.2.2.1, Ti p1.2.2.2] :: I 0 :: bt 3 (.ag [Ti q2.1, Ti q2.2.1, Ti q2.2.2.1, Ti q2.2.2.2] :: I 3 :: bt 25 [])), [(40, .box [Ti f5, Ti f7, Ti 0, Ti f9, Ti 0, Ti 0, Ti 0, Ti 0, Ti 0]), (32, .box [Ti 0, Ti 0, Ti 0, Ti 0, Ti 0, Ti 0, Ti 0, Ti 0, Ti 0]), (24, .box [Ti q2.1, Ti q2.2.1, Ti q2.2.2.1, Ti q2.2.2.2])]⟩) ?_ ?_
  ·refine XR 1 ?_
   refine L0 rfl rfl (Y0_indexA (c := fun v => [Ti v]) (xs := [q2.1, q2.2.1, q2.2.2.1, q2.2.2.2]) (v := q2.2.2.2) (k := .i64) (n := 3) Try.underlying95 sc3 sz3 rfl (by kernel_rfl) (by kernel_rfl) rfl (fun _ => rfl) rfl rfl) ?_
   exact XE
  obtain ⟨f11, hf11, h⟩ := of_sI h
  refine V_dreg [0, 1, 0, 4, 15, 0, 32, 0, 128, 480, 31, 2047, 4095, 0, 0, 24576, 65535, 31, 262143, 524287] 19 (cdm 19 [2819270816, 2819270817, 2819270666, 2819270682, 2819270741, 37180572330, 37180573354, 37180418730, 37180435114, 37180495530, 37179009365, 37179708757, 37183903061, 34941348522, 34538695338, 34740021930, 35791394133, 11453245781, 22906492245]) (mb 43 203000) [40, 32, 24] (s1 := ⟨bt 3 (.pt 24 0 :: .pt 32 0 :: .pt 40 0 :: I 0 :: I p1.1 :: bt 3 (.ag [Ti p1.1, Ti p1.2.1, Ti p1.2.2.1, Ti p1.2.2.2] :: I 0 :: bt 3 (.ag [Ti q2.1, Ti q2.2.1, Ti q2.2.2.1, Ti q2.2.2.2] :: I 3 :: bt 25 []))), [(40, .box [Ti f5, Ti f7, Ti 0, Ti f9, Ti f11, Ti 0, Ti 0, Ti 0, Ti 0]), (32, .box [Ti 0, Ti 0, Ti 0, Ti 0, Ti 0, Ti 0, Ti 0, Ti 0, Ti 0]), (24, .box [Ti q2.1, Ti q2.2.1, Ti q2.2.2.1, Ti q2.2.2.2])]⟩) (by kernel_rfl) (by kernel_rfl) ?_ ?_
  ·refine DR 1 ?_
   refine DE_0 1 (I 0) (by kernel_rfl) rfl rfl rfl (gsat_none rfl) (by kernel_rfl) (Y0_quo64 (a := 0) (b := 2) rfl (by kernel_rfl) (by kernel_rfl) (by decide)) 22 rfl ?_
   refine DR 1 ?_
   refine DE_0 3 (I 1) (by kernel_rfl) rfl rfl rfl (gsat_none rfl) (by kernel_rfl) (Y0_quo64 (a := 3) (b := 2) rfl (by kernel_rfl) (by kernel_rfl) (by decide)) 24 rfl ?_
   refine DR 2 ?_
   refine DE_0 6 (I 0) (by kernel_rfl) rfl rfl rfl (gsat_none rfl) (by kernel_rfl) (Y0_rem (k := .i64) (a := 0) (b := 2) rfl (by kernel_rfl) (by kernel_rfl) (by decide)) 27 rfl ?_
   refine DR 1 ?_
   refine DE_0 8 (I 1) (by kernel_rfl) rfl rfl rfl (gsat_none rfl) (by kernel_rfl) (Y0_rem (k := .i64) (a := 3) (b := 2) rfl (by kernel_rfl) (by kernel_rfl) (by decide)) 29 rfl ?_
   refine DA 10 ?_
   refine XR 1 ?_
   refine XL_nil ?_
   subst hf11
   kernel_rfl
  show V _ _ _ _
  refine V_reg (mb 43 203000) [40, 32, 24] (s1 := ⟨bt 3 (.pt 24 0 :: .pt 32 0 :: .pt 40 0 :: I 0 :: I p1.1 :: bt 3 (.ag [Ti p1.1, Ti p1.2.1, Ti p1.2.2.1, Ti p1.2.2.2] :: I 0 :: bt 3 (.ag [Ti q2.1, Ti q2.2.1, Ti q2.2.2.1, Ti q2.2.2.2] :: I 4 :: bt 25 []))), [(40, .box [Ti f5, Ti f7, Ti 0, Ti f9, Ti f11, Ti 0, Ti 0, Ti 0, Ti 0]), (32, .box [Ti 0, Ti 0, Ti 0, Ti 0, Ti 0, Ti 0, Ti 0, Ti 0, Ti 0]), (24, .box [Ti q2.1, Ti q2.2.1, Ti q2.2.2.1, Ti q2.2.2.2])]⟩) ?_ ?_
  ·exact XE
  show VR _ _ _ _ _
  refine VR_s (n := 35) ?_
  refine V_keep (mb 43 203000) [40, 32, 24] (s' := ⟨bt 3 (.pt 24 0 :: .pt 32 0 :: .pt 40 0 :: I 0 :: I p1.1 :: bt 3 (.ag [Ti p1.1, Ti p1.2.1, Ti p1.2.2.1, Ti p1.2.2.2] :: I 0 :: bt 3 (.ag [Ti q2.1, Ti q2.2.1, Ti q2.2.2.1, Ti q2.2.2.2] :: I 4 :: bt 25 []))), [(40, .box [Ti f5, Ti f7, Ti 0, Ti f9, Ti f11, Ti 0, Ti 0, Ti 0, Ti 0]), (32, .box [Ti 0, Ti 0, Ti 0, Ti 0, Ti 0, Ti 0, Ti 0, Ti 0, Ti 0]), (24, .box [Ti q2.1, Ti q2.2.1, Ti q2.2.2.1, Ti q2.2.2.2])]⟩) (by kernel_rfl) ?_
  refine V_e (mb 43 465144) [40, 32, 24] (s1 := ⟨bt 3 (.pt 24 0 :: .pt 32 0 :: .pt 40 0 :: I 0 :: I p1.1 :: bt 3 (.ag [Ti p1.1, Ti p1.2.1, Ti p1.2.2.1, Ti p1.2.2.2] :: I 0 :: bt 3 (.ag [Ti q2.1, Ti q2.2.1, Ti q2.2.2.1, Ti q2.2.2.2] :: I 4 :: Bo false :: bt 24 []))), [(40, .box [Ti f5, Ti f7, Ti 0, Ti f9, Ti f11, Ti 0, Ti 0, Ti 0, Ti 0]), (32, .box [Ti 0, Ti 0, Ti 0, Ti 0, Ti 0, Ti 0, Ti 0, Ti 0, Ti 0]), (24, .box [Ti q2.1, Ti q2.2.1, Ti q2.2.2.1, Ti q2.2.2.2])]⟩) ?_
  refine V_seq ?_
  refine V_cond_false rfl ?_
  refine V_exit ?_
  show V _ _ _ _
  refine V_reg (mb 43 6200) [40, 32, 24] (s1 := ⟨bt 3 (.pt 24 0 :: .pt 32 0 :: .pt 40 0 :: bt 5 (.ag [Ti p1.1, Ti p1.2.1, Ti p1.2.2.1, Ti p1.2.2.2] :: I 1 :: bt 30 [])), [(40, .box [Ti f5, Ti f7, Ti 0, Ti f9, Ti f11, Ti 0, Ti 0, Ti 0, Ti 0]), (32, .box [Ti 0, Ti 0, Ti 0, Ti 0, Ti 0, Ti 0, Ti 0, Ti 0, Ti 0]), (24, .box [Ti q2.1, Ti q2.2.1, Ti q2.2.2.1, Ti q2.2.2.2])]⟩) ?_ ?_
  ·exact XE
  show VR _ _ _ _ _
  refine VR_s (n := 38) ?_
  refine V_keep (mb 43 6200) [40, 32, 24] (s' := ⟨bt 3 (.pt 24 0 :: .pt 32 0 :: .pt 40 0 :: bt 5 (.ag [Ti p1.1, Ti p1.2.1, Ti p1.2.2.1, Ti p1.2.2.2] :: I 1 :: bt 30 [])), [(40, .box [Ti f5, Ti f7, Ti 0, Ti f9, Ti f11, Ti 0, Ti 0, Ti 0, Ti 0]), (32, .box [Ti 0, Ti 0, Ti 0, Ti 0, Ti 0, Ti 0, Ti 0, Ti 0, Ti 0]), (24, .box [Ti q2.1, Ti q2.2.1, Ti q2.2.2.1, Ti q2.2.2.2])]⟩) (by kernel_rfl) ?_
  refine V_e (mb 43 14392) [40, 32, 24] (s1 := ⟨bt 3 (.pt 24 0 :: .pt 32 0 :: .pt 40 0 :: bt 5 (.ag [Ti p1.1, Ti p1.2.1, Ti p1.2.2.1, Ti p1.2.2.2] :: I 1 :: Bo true :: bt 29 [])), [(40, .box [Ti f5, Ti f7, Ti 0, Ti f9, Ti f11, Ti 0, Ti 0, Ti 0, Ti 0]), (32, .box [Ti 0, Ti 0, Ti 0, Ti 0, Ti 0, Ti 0, Ti 0, Ti 0, Ti 0]), (24, .box [Ti q2.1, Ti q2.2.1, Ti q2.2.2.1, Ti q2.2.2.2])]⟩) ?_
  refine V_seq ?_
  refine V_cond_true rfl ?_
  refine V_skip ?_
  show V _ _ _ _
  refine V_seq ?_
  refine V_block ?_
  refine V_sreg (mb 43 6392) [40, 32, 24] (s1 := ⟨bt 3 (.pt 24 0 :: .pt 32 0 :: .pt 40 0 :: I 1 :: I p1.2.1 :: bt 3 (.ag [Ti p1.1, Ti p1.2.1, Ti p1.2.2.1, Ti p1.2.2.2] :: I 1 :: bt 30 [])), [(40, .box [Ti f5, Ti f7, Ti 0, Ti f9, Ti f11, Ti 0, Ti 0, Ti 0, Ti 0]), (32, .box [Ti 0, Ti 0, Ti 0, Ti 0, Ti 0, Ti 0, Ti 0, Ti 0, Ti 0]), (24, .box [Ti q2.1, Ti q2.2.1, Ti q2.2.2.1, Ti q2.2.2.2])]⟩) ?_ ?_
  ·refine XR 1 ?_
   refine L0 rfl rfl (Y0_indexA (c := fun v => [Ti v]) (xs := [p1.1, p1.2.1, p1.2.2.1, p1.2.2.2]) (v := p1.2.1) (k := .i64) (n := 1) Try.underlying95 sc3 sz3 rfl (by kernel_rfl) (by kernel_rfl) rfl (fun _ => rfl) rfl rfl) ?_
   exact XE
  refine V_e (mb 43 203000) [40, 32, 24] (s1 := ⟨bt 3 (.pt 24 0 :: .pt 32 0 :: .pt 40 0 :: I 1 :: I p1.2.1 :: bt 3 (.ag [Ti p1.1, Ti p1.2.1, Ti p1.2.2.1, Ti p1.2.2.2] :: I 1 :: bt 3 (.ag [Ti q2.1, Ti q2.2.1, Ti q2.2.2.1, Ti q2.2.2.2] :: I 0 :: bt 25 []))), [(40, .box [Ti f5, Ti f7, Ti 0, Ti f9, Ti f11, Ti 0, Ti 0, Ti 0, Ti 0]), (32, .box [Ti 0, Ti 0, Ti 0, Ti 0, Ti 0, Ti 0, Ti 0, Ti 0, Ti 0]), (24, .box [Ti q2.1, Ti q2.2.1, Ti q2.2.2.1, Ti q2.2.2.2])]⟩) ?_
  refine V_block (V_unroll 40 ?_)
  refine VR_s (n := 39) ?_
  refine V_keep (mb 43 203000) [40, 32, 24] (s' := ⟨bt 3 (.pt 24 0 :: .pt 32 0 :: .pt 40 0 :: I 1 :: I p1.2.1 :: bt 3 (.ag [Ti p1.1, Ti p1.2.1, Ti p1.2.2.1, Ti p1.2.2.2] :: I 1 :: bt 3 (.ag [Ti q2.1, Ti q2.2.1, Ti q2.2.2.1, Ti q2.2.2.2] :: I 0 :: bt 25 []))), [(40, .box [Ti f5, Ti f7, Ti 0, Ti f9, Ti f11, Ti 0, Ti 0, Ti 0, Ti 0]), (32, .box [Ti 0, Ti 0, Ti 0, Ti 0, Ti 0, Ti 0, Ti 0, Ti 0, Ti 0]), (24, .box [Ti q2.1, Ti q2.2.1, Ti q2.2.2.1, Ti q2.2.2.2])]⟩) (by kernel_rfl) ?_
  refine V_e (mb 43 465144) [40, 32, 24] (s1 := ⟨bt 3 (.pt 24 0 :: .pt 32 0 :: .pt 40 0 :: I 1 :: I p1.2.1 :: bt 3 (.ag [Ti p1.1, Ti p1.2.1, Ti p1.2.2.1, Ti p1.2.2.2] :: I 1 :: bt 3 (.ag [Ti q2.1, Ti q2.2.1, Ti q2.2.2.1, Ti q2.2.2.2] :: I 0 :: Bo true :: bt 24 []))), [(40, .box [Ti f5, Ti f7, Ti 0, Ti f9, Ti f11, Ti 0, Ti 0, Ti 0, Ti 0]), (32, .box [Ti 0, Ti 0, Ti 0, Ti 0, Ti 0, Ti 0, Ti 0, Ti 0, Ti 0]), (24, .box [Ti q2.1, Ti q2.2.1, Ti q2.2.2.1, Ti q2.2.2.2])]⟩) ?_
  refine V_seq ?_
  refine V_cond_true rfl ?_
  refine V_skip ?_
  show V _ _ _ _
  refine V_seq ?_
  refine V_block ?_
  refine V_sreg (mb 43 203768) [40, 32, 24] (s1 := ⟨bt 3 (.pt 24 0 :: .pt 32 0 :: .pt 40 0 :: I 1 :: I p1.2.1 :: I 0 :: I q2.1 :: .bot :: .ag [Ti p1.1, Ti p1.2.1, Ti p1.2.2.1, Ti p1.2.2.2] :: I 1 :: bt 3 (.ag [Ti q2.1, Ti q2.2.1, Ti q2.2.2.1, Ti q2.2.2.2] :: I 0 :: bt 25 [])), [(40, .box [Ti f5, Ti f7, Ti 0, Ti f9, Ti f11, Ti 0, Ti 0, Ti 0, Ti 0]), (32, .box [Ti 0, Ti 0, Ti 0, Ti 0, Ti 0, Ti 0, Ti 0, Ti 0, Ti 0]), (24, .box [Ti q2.1, Ti q2.2.1, Ti q2.2.2.1, Ti q2.2.2.2])]⟩) ?_ ?_
  ·refine XR 1 ?_
   refine L0 rfl rfl (Y0_indexA (c := fun v => [Ti v]) (xs := [q2.1, q2.2.1, q2.2.2.1, q2.2.2.2]) (v := q2.1) (k := .i64) (n := 0) Try.underlying95 sc3 sz3 rfl (by kernel_rfl) (by kernel_rfl) rfl (fun _ => rfl) rfl rfl) ?_
   exact XE
  obtain ⟨f15, hf15, h⟩ := of_sI h
  refine V_dreg [0, 1, 0, 4, 15, 0, 32, 0, 128, 480, 31, 2047, 4095, 0, 0, 24576, 65535, 31, 262143, 524287] 19 (cdm 19 [2819270816, 2819270817, 2819270666, 2819270682, 2819270741, 37180572330, 37180573354, 37180418730, 37180435114, 37180495530, 37179009365, 37179708757, 37183903061, 34941348522, 34538695338, 34740021930, 35791394133, 11453245781, 22906492245]) (mb 43 203000) [40, 32, 24] (s1 := ⟨bt 3 (.pt 24 0 :: .pt 32 0 :: .pt 40 0 :: I 1 :: I p1.2.1 :: bt 3 (.ag [Ti p1.1, Ti p1.2.1, Ti p1.2.2.1, Ti p1.2.2.2] :: I 1 :: bt 3 (.ag [Ti q2.1, Ti q2.2.1, Ti q2.2.2.1, Ti q2.2.2.2] :: I 0 :: bt 25 []))), [(40, .box [Ti f5, Ti f15, Ti 0, Ti f9, Ti f11, Ti 0, Ti 0, Ti 0, Ti 0]), (32, .box [Ti 0, Ti 0, Ti 0, Ti 0, Ti 0, Ti 0, Ti 0, Ti 0, Ti 0]), (24, .box [Ti q2.1, Ti q2.2.1, Ti q2.2.2.1, Ti q2.2.2.2])]⟩) (by kernel_rfl) (by kernel_rfl) ?_ ?_
  ·refine DR 1 ?_
   refine DE_0 1 (I 0) (by kernel_rfl) rfl rfl rfl (gsat_none rfl) (by kernel_rfl) (Y0_quo64 (a := 1) (b := 2) rfl (by kernel_rfl) (by kernel_rfl) (by decide)) 22 rfl ?_
   refine DR 1 ?_
   refine DE_0 3 (I 0) (by kernel_rfl) rfl rfl rfl (gsat_none rfl) (by kernel_rfl) (Y0_quo64 (a := 0) (b := 2) rfl (by kernel_rfl) (by kernel_rfl) (by decide)) 24 rfl ?_
   refine DR 2 ?_
   refine DE_0 6 (I 1) (by kernel_rfl) rfl rfl rfl (gsat_none rfl) (by kernel_rfl) (Y0_rem (k := .i64) (a := 1) (b := 2) rfl (by kernel_rfl) (by kernel_rfl) (by decide)) 27 rfl ?_
   refine DR 1 ?_
   refine DE_0 8 (I 0) (by kernel_rfl) rfl rfl rfl (gsat_none rfl) (by kernel_rfl) (Y0_rem (k := .i64) (a := 0) (b := 2) rfl (by kernel_rfl) (by kernel_rfl) (by decide)) 29 rfl ?_
   refine DA 10 ?_
   refine XR 1 ?_
   refine XL_nil ?_
   subst hf15
   kernel_rfl
  show V _ _ _ _
  refine V_reg (mb 43 203000) [40, 32, 24] (s1 := ⟨bt 3 (.pt 24 0 :: .pt 32 0 :: .pt 40 0 :: I 1 :: I p1.2.1 :: bt 3 (.ag [Ti p1.1, Ti p1.2.1, Ti p1.2.2.1, Ti p1.2.2.2] :: I 1 :: bt 3 (.ag [Ti q2.1, Ti q2.2.1, Ti q2.2.2.1, Ti q2.2.2.2] :: I 1 :: bt 25 []))), [(40, .box [Ti f5, Ti f15, Ti 0, Ti f9, Ti f11, Ti 0, Ti 0, Ti 0, Ti 0]), (32, .box [Ti 0, Ti 0, Ti 0, Ti 0, Ti 0, Ti 0, Ti 0, Ti 0, Ti 0]), (24, .box [Ti q2.1, Ti q2.2.1, Ti q2.2.2.1, Ti q2.2.2.2])]⟩) ?_ ?_
  ·exact XE
  show VR _ _ _ _ _
  refine VR_s (n := 38) ?_
  refine V_keep (mb 43 203000) [40, 32, 24] (s' := ⟨bt 3 (.pt 24 0 :: .pt 32 0 :: .pt 40 0 :: I 1 :: I p1.2.1 :: bt 3 (.ag [Ti p1.1, Ti p1.2.1, Ti p1.2.2.1, Ti p1.2.2.2] :: I 1 :: bt 3 (.ag [Ti q2.1, Ti q2.2.1, Ti q2.2.2.1, Ti q2.2.2.2] :: I 1 :: bt 25 []))), [(40, .box [Ti f5, Ti f15, Ti 0, Ti f9, Ti f11, Ti 0, Ti 0, Ti 0, Ti 0]), (32, .box [Ti 0, Ti 0, Ti 0, Ti 0, Ti 0, Ti 0, Ti 0, Ti 0, Ti 0]), (24, .box [Ti q2.1, Ti q2.2.1, Ti q2.2.2.1, Ti q2.2.2.2])]⟩) (by kernel_rfl) ?_
  refine V_e (mb 43 465144) [40, 32, 24] (s1 := ⟨bt 3 (.pt 24 0 :: .pt 32 0 :: .pt 40 0 :: I 1 :: I p1.2.1 :: bt 3 (.ag [Ti p1.1, Ti p1.2.1, Ti p1.2.2.1, Ti p1.2.2.2] :: I 1 :: bt 3 (.ag [Ti q2.1, Ti q2.2.1, Ti q2.2.2.1, Ti q2.2.2.2] :: I 1 :: Bo true :: bt 24 []))), [(40, .box [Ti f5, Ti f15, Ti 0, Ti f9, Ti f11, Ti 0, Ti 0, Ti 0, Ti 0]), (32, .box [Ti 0, Ti 0, Ti 0, Ti 0, Ti 0, Ti 0, Ti 0, Ti 0, Ti 0]), (24, .box [Ti q2.1, Ti q2.2.1, Ti q2.2.2.1, Ti q2.2.2.2])]⟩) ?_
  refine V_seq ?_
  refine V_cond_true rfl ?_
  refine V_skip ?_
  show V _ _ _ _
  refine V_seq ?_
  refine V_block ?_
  refine V_sreg (mb 43 203768) [40, 32, 24] (s1 := ⟨bt 3 (.pt 24 0 :: .pt 32 0 :: .pt 40 0 :: I 1 :: I p1.2.1 :: I 1 :: I q2.2.1 :: .bot :: .ag [Ti p1.1, Ti p1.2.1, Ti p1.2.2.1, Ti p1.2.2.2] :: I 1 :: bt 3 (.ag [Ti q2.1, Ti q2.2.1, Ti q2.2.2.1, Ti q2.2.2.2] :: I 1 :: bt 25 [])), [(40, .box [Ti f5, Ti f15, Ti 0, Ti f9, Ti f11, Ti 0, Ti 0, Ti 0, Ti 0]), (32, .box [Ti 0, Ti 0, Ti 0, Ti 0, Ti 0, Ti 0, Ti 0, Ti 0, Ti 0]), (24, .box [Ti q2.1, Ti q2.2.1, Ti q2.2.2.1, Ti q2.2.2.2])]⟩) ?_ ?_
  ·refine XR 1 ?_
   refine L0 rfl rfl (Y0_indexA (c := fun v => [Ti v]) (xs := [q2.1, q2.2.1, q2.2.2.1, q2.2.2.2]) (v := q2.2.1) (k := .i64) (n := 1) Try.underlying95 sc3 sz3 rfl (by kernel_rfl) (by kernel_rfl) rfl (fun _ => rfl) rfl rfl) ?_
   exact XE
  obtain ⟨f17, hf17, h⟩ := of_sI h
  refine V_dreg [0, 1, 0, 4, 15, 0, 32, 0, 128, 480, 31, 2047, 4095, 0, 0, 24576, 65535, 31, 262143, 524287] 19 (cdm 19 [2819270816, 2819270817, 2819270666, 2819270682, 2819270741, 37180572330, 37180573354, 37180418730, 37180435114, 37180495530, 37179009365, 37179708757, 37183903061, 34941348522, 34538695338, 34740021930, 35791394133, 11453245781, 22906492245]) (mb 43 203000) [40, 32, 24] (s1 := ⟨bt 3 (.pt 24 0 :: .pt 32 0 :: .pt 40 0 :: I 1 :: I p1.2.1 :: bt 3 (.ag [Ti p1.1, Ti p1.2.1, Ti p1.2.2.1, Ti p1.2.2.2] :: I 1 :: bt 3 (.ag [Ti q2.1, Ti q2.2.1, Ti q2.2.2.1, Ti q2.2.2.2] :: I 1 :: bt 25 []))), [(40, .box [Ti f5, Ti f15, Ti f17, Ti f9, Ti f11, Ti 0, Ti 0, Ti 0, Ti 0]), (32, .box [Ti 0, Ti 0, Ti 0, Ti 0, Ti 0, Ti 0, Ti 0, Ti 0, Ti 0]), (24, .box [Ti q2.1, Ti q2.2.1, Ti q2.2.2.1, Ti q2.2.2.2])]⟩) (by kernel_rfl) (by kernel_rfl) ?_ ?_
  ·refine DR 1 ?_
   refine DE_0 1 (I 0) (by kernel_rfl) rfl rfl rfl (gsat_none rfl) (by kernel_rfl) (Y0_quo64 (a := 1) (b := 2) rfl (by kernel_rfl) (by kernel_rfl) (by decide)) 22 rfl ?_
   refine DR 1 ?_
   refine DE_0 3 (I 0) (by kernel_rfl) rfl rfl rfl (gsat_none rfl) (by kernel_rfl) (Y0_quo64 (a := 1) (b := 2) rfl (by kernel_rfl) (by kernel_rfl) (by decide)) 24 rfl ?_
   refine DR 2 ?_
   refine DE_0 6 (I 1) (by kernel_rfl) rfl rfl rfl (gsat_none rfl) (by kernel_rfl) (Y0_rem (k := .i64) (a := 1) (b := 2) rfl (by kernel_rfl) (by kernel_rfl) (by decide)) 27 rfl ?_
   refine DR 1 ?_
   refine DE_0 8 (I 1) (by kernel_rfl) rfl rfl rfl (gsat_none rfl) (by kernel_rfl) (Y0_rem (k := .i64) (a := 1) (b := 2) rfl (by kernel_rfl) (by kernel_rfl) (by decide)) 29 rfl ?_
   refine DA 10 ?_
   refine XR 1 ?_
   refine XL_nil ?_
   subst hf17
   kernel_rfl
  show V _ _ _ _
  refine V_reg (mb 43 203000) [40, 32, 24] (s1 := ⟨bt 3 (.pt 24 0 :: .pt 32 0 :: .pt 40 0 :: I 1 :: I p1.2.1 :: bt 3 (.ag [Ti p1.1, Ti p1.2.1, Ti p1.2.2.1, Ti p1.2.2.2] :: I 1 :: bt 3 (.ag [Ti q2.1, Ti q2.2.1, Ti q2.2.2.1, Ti q2.2.2.2] :: I 2 :: bt 25 []))), [(40, .box [Ti f5, Ti f15, Ti f17, Ti f9, Ti f11, Ti 0, Ti 0, Ti 0, Ti 0]), (32, .box [Ti 0, Ti 0, Ti 0, Ti 0, Ti 0, Ti 0, Ti 0, Ti 0, Ti 0]), (24, .box [Ti q2.1, Ti q2.2.1, Ti q2.2.2.1, Ti q2.2.2.2])]⟩) ?_ ?_
  ·exact XE
  show VR _ _ _ _ _
  refine VR_s (n := 37) ?_
  refine V_keep (mb 43 203000) [40, 32, 24] (s' := ⟨bt 3 (.pt 24 0 :: .pt 32 0 :: .pt 40 0 :: I 1 :: I p1.2.1 :: bt 3 (.ag [Ti p1.1, Ti p1.2.1, Ti p1.2.2.1, Ti p1.2.2.2] :: I 1 :: bt 3 (.ag [Ti q2.1, Ti q2.2.1, Ti q2.2.2.1, Ti q2.2.2.2] :: I 2 :: bt 25 []))), [(40, .box [Ti f5, Ti f15, Ti f17, Ti f9, Ti f11, Ti 0, Ti 0, Ti 0, Ti 0]), (32, .box [Ti 0, Ti 0, Ti 0, Ti 0, Ti 0, Ti 0, Ti 0, Ti 0, Ti 0]), (24, .box [Ti q2.1, Ti q2.2.1, Ti q2.2.2.1, Ti q2.2.2.2])]⟩) (by kernel_rfl) ?_
  refine V_e (mb 43 465144) [40, 32, 24] (s1 := ⟨bt 3 (.pt 24 0 :: .pt 32 0 :: .pt 40 0 :: I 1 :: I p1.2.1 :: bt 3 (.ag [Ti p1.1, Ti p1.2.1, Ti p1.2.2.1, Ti p1.2.2.2] :: I 1 :: bt 3 (.ag [Ti q2.1, Ti q2.2.1, Ti q2.2.2.1, Ti q2.2.2.2] :: I 2 :: Bo true :: bt 24 []))), [(40, .box [Ti f5, Ti f15, Ti f17, Ti f9, Ti f11, Ti 0, Ti 0, Ti 0, Ti 0]), (32, .box [Ti 0, Ti 0, Ti 0, Ti 0, Ti 0, Ti 0, Ti 0, Ti 0, Ti 0]), (24, .box [Ti q2.1, Ti q2.2.1, Ti q2.2.2.1, Ti q2.2.2.2])]⟩) ?_
  refine V_seq ?_
  refine V_cond_true rfl ?_
  refine V_skip ?_
  show V _ _ _ _
  refine V_seq ?_
  refine V_block ?_
  refine V_sreg (mb 43 203768) [40, 32, 24] (s1 := ⟨bt 3 (.pt 24 0 :: .pt 32 0 :: .pt 40 0 :: I 1 :: I p1.2.1 :: I 2 :: I q2.2.2.1 :: .bot :: .ag [Ti p1.1, Ti p1.2.1, Ti p1.2.2.1, Ti p1.2.2.2] :: I 1 :: bt 3 (.ag [Ti q2.1, Ti q2.2.1, Ti q2.2.2.1, Ti q2.2.2.2] :: I 2 :: bt 25 [])), [(40, .box [Ti f5, Ti f15, Ti f17, Ti f9, Ti f11, Ti 0, Ti 0, Ti 0, Ti 0]), (32, .box [Ti 0, Ti 0, Ti 0, Ti 0, Ti 0, Ti 0, Ti 0, Ti 0, Ti 0]), (24, .box [Ti q2.1, Ti q2.2.1, Ti q2.2.2.1, Ti q2.2.2.2])]⟩) ?_ ?_
  ·refine XR 1 ?_
   refine L0 rfl rfl (Y0_indexA (c := fun v => [Ti v]) (xs := [q2.1, q2.2.1, q2.2.2.1, q2.2.2.2]) (v := q2.2.2.1) (k := .i64) (n := 2) Try.underlying95 sc3 sz3 rfl (by kernel_rfl) (by kernel_rfl) rfl (fun _ => rfl) rfl rfl) ?_
   exact XE
  obtain ⟨f19, hf19, h⟩ := of_sI h
  refine V_dreg [0, 1, 0, 4, 15, 0, 32, 0, 128, 480, 31, 2047, 4095, 0, 0, 24576, 65535, 31, 262143, 524287] 19 (cdm 19 [2819270816, 2819270817, 2819270666, 2819270682, 2819270741, 37180572330, 37180573354, 37180418730, 37180435114, 37180495530, 37179009365, 37179708757, 37183903061, 34941348522, 34538695338, 34740021930, 35791394133, 11453245781, 22906492245]) (mb 43 203000) [40, 32, 24] (s1 := ⟨bt 3 (.pt 24 0 :: .pt 32 0 :: .pt 40 0 :: I 1 :: I p1.2.1 :: bt 3 (.ag [Ti p1.1, Ti p1.2.1, Ti p1.2.2.1, Ti p1.2.2.2] :: I 1 :: bt 3 (.ag [Ti q2.1, Ti q2.2.1, Ti q2.2.2.1, Ti q2.2.2.2] :: I 2 :: bt 25 []))), [(40, .box [Ti f5, Ti f15, Ti f17, Ti f9, Ti f19, Ti 0, Ti 0, Ti 0, Ti 0]), (32, .box [Ti 0, Ti 0, Ti 0, Ti 0, Ti 0, Ti 0, Ti 0, Ti 0, Ti 0]), (24, .box [Ti q2.1, Ti q2.2.1, Ti q2.2.2.1, Ti q2.2.2.2])]⟩) (by kernel_rfl) (by kernel_rfl) ?_ ?_
  ·refine DR 1 ?_
   refine DE_0 1 (I 0) (by kernel_rfl) rfl rfl rfl (gsat_none rfl) (by kernel_rfl) (Y0_quo64 (a := 1) (b := 2) rfl (by kernel_rfl) (by kernel_rfl) (by decide)) 22 rfl ?_
   refine DR 1 ?_
   refine DE_0 3 (I 1) (by kernel_rfl) rfl rfl rfl (gsat_none rfl) (by kernel_rfl) (Y0_quo64 (a := 2) (b := 2) rfl (by kernel_rfl) (by kernel_rfl) (by decide)) 24 rfl ?_
   refine DR 2 ?_
   refine DE_0 6 (I 1) (by kernel_rfl) rfl rfl rfl (gsat_none rfl) (by kernel_rfl) (Y0_rem (k := .i64) (a := 1) (b := 2) rfl (by kernel_rfl) (by kernel_rfl) (by decide)) 27 rfl ?_
   refine DR 1 ?_
   refine DE_0 8 (I 0) (by kernel_rfl) rfl rfl rfl (gsat_none rfl) (by kernel_rfl) (Y0_rem (k := .i64) (a := 2) (b := 2) rfl (by kernel_rfl) (by kernel_rfl) (by decide)) 29 rfl ?_
   refine DA 10 ?_
   refine XR 1 ?_
   refine XL_nil ?_
   subst hf19
   kernel_rfl
  show V _ _ _ _
  refine V_reg (mb 43 203000) [40, 32, 24] (s1 := ⟨bt 3 (.pt 24 0 :: .pt 32 0 :: .pt 40 0 :: I 1 :: I p1.2.1 :: bt 3 (.ag [Ti p1.1, Ti p1.2.1, Ti p1.2.2.1, Ti p1.2.2.2] :: I 1 :: bt 3 (.ag [Ti q2.1, Ti q2.2.1, Ti q2.2.2.1, Ti q2.2.2.2] :: I 3 :: bt 25 []))), [(40, .box [Ti f5, Ti f15, Ti f17, Ti f9, Ti f19, Ti 0, Ti 0, Ti 0, Ti 0]), (32, .box [Ti 0, Ti 0, Ti 0, Ti 0, Ti 0, Ti 0, Ti 0, Ti 0, Ti 0]), (24, .box [Ti q2.1, Ti q2.2.1, Ti q2.2.2.1, Ti q2.2.2.2])]⟩) ?_ ?_
  ·exact XE
  show VR _ _ _ _ _
  refine VR_s (n := 36) ?_
  refine V_keep (mb 43 203000) [40, 32, 24] (s' := ⟨bt 3 (.pt 24 0 :: .pt 32 0 :: .pt 40 0 :: I 1 :: I p1.2.1 :: bt 3 (.ag [Ti p1.1, Ti p1.2.1, Ti p1.2.2.1, Ti p1.2.2.2] :: I 1 :: bt 3 (.ag [Ti q2.1, Ti q2.2.1, Ti q2.2.2.1, Ti q2.2.2.2] :: I 3 :: bt 25 []))), [(40, .box [Ti f5, Ti f15, Ti f17, Ti f9, Ti f19, Ti 0, Ti 0, Ti 0, Ti 0]), (32, .box [Ti 0, Ti 0, Ti 0, Ti 0, Ti 0, Ti 0, Ti 0, Ti 0, Ti 0]), (24, .box [Ti q2.1, Ti q2.2.1, Ti q2.2.2.1, Ti q2.2.2.2])]⟩) (by kernel_rfl) ?_
  refine V_e (mb 43 465144) [40, 32, 24] (s1 := ⟨bt 3 (.pt 24 0 :: .pt 32 0 :: .pt 40 0 :: I 1 :: I p1.2.1 :: bt 3 (.ag [Ti p1.1, Ti p1.2.1, Ti p1.2.2.1, Ti p1.2.2.2] :: I 1 :: bt 3 (.ag [Ti q2.1, Ti q2.2.1, Ti q2.2.2.1, Ti q2.2.2.2] :: I 3 :: Bo true :: bt 24 []))), [(40, .box [Ti f5, Ti f15, Ti f17, Ti f9, Ti f19, Ti 0, Ti 0, Ti 0, Ti 0]), (32, .box [Ti 0, Ti 0, Ti 0, Ti 0, Ti 0, Ti 0, Ti 0, Ti 0, Ti 0]), (24, .box [Ti q2.1, Ti q2.2.1, Ti q2.2.2.1, Ti q2.2.2.2])]⟩) ?_
  refine V_seq ?_
  refine V_cond_true rfl ?_
  refine V_skip ?_
  show V _ _ _ _
  refine V_seq ?_
  refine V_block ?_
  refine V_sreg (mb 43 203768) [40, 32, 24] (s1 := ⟨bt 3 (.pt 24 0 :: .pt 32 0 :: .pt 40 0 :: I 1 :: I p1.2.1 :: I 3 :: I q2.2.2.2 :: .bot :: .ag [Ti p1.1, Ti p1.2.1, Ti p1.2.2.1, Ti p1.2.2.2] :: I 1 :: bt 3 (.ag [Ti q2.1, Ti q2.2.1, Ti q2.2.2.1, Ti q2.2.2.2] :: I 3 :: bt 25 [])), [(40, .box [Ti f5, Ti f15, Ti f17, Ti f9, Ti f19, Ti 0, Ti 0, Ti 0, Ti 0]), (32, .box [Ti 0, Ti 0, Ti 0, Ti 0, Ti 0, Ti 0, Ti 0, Ti 0, Ti 0]), (24, .box [Ti q2.1, Ti q2.2.1, Ti q2.2.2.1, Ti q2.2.2.2])]⟩) ?_ ?_
  ·refine XR 1 ?_
   refine L0 rfl rfl (Y0_indexA (c := fun v => [Ti v]) (xs := [q2.1, q2.2.1, q2.2.2.1, q2.2.2.2]) (v := q2.2.2.2) (k := .i64) (n := 3) Try.underlying95 sc3 sz3 rfl (by kernel_rfl) (by kernel_rfl) rfl (fun _ => rfl) rfl rfl) ?_
   exact XE
  obtain ⟨f21, hf21, h⟩ := of_sI h
  refine V_dreg [0, 1, 0, 4, 15, 0, 32, 0, 128, 480, 31, 2047, 4095, 0, 0, 24576, 65535, 31, 262143, 524287] 19 (cdm 19 [2819270816, 2819270817, 2819270666, 2819270682, 2819270741, 37180572330, 37180573354, 37180418730, 37180435114, 37180495530, 37179009365, 37179708757, 37183903061, 34941348522, 34538695338, 34740021930, 35791394133, 11453245781, 22906492245]) (mb 43 203000) [40, 32, 24] (s1 := ⟨bt 3 (.pt 24 0 :: .pt 32 0 :: .pt 40 0 :: I 1 :: I p1.2.1 :: bt 3 (.ag [Ti p1.1, Ti p1.2.1, Ti p1.2.2.1, Ti p1.2.2.2] :: I 1 :: bt 3 (.ag [Ti q2.1, Ti q2.2.1, Ti q2.2.2.1, Ti q2.2.2.2] :: I 3 :: bt 25 []))), [(40, .box [Ti f5, Ti f15, Ti f17, Ti f9, Ti f19, Ti f21, Ti 0, Ti 0, Ti 0]), (32, .box [Ti 0, Ti 0, Ti 0, Ti 0, Ti 0, Ti 0, Ti 0, Ti 0, Ti 0]), (24, .box [Ti q2.1, Ti q2.2.1, Ti q2.2.2.1, Ti q2.2.2.2])]⟩) (by kernel_rfl) (by kernel_rfl) ?_ ?_
  ·refine DR 1 ?_
   refine DE_0 1 (I 0) (by kernel_rfl) rfl rfl rfl (gsat_none rfl) (by kernel_rfl) (Y0_quo64 (a := 1) (b := 2) rfl (by kernel_rfl) (by kernel_rfl) (by decide)) 22 rfl ?_
   refine DR 1 ?_
   refine DE_0 3 (I 1) (by kernel_rfl) rfl rfl rfl (gsat_none rfl) (by kernel_rfl) (Y0_quo64 (a := 3) (b := 2) rfl (by kernel_rfl) (by kernel_rfl) (by decide)) 24 rfl ?_
   refine DR 2 ?_
   refine DE_0 6 (I 1) (by kernel_rfl) rfl rfl rfl (gsat_none rfl) (by kernel_rfl) (Y0_rem (k := .i64) (a := 1) (b := 2) rfl (by kernel_rfl) (by kernel_rfl) (by decide)) 27 rfl ?_
   refine DR 1 ?_
   refine DE_0 8 (I 1) (by kernel_rfl) rfl rfl rfl (gsat_none rfl) (by kernel_rfl) (Y0_rem (k := .i64) (a := 3) (b := 2) rfl (by kernel_rfl) (by kernel_rfl) (by decide)) 29 rfl ?_
   refine DA 10 ?_
   refine XR 1 ?_
   refine XL_nil ?_
   subst hf21
   kernel_rfl
  show V _ _ _ _
  refine V_reg (mb 43 203000) [40, 32, 24] (s1 := ⟨bt 3 (.pt 24 0 :: .pt 32 0 :: .pt 40 0 :: I 1 :: I p1.2.1 :: bt 3 (.ag [Ti p1.1, Ti p1.2.1, Ti p1.2.2.1, Ti p1.2.2.2] :: I 1 :: bt 3 (.ag [Ti q2.1, Ti q2.2.1, Ti q2.2.2.1, Ti q2.2.2.2] :: I 4 :: bt 25 []))), [(40, .box [Ti f5, Ti f15, Ti f17, Ti f9, Ti f19, Ti f21, Ti 0, Ti 0, Ti 0]), (32, .box [Ti 0, Ti 0, Ti 0, Ti 0, Ti 0, Ti 0, Ti 0, Ti 0, Ti 0]), (24, .box [Ti q2.1, Ti q2.2.1, Ti q2.2.2.1, Ti q2.2.2.2])]⟩) ?_ ?_
  ·exact XE
  show VR _ _ _ _ _
  refine VR_s (n := 35) ?_
  refine V_keep (mb 43 203000) [40, 32, 24] (s' := ⟨bt 3 (.pt 24 0 :: .pt 32 0 :: .pt 40 0 :: I 1 :: I p1.2.1 :: bt 3 (.ag [Ti p1.1, Ti p1.2.1, Ti p1.2.2.1, Ti p1.2.2.2] :: I 1 :: bt 3 (.ag [Ti q2.1, Ti q2.2.1, Ti q2.2.2.1, Ti q2.2.2.2] :: I 4 :: bt 25 []))), [(40, .box [Ti f5, Ti f15, Ti f17, Ti f9, Ti f19, Ti f21, Ti 0, Ti 0, Ti 0]), (32, .box [Ti 0, Ti 0, Ti 0, Ti 0, Ti 0, Ti 0, Ti 0, Ti 0, Ti 0]), (24, .box [Ti q2.1, Ti q2.2.1, Ti q2.2.2.1, Ti q2.2.2.2])]⟩) (by kernel_rfl) ?_
  refine V_e (mb 43 465144) [40, 32, 24] (s1 := ⟨bt 3 (.pt 24 0 :: .pt 32 0 :: .pt 40 0 :: I 1 :: I p1.2.1 :: bt 3 (.ag [Ti p1.1, Ti p1.2.1, Ti p1.2.2.1, Ti p1.2.2.2] :: I 1 :: bt 3 (.ag [Ti q2.1, Ti q2.2.1, Ti q2.2.2.1, Ti q2.2.2.2] :: I 4 :: Bo false :: bt 24 []))), [(40, .box [Ti f5, Ti f15, Ti f17, Ti f9, Ti f19, Ti f21, Ti 0, Ti 0, Ti 0]), (32, .box [Ti 0, Ti 0, Ti 0, Ti 0, Ti 0, Ti 0, Ti 0, Ti 0, Ti 0]), (24, .box [Ti q2.1, Ti q2.2.1, Ti q2.2.2.1, Ti q2.2.2.2])]⟩) ?_
  refine V_seq ?_
  refine V_cond_false rfl ?_
  refine V_exit ?_
  show V _ _ _ _
  refine V_reg (mb 43 6200) [40, 32, 24] (s1 := ⟨bt 3 (.pt 24 0 :: .pt 32 0 :: .pt 40 0 :: bt 5 (.ag [Ti p1.1, Ti p1.2.1, Ti p1.2.2.1, Ti p1.2.2.2] :: I 2 :: bt 30 [])), [(40, .box [Ti f5, Ti f15, Ti f17, Ti f9, Ti f19, Ti f21, Ti 0, Ti 0, Ti 0]), (32, .box [Ti 0, Ti 0, Ti 0, Ti 0, Ti 0, Ti 0, Ti 0, Ti 0, Ti 0]), (24, .box [Ti q2.1, Ti q2.2.1, Ti q2.2.2.1, Ti q2.2.2.2])]⟩) ?_ ?_
  ·exact XE
  show VR _ _ _ _ _
  refine VR_s (n := 37) ?_
  refine V_keep (mb 43 6200) [40, 32, 24] (s' := ⟨bt 3 (.pt 24 0 :: .pt 32 0 :: .pt 40 0 :: bt 5 (.ag [Ti p1.1, Ti p1.2.1, Ti p1.2.2.1, Ti p1.2.2.2] :: I 2 :: bt 30 [])), [(40, .box [Ti f5, Ti f15, Ti f17, Ti f9, Ti f19, Ti f21, Ti 0, Ti 0, Ti 0]), (32, .box [Ti 0, Ti 0, Ti 0, Ti 0, Ti 0, Ti 0, Ti 0, Ti 0, Ti 0]), (24, .box [Ti q2.1, Ti q2.2.1, Ti q2.2.2.1, Ti q2.2.2.2])]⟩) (by kernel_rfl) ?_
  refine V_e (mb 43 14392) [40, 32, 24] (s1 := ⟨bt 3 (.pt 24 0 :: .pt 32 0 :: .pt 40 0 :: bt 5 (.ag [Ti p1.1, Ti p1.2.1, Ti p1.2.2.1, Ti p1.2.2.2] :: I 2 :: Bo true :: bt 29 [])), [(40, .box [Ti f5, Ti f15, Ti f17, Ti f9, Ti f19, Ti f21, Ti 0, Ti 0, Ti 0]), (32, .box [Ti 0, Ti 0, Ti 0, Ti 0, Ti 0, Ti 0, Ti 0, Ti 0, Ti 0]), (24, .box [Ti q2.1, Ti q2.2.1, Ti q2.2.2.1, Ti q2.2.2.2])]⟩) ?_
  refine V_seq ?_
  refine V_cond_true rfl ?_
  refine V_skip ?_
  show V _ _ _ _
  refine V_seq ?_
  refine V_block ?_
  refine V_sreg (mb 43 6392) [40, 32, 24] (s1 := ⟨bt 3 (.pt 24 0 :: .pt 32 0 :: .pt 40 0 :: I 2 :: I p1.2.2.1 :: bt 3 (.ag [Ti p1.1, Ti p1.2.1, Ti p1.2.2.1, Ti p1.2.2.2] :: I 2 :: bt 30 [])), [(40, .box [Ti f5, Ti f15, Ti f17, Ti f9, Ti f19, Ti f21, Ti 0, Ti 0, Ti 0]), (32, .box [Ti 0, Ti 0, Ti 0, Ti 0, Ti 0, Ti 0, Ti 0, Ti 0, Ti 0]), (24, .box [Ti q2.1, Ti q2.2.1, Ti q2.2.2.1, Ti q2.2.2.2])]⟩) ?_ ?_
  ·refine XR 1 ?_
   refine L0 rfl rfl (Y0_indexA (c := fun v => [Ti v]) (xs := [p1.1, p1.2.1, p1.2.2.1, p1.2.2.2]) (v := p1.2.2.1) (k := .i64) (n := 2) Try.underlying95 sc3 sz3 rfl (by kernel_rfl) (by kernel_rfl) rfl (fun _ => rfl) rfl rfl) ?_
   exact XE
  refine V_e (mb 43 203000) [40, 32, 24] (s1 := ⟨bt 3 (.pt 24 0 :: .pt 32 0 :: .pt 40 0 :: I 2 :: I p1.2.2.1 :: bt 3 (.ag [Ti p1.1, Ti p1.2.1, Ti p1.2.2.1, Ti p1.2.2.2] :: I 2 :: bt 3 (.ag [Ti q2.1, Ti q2.2.1, Ti q2.2.2.1, Ti q2.2.2.2] :: I 0 :: bt 25 []))), [(40, .box [Ti f5, Ti f15, Ti f17, Ti f9, Ti f19, Ti f21, Ti 0, Ti 0, Ti 0]), (32, .box [Ti 0, Ti 0, Ti 0, Ti 0, Ti 0, Ti 0, Ti 0, Ti 0, Ti 0]), (24, .box [Ti q2.1, Ti q2.2.1, Ti q2.2.2.1, Ti q2.2.2.2])]⟩) ?_
  refine V_block (V_unroll 40 ?_)
  refine VR_s (n := 39) ?_
  refine V_keep (mb 43 203000) [40, 32, 24] (s' := ⟨bt 3 (.pt 24 0 :: .pt 32 0 :: .pt 40 0 :: I 2 :: I p1.2.2.1 :: bt 3 (.ag [Ti p1.1, Ti p1.2.1, Ti p1.2.2.1, Ti p1.2.2.2] :: I 2 :: bt 3 (.ag [Ti q2.1, Ti q2.2.1, Ti q2.2.2.1, Ti q2.2.2.2] :: I 0 :: bt 25 []))), [(40, .box [Ti f5, Ti f15, Ti f17, Ti f9, Ti f19, Ti f21, Ti 0, Ti 0, Ti 0]), (32, .box [Ti 0, Ti 0, Ti 0, Ti 0, Ti 0, Ti 0, Ti 0, Ti 0, Ti 0]), (24, .box [Ti q2.1, Ti q2.2.1, Ti q2.2.2.1, Ti q2.2.2.2])]⟩) (by kernel_rfl) ?_
  refine V_e (mb 43 465144) [40, 32, 24] (s1 := ⟨bt 3 (.pt 24 0 :: .pt 32 0 :: .pt 40 0 :: I 2 :: I p1.2.2.1 :: bt 3 (.ag [Ti p1.1, Ti p1.2.1, Ti p1.2.2.1, Ti p1.2.2.2] :: I 2 :: bt 3 (.ag [Ti q2.1, Ti q2.2.1, Ti q2.2.2.1, Ti q2.2.2.2] :: I 0 :: Bo true :: bt 24 []))), [(40, .box [Ti f5, Ti f15, Ti f17, Ti f9, Ti f19, Ti f21, Ti 0, Ti 0, Ti 0]), (32, .box [Ti 0, Ti 0, Ti 0, Ti 0, Ti 0, Ti 0, Ti 0, Ti 0, Ti 0]), (24, .box [Ti q2.1, Ti q2.2.1, Ti q2.2.2.1, Ti q2.2.2.2])]⟩) ?_
  refine V_seq ?_
  refine V_cond_true rfl ?_
  refine V_skip ?_
  show V _ _ _ _
  refine V_seq ?_
  refine V_block ?_
  refine V_sreg (mb 43 203768) [40, 32, 24] (s1 := ⟨bt 3 (.pt 24 0 :: .pt 32 0 :: .pt 40 0 :: I 2 :: I p1.2.2.1 :: I 0 :: I q2.1 :: .bot :: .ag [Ti p1.1, Ti p1.2.1, Ti p1.2.2.1, Ti p1.2.2.2] :: I 2 :: bt 3 (.ag [Ti q2.1, Ti q2.2.1, Ti q2.2.2.1, Ti q2.2.2.2] :: I 0 :: bt 25 [])), [(40, .box [Ti f5, Ti f15, Ti f17, Ti f9, Ti f19, Ti f21, Ti 0, Ti 0, Ti 0]), (32, .box [Ti 0, Ti 0, Ti 0, Ti 0, Ti 0, Ti 0, Ti 0, Ti 0, Ti 0]), (24, .box [Ti q2.1, Ti q2.2.1, Ti q2.2.2.1, Ti q2.2.2.2])]⟩) ?_ ?_
  ·refine XR 1 ?_
   refine L0 rfl rfl (Y0_indexA (c := fun v => [Ti v]) (xs := [q2.1, q2.2.1, q2.2.2.1, q2.2.2.2]) (v := q2.1) (k := .i64) (n := 0) Try.underlying95 sc3 sz3 rfl (by kernel_rfl) (by kernel_rfl) rfl (fun _ => rfl) rfl rfl) ?_
   exact XE
  obtain ⟨f25, hf25, h⟩ := of_sI h
  refine V_dreg [0, 1, 0, 4, 15, 0, 32, 0, 128, 480, 31, 2047, 4095, 0, 0, 24576, 65535, 31, 262143, 524287] 19 (cdm 19 [2819270816, 2819270817, 2819270666, 2819270682, 2819270741, 37180572330, 37180573354, 37180418730, 37180435114, 37180495530, 37179009365, 37179708757, 37183903061, 34941348522, 34538695338, 34740021930, 35791394133, 11453245781, 22906492245]) (mb 43 203000) [40, 32, 24] (s1 := ⟨bt 3 (.pt 24 0 :: .pt 32 0 :: .pt 40 0 :: I 2 :: I p1.2.2.1 :: bt 3 (.ag [Ti p1.1, Ti p1.2.1, Ti p1.2.2.1, Ti p1.2.2.2] :: I 2 :: bt 3 (.ag [Ti q2.1, Ti q2.2.1, Ti q2.2.2.1, Ti q2.2.2.2] :: I 0 :: bt 25 []))), [(40, .box [Ti f5, Ti f15, Ti f17, Ti f25, Ti f19, Ti f21, Ti 0, Ti 0, Ti 0]), (32, .box [Ti 0, Ti 0, Ti 0, Ti 0, Ti 0, Ti 0, Ti 0, Ti 0, Ti 0]), (24, .box [Ti q2.1, Ti q2.2.1, Ti q2.2.2.1, Ti q2.2.2.2])]⟩) (by kernel_rfl) (by kernel_rfl) ?_ ?_
  ·refine DR 1 ?_
   refine DE_0 1 (I 1) (by kernel_rfl) rfl rfl rfl (gsat_none rfl) (by kernel_rfl) (Y0_quo64 (a := 2) (b := 2) rfl (by kernel_rfl) (by kernel_rfl) (by decide)) 22 rfl ?_
   refine DR 1 ?_
   refine DE_0 3 (I 0) (by kernel_rfl) rfl rfl rfl (gsat_none rfl) (by kernel_rfl) (Y0_quo64 (a := 0) (b := 2) rfl (by kernel_rfl) (by kernel_rfl) (by decide)) 24 rfl ?_
   refine DR 2 ?_
   refine DE_0 6 (I 0) (by kernel_rfl) rfl rfl rfl (gsat_none rfl) (by kernel_rfl) (Y0_rem (k := .i64) (a := 2) (b := 2) rfl (by kernel_rfl) (by kernel_rfl) (by decide)) 27 rfl ?_
   refine DR 1 ?_
   refine DE_0 8 (I 0) (by kernel_rfl) rfl rfl rfl (gsat_none rfl) (by kernel_rfl) (Y0_rem (k := .i64) (a := 0) (b := 2) rfl (by kernel_rfl) (by kernel_rfl) (by decide)) 29 rfl ?_
   refine DA 10 ?_
   refine XR 1 ?_
   refine XL_nil ?_
   subst hf25
   kernel_rfl
  show V _ _ _ _
  refine V_reg (mb 43 203000) [40, 32, 24] (s1 := ⟨bt 3 (.pt 24 0 :: .pt 32 0 :: .pt 40 0 :: I 2 :: I p1.2.2.1 :: bt 3 (.ag [Ti p1.1, Ti p1.2.1, Ti p1.2.2.1, Ti p1.2.2.2] :: I 2 :: bt 3 (.ag [Ti q2.1, Ti q2.2.1, Ti q2.2.2.1, Ti q2.2.2.2] :: I 1 :: bt 25 []))), [(40, .box [Ti f5, Ti f15, Ti f17, Ti f25, Ti f19, Ti f21, Ti 0, Ti 0, Ti 0]), (32, .box [Ti 0, Ti 0, Ti 0, Ti 0, Ti 0, Ti 0, Ti 0, Ti 0, Ti 0]), (24, .box [Ti q2.1, Ti q2.2.1, Ti q2.2.2.1, Ti q2.2.2.2])]⟩) ?_ ?_
  ·exact XE
  show VR _ _ _ _ _
  refine VR_s (n := 38) ?_
  refine V_keep (mb 43 203000) [40, 32, 24] (s' := ⟨bt 3 (.pt 24 0 :: .pt 32 0 :: .pt 40 0 :: I 2 :: I p1.2.2.1 :: bt 3 (.ag [Ti p1.1, Ti p1.2.1, Ti p1.2.2.1, Ti p1.2.2.2] :: I 2 :: bt 3 (.ag [Ti q2.1, Ti q2.2.1, Ti q2.2.2.1, Ti q2.2.2.2] :: I 1 :: bt 25 []))), [(40, .box [Ti f5, Ti f15, Ti f17, Ti f25, Ti f19, Ti f21, Ti 0, Ti 0, Ti 0]), (32, .box [Ti 0, Ti 0, Ti 0, Ti 0, Ti 0, Ti 0, Ti 0, Ti 0, Ti 0]), (24, .box [Ti q2.1, Ti q2.2.1, Ti q2.2.2.1, Ti q2.2.2.2])]⟩) (by kernel_rfl) ?_
  refine V_e (mb 43 465144) [40, 32, 24] (s1 := ⟨bt 3 (.pt 24 0 :: .pt 32 0 :: .pt 40 0 :: I 2 :: I p1.2.2.1 :: bt 3 (.ag [Ti p1.1, Ti p1.2.1, Ti p1.2.2.1, Ti p1.2.2.2] :: I 2 :: bt 3 (.ag [Ti q2.1, Ti q2.2.1, Ti q2.2.2.1, Ti q2.2.2.2] :: I 1 :: Bo true :: bt 24 []))), [(40, .box [Ti f5, Ti f15, Ti f17, Ti f25, Ti f19, Ti f21, Ti 0, Ti 0, Ti 0]), (32, .box [Ti 0, Ti 0, Ti 0, Ti 0, Ti 0, Ti 0, Ti 0, Ti 0, Ti 0]), (24, .box [Ti q2.1, Ti q2.2.1, Ti q2.2.2.1, Ti q2.2.2.2])]⟩) ?_
  refine V_seq ?_
  refine V_cond_true rfl ?_
  refine V_skip ?_
  show V _ _ _ _
  refine V_seq ?_
  refine V_block ?_
  refine V_sreg (mb 43 203768) [40, 32, 24] (s1 := ⟨bt 3 (.pt 24 0 :: .pt 32 0 :: .pt 40 0 :: I 2 :: I p1.2.2.1 :: I 1 :: I q2.2.1 :: .bot :: .ag [Ti p1.1, Ti p1.2.1, Ti p1.2.2.1, Ti p1.2.2.2] :: I 2 :: bt 3 (.ag [Ti q2.1, Ti q2.2.1, Ti q2.2.2.1, Ti q2.2.2.2] :: I 1 :: bt 25 [])), [(40, .box [Ti f5, Ti f15, Ti f17, Ti f25, Ti f19, Ti f21, Ti 0, Ti 0, Ti 0]), (32, .box [Ti 0, Ti 0, Ti 0, Ti 0, Ti 0, Ti 0, Ti 0, Ti 0, Ti 0]), (24, .box [Ti q2.1, Ti q2.2.1, Ti q2.2.2.1, Ti q2.2.2.2])]⟩) ?_ ?_
  ·refine XR 1 ?_
   refine L0 rfl rfl (Y0_indexA (c := fun v => [Ti v]) (xs := [q2.1, q2.2.1, q2.2.2.1, q2.2.2.2]) (v := q2.2.1) (k := .i64) (n := 1) Try.underlying95 sc3 sz3 rfl (by kernel_rfl) (by kernel_rfl) rfl (fun _ => rfl) rfl rfl) ?_
   exact XE
  obtain ⟨f27, hf27, h⟩ := of_sI h
  refine V_dreg [0, 1, 0, 4, 15, 0, 32, 0, 128, 480, 31, 2047, 4095, 0, 0, 24576, 65535, 31, 262143, 524287] 19 (cdm 19 [2819270816, 2819270817, 2819270666, 2819270682, 2819270741, 37180572330, 37180573354, 37180418730, 37180435114, 37180495530, 37179009365, 37179708757, 37183903061, 34941348522, 34538695338, 34740021930, 35791394133, 11453245781, 22906492245]) (mb 43 203000) [40, 32, 24] (s1 := ⟨bt 3 (.pt 24 0 :: .pt 32 0 :: .pt 40 0 :: I 2 :: I p1.2.2.1 :: bt 3 (.ag [Ti p1.1, Ti p1.2.1, Ti p1.2.2.1, Ti p1.2.2.2] :: I 2 :: bt 3 (.ag [Ti q2.1, Ti q2.2.1, Ti q2.2.2.1, Ti q2.2.2.2] :: I 1 :: bt 25 []))), [(40, .box [Ti f5, Ti f15, Ti f17, Ti f25, Ti f27, Ti f21, Ti 0, Ti 0, Ti 0]), (32, .box [Ti 0, Ti 0, Ti 0, Ti 0, Ti 0, Ti 0, Ti 0, Ti 0, Ti 0]), (24, .box [Ti q2.1, Ti q2.2.1, Ti q2.2.2.1, Ti q2.2.2.2])]⟩) (by kernel_rfl) (by kernel_rfl) ?_ ?_
  ·refine DR 1 ?_
   refine DE_0 1 (I 1) (by kernel_rfl) rfl rfl rfl (gsat_none rfl) (by kernel_rfl) (Y0_quo64 (a := 2) (b := 2) rfl (by kernel_rfl) (by kernel_rfl) (by decide)) 22 rfl ?_
   refine DR 1 ?_
   refine DE_0 3 (I 0) (by kernel_rfl) rfl rfl rfl (gsat_none rfl) (by kernel_rfl) (Y0_quo64 (a := 1) (b := 2) rfl (by kernel_rfl) (by kernel_rfl) (by decide)) 24 rfl ?_
   refine DR 2 ?_
   refine DE_0 6 (I 0) (by kernel_rfl) rfl rfl rfl (gsat_none rfl) (by kernel_rfl) (Y0_rem (k := .i64) (a := 2) (b := 2) rfl (by kernel_rfl) (by kernel_rfl) (by decide)) 27 rfl ?_
   refine DR 1 ?_
   refine DE_0 8 (I 1) (by kernel_rfl) rfl rfl rfl (gsat_none rfl) (by kernel_rfl) (Y0_rem (k := .i64) (a := 1) (b := 2) rfl (by kernel_rfl) (by kernel_rfl) (by decide)) 29 rfl ?_
   refine DA 10 ?_
   refine XR 1 ?_
   refine XL_nil ?_
   subst hf27
   kernel_rfl
  show V _ _ _ _
  refine V_reg (mb 43 203000) [40, 32, 24] (s1 := ⟨bt 3 (.pt 24 0 :: .pt 32 0 :: .pt 40 0 :: I 2 :: I p1.2.2.1 :: bt 3 (.ag [Ti p1.1, Ti p1.2.1, Ti p1.2.2.1, Ti p1.2.2.2] :: I 2 :: bt 3 (.ag [Ti q2.1, Ti q2.2.1, Ti q2.2.2.1, Ti q2.2.2.2] :: I 2 :: bt 25 []))), [(40, .box [Ti f5, Ti f15, Ti f17, Ti f25, Ti f27, Ti f21, Ti 0, Ti 0, Ti 0]), (32, .box [Ti 0, Ti 0, Ti 0, Ti 0, Ti 0, Ti 0, Ti 0, Ti 0, Ti 0]), (24, .box [Ti q2.1, Ti q2.2.1, Ti q2.2.2.1, Ti q2.2.2.2])]⟩) ?_ ?_
  ·exact XE
  show VR _ _ _ _ _
  refine VR_s (n := 37) ?_
  refine V_keep (mb 43 203000) [40, 32, 24] (s' := ⟨bt 3 (.pt 24 0 :: .pt 32 0 :: .pt 40 0 :: I 2 :: I p1.2.2.1 :: bt 3 (.ag [Ti p1.1, Ti p1.2.1, Ti p1.2.2.1, Ti p1.2.2.2] :: I 2 :: bt 3 (.ag [Ti q2.1, Ti q2.2.1, Ti q2.2.2.1, Ti q2.2.2.2] :: I 2 :: bt 25 []))), [(40, .box [Ti f5, Ti f15, Ti f17, Ti f25, Ti f27, Ti f21, Ti 0, Ti 0, Ti 0]), (32, .box [Ti 0, Ti 0, Ti 0, Ti 0, Ti 0, Ti 0, Ti 0, Ti 0, Ti 0]), (24, .box [Ti q2.1, Ti q2.2.1, Ti q2.2.2.1, Ti q2.2.2.2])]⟩) (by kernel_rfl) ?_
  refine V_e (mb 43 465144) [40, 32, 24] (s1 := ⟨bt 3 (.pt 24 0 :: .pt 32 0 :: .pt 40 0 :: I 2 :: I p1.2.2.1 :: bt 3 (.ag [Ti p1.1, Ti p1.2.1, Ti p1.2.2.1, Ti p1.2.2.2] :: I 2 :: bt 3 (.ag [Ti q2.1, Ti q2.2.1, Ti q2.2.2.1, Ti q2.2.2.2] :: I 2 :: Bo true :: bt 24 []))), [(40, .box [Ti f5, Ti f15, Ti f17, Ti f25, Ti f27, Ti f21, Ti 0, Ti 0, Ti 0]), (32, .box [Ti 0, Ti 0, Ti 0, Ti 0, Ti 0, Ti 0, Ti 0, Ti 0, Ti 0]), (24, .box [Ti q2.1, Ti q2.2.1, Ti q2.2.2.1, Ti q2.2.2.2])]⟩) ?_
  refine V_seq ?_
  refine V_cond_true rfl ?_
  refine V_skip ?_
  show V _ _ _ _
  refine V_seq ?_
  refine V_block ?_
  refine V_sreg (mb 43 203768) [40, 32, 24] (s1 := ⟨bt 3 (.pt 24 0 :: .pt 32 0 :: .pt 40 0 :: I 2 :: I p1.2.2.1 :: I 2 :: I q2.2.2.1 :: .bot :: .ag [Ti p1.1, Ti p1.2.1, Ti p1.2.2.1, Ti p1.2.2.2] :: I 2 :: bt 3 (.ag [Ti q2.1, Ti q2.2.1, Ti q2.2.2.1, Ti q2.2.2.2] :: I 2 :: bt 25 [])), [(40, .box [Ti f5, Ti f15, Ti f17, Ti f25, Ti f27, Ti f21, Ti 0, Ti 0, Ti 0]), (32, .box [Ti 0, Ti 0, Ti 0, Ti 0, Ti 0, Ti 0, Ti 0, Ti 0, Ti 0]), (24, .box [Ti q2.1, Ti q2.2.1, Ti q2.2.2.1, Ti q2.2.2.2])]⟩) ?_ ?_
  ·refine XR 1 ?_
   refine L0 rfl rfl (Y0_indexA (c := fun v => [Ti v]) (xs := [q2.1, q2.2.1, q2.2.2.1, q2.2.2.2]) (v := q2.2.2.1) (k := .i64) (n := 2) Try.underlying95 sc3 sz3 rfl (by kernel_rfl) (by kernel_rfl) rfl (fun _ => rfl) rfl rfl) ?_
   exact XE
  obtain ⟨f29, hf29, h⟩ := of_sI h
  refine V_dreg [0, 1, 0, 4, 15, 0, 32, 0, 128, 480, 31, 2047, 4095, 0, 0, 24576, 65535, 31, 262143, 524287] 19 (cdm 19 [2819270816, 2819270817, 2819270666, 2819270682, 2819270741, 37180572330, 37180573354, 37180418730, 37180435114, 37180495530, 37179009365, 37179708757, 37183903061, 34941348522, 34538695338, 34740021930, 35791394133, 11453245781, 22906492245]) (mb 43 203000) [40, 32, 24] (s1 := ⟨bt 3 (.pt 24 0 :: .pt 32 0 :: .pt 40 0 :: I 2 :: I p1.2.2.1 :: bt 3 (.ag [Ti p1.1, Ti p1.2.1, Ti p1.2.2.1, Ti p1.2.2.2] :: I 2 :: bt 3 (.ag [Ti q2.1, Ti q2.2.1, Ti q2.2.2.1, Ti q2.2.2.2] :: I 2 :: bt 25 []))), [(40, .box [Ti f5, Ti f15, Ti f17, Ti f25, Ti f27, Ti f21, Ti f29, Ti 0, Ti 0]), (32, .box [Ti 0, Ti 0, Ti 0, Ti 0, Ti 0, Ti 0, Ti 0, Ti 0, Ti 0]), (24, .box [Ti q2.1, Ti q2.2.1, Ti q2.2.2.1, Ti q2.2.2.2])]⟩) (by kernel_rfl) (by kernel_rfl) ?_ ?_
  ·refine DR 1 ?_
   refine DE_0 1 (I 1) (by kernel_rfl) rfl rfl rfl (gsat_none rfl) (by kernel_rfl) (Y0_quo64 (a := 2) (b := 2) rfl (by kernel_rfl) (by kernel_rfl) (by decide)) 22 rfl ?_
   refine DR 1 ?_
   refine DE_0 3 (I 1) (by kernel_rfl) rfl rfl rfl (gsat_none rfl) (by kernel_rfl) (Y0_quo64 (a := 2) (b := 2) rfl (by kernel_rfl) (by kernel_rfl) (by decide)) 24 rfl ?_
   refine DR 2 ?_
   refine DE_0 6 (I 0) (by kernel_rfl) rfl rfl rfl (gsat_none rfl) (by kernel_rfl) (Y0_rem (k := .i64) (a := 2) (b := 2) rfl (by kernel_rfl) (by kernel_rfl) (by decide)) 27 rfl ?_
   refine DR 1 ?_
   refine DE_0 8 (I 0) (by kernel_rfl) rfl rfl rfl (gsat_none rfl) (by kernel_rfl) (Y0_rem (k := .i64) (a := 2) (b := 2) rfl (by kernel_rfl) (by kernel_rfl) (by decide)) 29 rfl ?_
   refine DA 10 ?_
   refine XR 1 ?_
   refine XL_nil ?_
   subst hf29
   kernel_rfl
  show V _ _ _ _
  refine V_reg (mb 43 203000) [40, 32, 24] (s1 := ⟨bt 3 (.pt 24 0 :: .pt 32 0 :: .pt 40 0 :: I 2 :: I p1.2.2.1 :: bt 3 (.ag [Ti p1.1, Ti p1.2.1, Ti p1.2.2.1, Ti p1.2.2.2] :: I 2 :: bt 3 (.ag [Ti q2.1, Ti q2.2.1, Ti q2.2.2.1, Ti q2.2.2.2] :: I 3 :: bt 25 []))), [(40, .box [Ti f5, Ti f15, Ti f17, Ti f25, Ti f27, Ti f21, Ti f29, Ti 0, Ti 0]), (32, .box [Ti 0, Ti 0, Ti 0, Ti 0, Ti 0, Ti 0, Ti 0, Ti 0, Ti 0]), (24, .box [Ti q2.1, Ti q2.2.1, Ti q2.2.2.1, Ti q2.2.2.2])]⟩) ?_ ?_
  ·exact XE
  show VR _ _ _ _ _
  refine VR_s (n := 36) ?_
  refine V_keep (mb 43 203000) [40, 32, 24] (s' := ⟨bt 3 (.pt 24 0 :: .pt 32 0 :: .pt 40 0 :: I 2 :: I p1.2.2.1 :: bt 3 (.ag [Ti p1.1, Ti p1.2.1, Ti p1.2.2.1, Ti p1.2.2.2] :: I 2 :: bt 3 (.ag [Ti q2.1, Ti q2.2.1, Ti q2.2.2.1, Ti q2.2.2.2] :: I 3 :: bt 25 []))), [(40, .box [Ti f5, Ti f15, Ti f17, Ti f25, Ti f27, Ti f21, Ti f29, Ti 0, Ti 0]), (32, .box [Ti 0, Ti 0, Ti 0, Ti 0, Ti 0, Ti 0, Ti 0, Ti 0, Ti 0]), (24, .box [Ti q2.1, Ti q2.2.1, Ti q2.2.2.1, Ti q2.2.2.2])]⟩) (by kernel_rfl) ?_
  refine V_e (mb 43 465144) [40, 32, 24] (s1 := ⟨bt 3 (.pt 24 0 :: .pt 32 0 :: .pt 40 0 :: I 2 :: I p1.2.2.1 :: bt 3 (.ag [Ti p1.1, Ti p1.2.1, Ti p1.2.2.1, Ti p1.2.2.2] :: I 2 :: bt 3 (.ag [Ti q2.1, Ti q2.2.1, Ti q2.2.2.1, Ti q2.2.2.2] :: I 3 :: Bo true :: bt 24 []))), [(40, .box [Ti f5, Ti f15, Ti f17, Ti f25, Ti f27, Ti f21, Ti f29, Ti 0, Ti 0]), (32, .box [Ti 0, Ti 0, Ti 0, Ti 0, Ti 0, Ti 0, Ti 0, Ti 0, Ti 0]), (24, .box [Ti q2.1, Ti q2.2.1, Ti q2.2.2.1, Ti q2.2.2.2])]⟩) ?_
  refine V_seq ?_
  refine V_cond_true rfl ?_
  refine V_skip ?_
  show V _ _ _ _
  refine V_seq ?_
  refine V_block ?_
  refine V_sreg (mb 43 203768) [40, 32, 24] (s1 := ⟨bt 3 (.pt 24 0 :: .pt 32 0 :: .pt 40 0 :: I 2 :: I p1.2.2.1 :: I 3 :: I q2.2.2.2 :: .bot :: .ag [Ti p1.1, Ti p1.2.1, Ti p1.2.2.1, Ti p1.2.2.2] :: I 2 :: bt 3 (.ag [Ti q2.1, Ti q2.2.1, Ti q2.2.2.1, Ti q2.2.2.2] :: I 3 :: bt 25 [])), [(40, .box [Ti f5, Ti f15, Ti f17, Ti f25, Ti f27, Ti f21, Ti f29, Ti 0, Ti 0]), (32, .box [Ti 0, Ti 0, Ti 0, Ti 0, Ti 0, Ti 0, Ti 0, Ti 0, Ti 0]), (24, .box [Ti q2.1, Ti q2.2.1, Ti q2.2.2.1, Ti q2.2.2.2])]⟩) ?_ ?_
  ·refine XR 1 ?_
   refine L0 rfl rfl (Y0_indexA (c := fun v => [Ti v]) (xs := [q2.1, q2.2.1, q2.2.2.1, q2.2.2.2]) (v := q2.2.2.2) (k := .i64) (n := 3) Try.underlying95 sc3 sz3 rfl (by kernel_rfl) (by kernel_rfl) rfl (fun _ => rfl) rfl rfl) ?_
   exact XE
  obtain ⟨f31, hf31, h⟩ := of_sI h
  refine V_dreg [0, 1, 0, 4, 15, 0, 32, 0, 128, 480, 31, 2047, 4095, 0, 0, 24576, 65535, 31, 262143, 524287] 19 (cdm 19 [2819270816, 2819270817, 2819270666, 2819270682, 2819270741, 37180572330, 37180573354, 37180418730, 37180435114, 37180495530, 37179009365, 37179708757, 37183903061, 34941348522, 34538695338, 34740021930, 35791394133, 11453245781, 22906492245]) (mb 43 203000) [40, 32, 24] (s1 := ⟨bt 3 (.pt 24 0 :: .pt 32 0 :: .pt 40 0 :: I 2 :: I p1.2.2.1 :: bt 3 (.ag [Ti p1.1, Ti p1.2.1, Ti p1.2.2.1, Ti p1.2.2.2] :: I 2 :: bt 3 (.ag [Ti q2.1, Ti q2.2.1, Ti q2.2.2.1, Ti q2.2.2.2] :: I 3 :: bt 25 []))), [(40, .box [Ti f5, Ti f15, Ti f17, Ti f25, Ti f27, Ti f21, Ti f29, Ti f31, Ti 0]), (32, .box [Ti 0, Ti 0, Ti 0, Ti 0, Ti 0, Ti 0, Ti 0, Ti 0, Ti 0]), (24, .box [Ti q2.1, Ti q2.2.1, Ti q2.2.2.1, Ti q2.2.2.2])]⟩) (by kernel_rfl) (by kernel_rfl) ?_ ?_
  ·refine DR 1 ?_
   refine DE_0 1 (I 1) (by kernel_rfl) rfl rfl rfl (gsat_none rfl) (by kernel_rfl) (Y0_quo64 (a := 2) (b := 2) rfl (by kernel_rfl) (by kernel_rfl) (by decide)) 22 rfl ?_
   refine DR 1 ?_
   refine DE_0 3 (I 1) (by kernel_rfl) rfl rfl rfl (gsat_none rfl) (by kernel_rfl) (Y0_quo64 (a := 3) (b := 2) rfl (by kernel_rfl) (by kernel_rfl) (by decide)) 24 rfl ?_
   refine DR 2 ?_
   refine DE_0 6 (I 0) (by kernel_rfl) rfl rfl rfl (gsat_none rfl) (by kernel_rfl) (Y0_rem (k := .i64) (a := 2) (b := 2) rfl (by kernel_rfl) (by kernel_rfl) (by decide)) 27 rfl ?_
   refine DR 1 ?_
   refine DE_0 8 (I 1) (by kernel_rfl) rfl rfl rfl (gsat_none rfl) (by kernel_rfl) (Y0_rem (k := .i64) (a := 3) (b := 2) rfl (by kernel_rfl) (by kernel_rfl) (by decide)) 29 rfl ?_
   refine DA 10 ?_
   refine XR 1 ?_
   refine XL_nil ?_
   subst hf31
   kernel_rfl
  show V _ _ _ _
  refine V_reg (mb 43 203000) [40, 32, 24] (s1 := ⟨bt 3 (.pt 24 0 :: .pt 32 0 :: .pt 40 0 :: I 2 :: I p1.2.2.1 :: bt 3 (.ag [Ti p1.1, Ti p1.2.1, Ti p1.2.2.1, Ti p1.2.2.2] :: I 2 :: bt 3 (.ag [Ti q2.1, Ti q2.2.1, Ti q2.2.2.1, Ti q2.2.2.2] :: I 4 :: bt 25 []))), [(40, .box [Ti f5, Ti f15, Ti f17, Ti f25, Ti f27, Ti f21, Ti f29, Ti f31, Ti 0]), (32, .box [Ti 0, Ti 0, Ti 0, Ti 0, Ti 0, Ti 0, Ti 0, Ti 0, Ti 0]), (24, .box [Ti q2.1, Ti q2.2.1, Ti q2.2.2.1, Ti q2.2.2.2])]⟩) ?_ ?_
  ·exact XE
  show VR _ _ _ _ _
  refine VR_s (n := 35) ?_
  refine V_keep (mb 43 203000) [40, 32, 24] (s' := ⟨bt 3 (.pt 24 0 :: .pt 32 0 :: .pt 40 0 :: I 2 :: I p1.2.2.1 :: bt 3 (.ag [Ti p1.1, Ti p1.2.1, Ti p1.2.2.1, Ti p1.2.2.2] :: I 2 :: bt 3 (.ag [Ti q2.1, Ti q2.2.1, Ti q2.2.2.1, Ti q2.2.2.2] :: I 4 :: bt 25 []))), [(40, .box [Ti f5, Ti f15, Ti f17, Ti f25, Ti f27, Ti f21, Ti f29, Ti f31, Ti 0]), (32, .box [Ti 0, Ti 0, Ti 0, Ti 0, Ti 0, Ti 0, Ti 0, Ti 0, Ti 0]), (24, .box [Ti q2.1, Ti q2.2.1, Ti q2.2.2.1, Ti q2.2.2.2])]⟩) (by kernel_rfl) ?_
  refine V_e (mb 43 465144) [40, 32, 24] (s1 := ⟨bt 3 (.pt 24 0 :: .pt 32 0 :: .pt 40 0 :: I 2 :: I p1.2.2.1 :: bt 3 (.ag [Ti p1.1, Ti p1.2.1, Ti p1.2.2.1, Ti p1.2.2.2] :: I 2 :: bt 3 (.ag [Ti q2.1, Ti q2.2.1, Ti q2.2.2.1, Ti q2.2.2.2] :: I 4 :: Bo false :: bt 24 []))), [(40, .box [Ti f5, Ti f15, Ti f17, Ti f25, Ti f27, Ti f21, Ti f29, Ti f31, Ti 0]), (32, .box [Ti 0, Ti 0, Ti 0, Ti 0, Ti 0, Ti 0, Ti 0, Ti 0, Ti 0]), (24, .box [Ti q2.1, Ti q2.2.1, Ti q2.2.2.1, Ti q2.2.2.2])]⟩) ?_
  refine V_seq ?_
  refine V_cond_false rfl ?_
  refine V_exit ?_
  show V _ _ _ _
  refine V_reg (mb 43 6200) [40, 32, 24] (s1 := ⟨bt 3 (.pt 24 0 :: .pt 32 0 :: .pt 40 0 :: bt 5 (.ag [Ti p1.1, Ti p1.2.1, Ti p1.2.2.1, Ti p1.2.2.2] :: I 3 :: bt 30 [])), [(40, .box [Ti f5, Ti f15, Ti f17, Ti f25, Ti f27, Ti f21, Ti f29, Ti f31, Ti 0]), (32, .box [Ti 0, Ti 0, Ti 0, Ti 0, Ti 0, Ti 0, Ti 0, Ti 0, Ti 0]), (24, .box [Ti q2.1, Ti q2.2.1, Ti q2.2.2.1, Ti q2.2.2.2])]⟩) ?_ ?_
  ·exact XE
  show VR _ _ _ _ _
  refine VR_s (n := 36) ?_
  refine V_keep (mb 43 6200) [40, 32, 24] (s' := ⟨bt 3 (.pt 24 0 :: .pt 32 0 :: .pt 40 0 :: bt 5 (.ag [Ti p1.1, Ti p1.2.1, Ti p1.2.2.1, Ti p1.2.2.2] :: I 3 :: bt 30 [])), [(40, .box [Ti f5, Ti f15, Ti f17, Ti f25, Ti f27, Ti f21, Ti f29, Ti f31, Ti 0]), (32, .box [Ti 0, Ti 0, Ti 0, Ti 0, Ti 0, Ti 0, Ti 0, Ti 0, Ti 0]), (24, .box [Ti q2.1, Ti q2.2.1, Ti q2.2.2.1, Ti q2.2.2.2])]⟩) (by kernel_rfl) ?_
  refine V_e (mb 43 14392) [40, 32, 24] (s1 := ⟨bt 3 (.pt 24 0 :: .pt 32 0 :: .pt 40 0 :: bt 5 (.ag [Ti p1.1, Ti p1.2.1, Ti p1.2.2.1, Ti p1.2.2.2] :: I 3 :: Bo true :: bt 29 [])), [(40, .box [Ti f5, Ti f15, Ti f17, Ti f25, Ti f27, Ti f21, Ti f29, Ti f31, Ti 0]), (32, .box [Ti 0, Ti 0, Ti 0, Ti 0, Ti 0, Ti 0, Ti 0, Ti 0, Ti 0]), (24, .box [Ti q2.1, Ti q2.2.1, Ti q2.2.2.1, Ti q2.2.2.2])]⟩) ?_
  refine V_seq ?_
  refine V_cond_true rfl ?_
  refine V_skip ?_
  show V _ _ _ _
  refine V_seq ?_
  refine V_block ?_
  refine V_sreg (mb 43 6392) [40, 32, 24] (s1 := ⟨bt 3 (.pt 24 0 :: .pt 32 0 :: .pt 40 0 :: I 3 :: I p1.2.2.2 :: bt 3 (.ag [Ti p1.1, Ti p1.2.1, Ti p1.2.2.1, Ti p1.2.2.2] :: I 3 :: bt 30 [])), [(40, .box [Ti f5, Ti f15, Ti f17, Ti f25, Ti f27, Ti f21, Ti f29, Ti f31, Ti 0]), (32, .box [Ti 0, Ti 0, Ti 0, Ti 0, Ti 0, Ti 0, Ti 0, Ti 0, Ti 0]), (24, .box [Ti q2.1, Ti q2.2.1, Ti q2.2.2.1, Ti q2.2.2.2])]⟩) ?_ ?_
  ·refine XR 1 ?_
   refine L0 rfl rfl (Y0_indexA (c := fun v => [Ti v]) (xs := [p1.1, p1.2.1, p1.2.2.1, p1.2.2.2]) (v := p1.2.2.2) (k := .i64) (n := 3) Try.underlying95 sc3 sz3 rfl (by kernel_rfl) (by kernel_rfl) rfl (fun _ => rfl) rfl rfl) ?_
   exact XE
  refine V_e (mb 43 203000) [40, 32, 24] (s1 := ⟨bt 3 (.pt 24 0 :: .pt 32 0 :: .pt 40 0 :: I 3 :: I p1.2.2.2 :: bt 3 (.ag [Ti p1.1, Ti p1.2.1, Ti p1.2.2.1, Ti p1.2.2.2] :: I 3 :: bt 3 (.ag [Ti q2.1, Ti q2.2.1, Ti q2.2.2.1, Ti q2.2.2.2] :: I 0 :: bt 25 []))), [(40, .box [Ti f5, Ti f15, Ti f17, Ti f25, Ti f27, Ti f21, Ti f29, Ti f31, Ti 0]), (32, .box [Ti 0, Ti 0, Ti 0, Ti 0, Ti 0, Ti 0, Ti 0, Ti 0, Ti 0]), (24, .box [Ti q2.1, Ti q2.2.1, Ti q2.2.2.1, Ti q2.2.2.2])]⟩) ?_
  refine V_block (V_unroll 40 ?_)
  refine VR_s (n := 39) ?_
  refine V_keep (mb 43 203000) [40, 32, 24] (s' := ⟨bt 3 (.pt 24 0 :: .pt 32 0 :: .pt 40 0 :: I 3 :: I p1.2.2.2 :: bt 3 (.ag [Ti p1.1, Ti p1.2.1, Ti p1.2.2.1, Ti p1.2.2.2] :: I 3 :: bt 3 (.ag [Ti q2.1, Ti q2.2.1, Ti q2.2.2.1, Ti q2.2.2.2] :: I 0 :: bt 25 []))), [(40, .box [Ti f5, Ti f15, Ti f17, Ti f25, Ti f27, Ti f21, Ti f29, Ti f31, Ti 0]), (32, .box [Ti 0, Ti 0, Ti 0, Ti 0, Ti 0, Ti 0, Ti 0, Ti 0, Ti 0]), (24, .box [Ti q2.1, Ti q2.2.1, Ti q2.2.2.1, Ti q2.2.2.2])]⟩) (by kernel_rfl) ?_
  refine V_e (mb 43 465144) [40, 32, 24] (s1 := ⟨bt 3 (.pt 24 0 :: .pt 32 0 :: .pt 40 0 :: I 3 :: I p1.2.2.2 :: bt 3 (.ag [Ti p1.1, Ti p1.2.1, Ti p1.2.2.1, Ti p1.2.2.2] :: I 3 :: bt 3 (.ag [Ti q2.1, Ti q2.2.1, Ti q2.2.2.1, Ti q2.2.2.2] :: I 0 :: Bo true :: bt 24 []))), [(40, .box [Ti f5, Ti f15, Ti f17, Ti f25, Ti f27, Ti f21, Ti f29, Ti f31, Ti 0]), (32, .box [Ti 0, Ti 0, Ti 0, Ti 0, Ti 0, Ti 0, Ti 0, Ti 0, Ti 0]), (24, .box [Ti q2.1, Ti q2.2.1, Ti q2.2.2.1, Ti q2.2.2.2])]⟩) ?_
  refine V_seq ?_
  refine V_cond_true rfl ?_
  refine V_skip ?_
  show V _ _ _ _
  refine V_seq ?_
  refine V_block ?_
  refine V_sreg (mb 43 203768) [40, 32, 24] (s1 := ⟨bt 3 (.pt 24 0 :: .pt 32 0 :: .pt 40 0 :: I 3 :: I p1.2.2.2 :: I 0 :: I q2.1 :: .bot :: .ag [Ti p1.1, Ti p1.2.1, Ti p1.2.2.1, Ti p1.2.2.2] :: I 3 :: bt 3 (.ag [Ti q2.1, Ti q2.2.1, Ti q2.2.2.1, Ti q2.2.2.2] :: I 0 :: bt 25 [])), [(40, .box [Ti f5, Ti f15, Ti f17, Ti f25, Ti f27, Ti f21, Ti f29, Ti f31, Ti 0]), (32, .box [Ti 0, Ti 0, Ti 0, Ti 0, Ti 0, Ti 0, Ti 0, Ti 0, Ti 0]), (24, .box [Ti q2.1, Ti q2.2.1, Ti q2.2.2.1, Ti q2.2.2.2])]⟩) ?_ ?_
  ·refine XR 1 ?_
   refine L0 rfl rfl (Y0_indexA (c := fun v => [Ti v]) (xs := [q2.1, q2.2.1, q2.2.2.1, q2.2.2.2]) (v := q2.1) (k := .i64) (n := 0) Try.underlying95 sc3 sz3 rfl (by kernel_rfl) (by kernel_rfl) rfl (fun _ => rfl) rfl rfl) ?_
   exact XE
  obtain ⟨f35, hf35, h⟩ := of_sI h
  refine V_dreg [0, 1, 0, 4, 15, 0, 32, 0, 128, 480, 31, 2047, 4095, 0, 0, 24576, 65535, 31, 262143, 524287] 19 (cdm 19 [2819270816, 2819270817, 2819270666, 2819270682, 2819270741, 37180572330, 37180573354, 37180418730, 37180435114, 37180495530, 37179009365, 37179708757, 37183903061, 34941348522, 34538695338, 34740021930, 35791394133, 11453245781, 22906492245]) (mb 43 203000) [40, 32, 24] (s1 := ⟨bt 3 (.pt 24 0 :: .pt 32 0 :: .pt 40 0 :: I 3 :: I p1.2.2.2 :: bt 3 (.ag [Ti p1.1, Ti p1.2.1, Ti p1.2.2.1, Ti p1.2.2.2] :: I 3 :: bt 3 (.ag [Ti q2.1, Ti q2.2.1, Ti q2.2.2.1, Ti q2.2.2.2] :: I 0 :: bt 25 []))), [(40, .box [Ti f5, Ti f15, Ti f17, Ti f25, Ti f35, Ti f21, Ti f29, Ti f31, Ti 0]), (32, .box [Ti 0, Ti 0, Ti 0, Ti 0, Ti 0, Ti 0, Ti 0, Ti 0, Ti 0]), (24, .box [Ti q2.1, Ti q2.2.1, Ti q2.2.2.1, Ti q2.2.2.2])]⟩) (by kernel_rfl) (by kernel_rfl) ?_ ?_
  ·refine DR 1 ?_
   refine DE_0 1 (I 1) (by kernel_rfl) rfl rfl rfl (gsat_none rfl) (by kernel_rfl) (Y0_quo64 (a := 3) (b := 2) rfl (by kernel_rfl) (by kernel_rfl) (by decide)) 22 rfl ?_
   refine DR 1 ?_
   refine DE_0 3 (I 0) (by kernel_rfl) rfl rfl rfl (gsat_none rfl) (by kernel_rfl) (Y0_quo64 (a := 0) (b := 2) rfl (by kernel_rfl) (by kernel_rfl) (by decide)) 24 rfl ?_
   refine DR 2 ?_
   refine DE_0 6 (I 1) (by kernel_rfl) rfl rfl rfl (gsat_none rfl) (by kernel_rfl) (Y0_rem (k := .i64) (a := 3) (b := 2) rfl (by kernel_rfl) (by kernel_rfl) (by decide)) 27 rfl ?_
   refine DR 1 ?_
   refine DE_0 8 (I 0) (by kernel_rfl) rfl rfl rfl (gsat_none rfl) (by kernel_rfl) (Y0_rem (k := .i64) (a := 0) (b := 2) rfl (by kernel_rfl) (by kernel_rfl) (by decide)) 29 rfl ?_
   refine DA 10 ?_
   refine XR 1 ?_
   refine XL_nil ?_
   subst hf35
   kernel_rfl
  show V _ _ _ _
  refine V_reg (mb 43 203000) [40, 32, 24] (s1 := ⟨bt 3 (.pt 24 0 :: .pt 32 0 :: .pt 40 0 :: I 3 :: I p1.2.2.2 :: bt 3 (.ag [Ti p1.1, Ti p1.2.1, Ti p1.2.2.1, Ti p1.2.2.2] :: I 3 :: bt 3 (.ag [Ti q2.1, Ti q2.2.1, Ti q2.2.2.1, Ti q2.2.2.2] :: I 1 :: bt 25 []))), [(40, .box [Ti f5, Ti f15, Ti f17, Ti f25, Ti f35, Ti f21, Ti f29, Ti f31, Ti 0]), (32, .box [Ti 0, Ti 0, Ti 0, Ti 0, Ti 0, Ti 0, Ti 0, Ti 0, Ti 0]), (24, .box [Ti q2.1, Ti q2.2.1, Ti q2.2.2.1, Ti q2.2.2.2])]⟩) ?_ ?_
  ·exact XE
  show VR _ _ _ _ _
  refine VR_s (n := 38) ?_
  refine V_keep (mb 43 203000) [40, 32, 24] (s' := ⟨bt 3 (.pt 24 0 :: .pt 32 0 :: .pt 40 0 :: I 3 :: I p1.2.2.2 :: bt 3 (.ag [Ti p1.1, Ti p1.2.1, Ti p1.2.2.1, Ti p1.2.2.2] :: I 3 :: bt 3 (.ag [Ti q2.1, Ti q2.2.1, Ti q2.2.2.1, Ti q2.2.2.2] :: I 1 :: bt 25 []))), [(40, .box [Ti f5, Ti f15, Ti f17, Ti f25, Ti f35, Ti f21, Ti f29, Ti f31, Ti 0]), (32, .box [Ti 0, Ti 0, Ti 0, Ti 0, Ti 0, Ti 0, Ti 0, Ti 0, Ti 0]), (24, .box [Ti q2.1, Ti q2.2.1, Ti q2.2.2.1, Ti q2.2.2.2])]⟩) (by kernel_rfl) ?_
  refine V_e (mb 43 465144) [40, 32, 24] (s1 := ⟨bt 3 (.pt 24 0 :: .pt 32 0 :: .pt 40 0 :: I 3 :: I p1.2.2.2 :: bt 3 (.ag [Ti p1.1, Ti p1.2.1, Ti p1.2.2.1, Ti p1.2.2.2] :: I 3 :: bt 3 (.ag [Ti q2.1, Ti q2.2.1, Ti q2.2.2.1, Ti q2.2.2.2] :: I 1 :: Bo true :: bt 24 []))), [(40, .box [Ti f5, Ti f15, Ti f17, Ti f25, Ti f35, Ti f21, Ti f29, Ti f31, Ti 0]), (32, .box [Ti 0, Ti 0, Ti 0, Ti 0, Ti 0, Ti 0, Ti 0, Ti 0, Ti 0]), (24, .box [Ti q2.1, Ti q2.2.1, Ti q2.2.2.1, Ti q2.2.2.2])]⟩) ?_
  refine V_seq ?_
  refine V_cond_true rfl ?_
  refine V_skip ?_
  show V _ _ _ _
  refine V_seq ?_
  refine V_block ?_
  refine V_sreg (mb 43 203768) [40, 32, 24] (s1 := ⟨bt 3 (.pt 24 0 :: .pt 32 0 :: .pt 40 0 :: I 3 :: I p1.2.2.2 :: I 1 :: I q2.2.1 :: .bot :: .ag [Ti p1.1, Ti p1.2.1, Ti p1.2.2.1, Ti p1.2.2.2] :: I 3 :: bt 3 (.ag [Ti q2.1, Ti q2.2.1, Ti q2.2.2.1, Ti q2.2.2.2] :: I 1 :: bt 25 [])), [(40, .box [Ti f5, Ti f15, Ti f17, Ti f25, Ti f35, Ti f21, Ti f29, Ti f31, Ti 0]), (32, .box [Ti 0, Ti 0, Ti 0, Ti 0, Ti 0, Ti 0, Ti 0, Ti 0, Ti 0]), (24, .box [Ti q2.1, Ti q2.2.1, Ti q2.2.2.1, Ti q2.2.2.2])]⟩) ?_ ?_
  ·refine XR 1 ?_
   refine L0 rfl rfl (Y0_indexA (c := fun v => [Ti v]) (xs := [q2.1, q2.2.1, q2.2.2.1, q2.2.2.2]) (v := q2.2.1) (k := .i64) (n := 1) Try.underlying95 sc3 sz3 rfl (by kernel_rfl) (by kernel_rfl) rfl (fun _ => rfl) rfl rfl) ?_
   exact XE
  obtain ⟨f37, hf37, h⟩ := of_sI h
  refine V_dreg [0, 1, 0, 4, 15, 0, 32, 0, 128, 480, 31, 2047, 4095, 0, 0, 24576, 65535, 31, 262143, 524287] 19 (cdm 19 [2819270816, 2819270817, 2819270666, 2819270682, 2819270741, 37180572330, 37180573354, 37180418730, 37180435114, 37180495530, 37179009365, 37179708757, 37183903061, 34941348522, 34538695338, 34740021930, 35791394133, 11453245781, 22906492245]) (mb 43 203000) [40, 32, 24] (s1 := ⟨bt 3 (.pt 24 0 :: .pt 32 0 :: .pt 40 0 :: I 3 :: I p1.2.2.2 :: bt 3 (.ag [Ti p1.1, Ti p1.2.1, Ti p1.2.2.1, Ti p1.2.2.2] :: I 3 :: bt 3 (.ag [Ti q2.1, Ti q2.2.1, Ti q2.2.2.1, Ti q2.2.2.2] :: I 1 :: bt 25 []))), [(40, .box [Ti f5, Ti f15, Ti f17, Ti f25, Ti f35, Ti f37, Ti f29, Ti f31, Ti 0]), (32, .box [Ti 0, Ti 0, Ti 0, Ti 0, Ti 0, Ti 0, Ti 0, Ti 0, Ti 0]), (24, .box [Ti q2.1, Ti q2.2.1, Ti q2.2.2.1, Ti q2.2.2.2])]⟩) (by kernel_rfl) (by kernel_rfl) ?_ ?_
  ·refine DR 1 ?_
   refine DE_0 1 (I 1) (by kernel_rfl) rfl rfl rfl (gsat_none rfl) (by kernel_rfl) (Y0_quo64 (a := 3) (b := 2) rfl (by kernel_rfl) (by kernel_rfl) (by decide)) 22 rfl ?_
   refine DR 1 ?_
   refine DE_0 3 (I 0) (by kernel_rfl) rfl rfl rfl (gsat_none rfl) (by kernel_rfl) (Y0_quo64 (a := 1) (b := 2) rfl (by kernel_rfl) (by kernel_rfl) (by decide)) 24 rfl ?_
   refine DR 2 ?_
   refine DE_0 6 (I 1) (by kernel_rfl) rfl rfl rfl (gsat_none rfl) (by kernel_rfl) (Y0_rem (k := .i64) (a := 3) (b := 2) rfl (by kernel_rfl) (by kernel_rfl) (by decide)) 27 rfl ?_
   refine DR 1 ?_
   refine DE_0 8 (I 1) (by kernel_rfl) rfl rfl rfl (gsat_none rfl) (by kernel_rfl) (Y0_rem (k := .i64) (a := 1) (b := 2) rfl (by kernel_rfl) (by kernel_rfl) (by decide)) 29 rfl ?_
   refine DA 10 ?_
   refine XR 1 ?_
   refine XL_nil ?_
   subst hf37
   kernel_rfl
  show V _ _ _ _
  refine V_reg (mb 43 203000) [40, 32, 24] (s1 := ⟨bt 3 (.pt 24 0 :: .pt 32 0 :: .pt 40 0 :: I 3 :: I p1.2.2.2 :: bt 3 (.ag [Ti p1.1, Ti p1.2.1, Ti p1.2.2.1, Ti p1.2.2.2] :: I 3 :: bt 3 (.ag [Ti q2.1, Ti q2.2.1, Ti q2.2.2.1, Ti q2.2.2.2] :: I 2 :: bt 25 []))), [(40, .box [Ti f5, Ti f15, Ti f17, Ti f25, Ti f35, Ti f37, Ti f29, Ti f31, Ti 0]), (32, .box [Ti 0, Ti 0, Ti 0, Ti 0, Ti 0, Ti 0, Ti 0, Ti 0, Ti 0]), (24, .box [Ti q2.1, Ti q2.2.1, Ti q2.2.2.1, Ti q2.2.2.2])]⟩) ?_ ?_
  ·exact XE
  show VR _ _ _ _ _
  refine VR_s (n := 37) ?_
  refine V_keep (mb 43 203000) [40, 32, 24] (s' := ⟨bt 3 (.pt 24 0 :: .pt 32 0 :: .pt 40 0 :: I 3 :: I p1.2.2.2 :: bt 3 (.ag [Ti p1.1, Ti p1.2.1, Ti p1.2.2.1, Ti p1.2.2.2] :: I 3 :: bt 3 (.ag [Ti q2.1, Ti q2.2.1, Ti q2.2.2.1, Ti q2.2.2.2] :: I 2 :: bt 25 []))), [(40, .box [Ti f5, Ti f15, Ti f17, Ti f25, Ti f35, Ti f37, Ti f29, Ti f31, Ti 0]), (32, .box [Ti 0, Ti 0, Ti 0, Ti 0, Ti 0, Ti 0, Ti 0, Ti 0, Ti 0]), (24, .box [Ti q2.1, Ti q2.2.1, Ti q2.2.2.1, Ti q2.2.2.2])]⟩) (by kernel_rfl) ?_
  refine V_e (mb 43 465144) [40, 32, 24] (s1 := ⟨bt 3 (.pt 24 0 :: .pt 32 0 :: .pt 40 0 :: I 3 :: I p1.2.2.2 :: bt 3 (.ag [Ti p1.1, Ti p1.2.1, Ti p1.2.2.1, Ti p1.2.2.2] :: I 3 :: bt 3 (.ag [Ti q2.1, Ti q2.2.1, Ti q2.2.2.1, Ti q2.2.2.2] :: I 2 :: Bo true :: bt 24 []))), [(40, .box [Ti f5, Ti f15, Ti f17, Ti f25, Ti f35, Ti f37, Ti f29, Ti f31, Ti 0]), (32, .box [Ti 0, Ti 0, Ti 0, Ti 0, Ti 0, Ti 0, Ti 0, Ti 0, Ti 0]), (24, .box [Ti q2.1, Ti q2.2.1, Ti q2.2.2.1, Ti q2.2.2.2])]⟩) ?_
  refine V_seq ?_
  refine V_cond_true rfl ?_
  refine V_skip ?_
  show V _ _ _ _
  refine V_seq ?_
  refine V_block ?_
  refine V_sreg (mb 43 203768) [40, 32, 24] (s1 := ⟨bt 3 (.pt 24 0 :: .pt 32 0 :: .pt 40 0 :: I 3 :: I p1.2.2.2 :: I 2 :: I q2.2.2.1 :: .bot :: .ag [Ti p1.1, Ti p1.2.1, Ti p1.2.2.1, Ti p1.2.2.2] :: I 3 :: bt 3 (.ag [Ti q2.1, Ti q2.2.1, Ti q2.2.2.1, Ti q2.2.2.2] :: I 2 :: bt 25 [])), [(40, .box [Ti f5, Ti f15, Ti f17, Ti f25, Ti f35, Ti f37, Ti f29, Ti f31, Ti 0]), (32, .box [Ti 0, Ti 0, Ti 0, Ti 0, Ti 0, Ti 0, Ti 0, Ti 0, Ti 0]), (24, .box [Ti q2.1, Ti q2.2.1, Ti q2.2.2.1, Ti q2.2.2.2])]⟩) ?_ ?_
  ·refine XR 1 ?_
   refine L0 rfl rfl (Y0_indexA (c := fun v => [Ti v]) (xs := [q2.1, q2.2.1, q2.2.2.1, q2.2.2.2]) (v := q2.2.2.1) (k := .i64) (n := 2) Try.underlying95 sc3 sz3 rfl (by kernel_rfl) (by kernel_rfl) rfl (fun _ => rfl) rfl rfl) ?_
   exact XE
  obtain ⟨f39, hf39, h⟩ := of_sI h
  refine V_dreg [0, 1, 0, 4, 15, 0, 32, 0, 128, 480, 31, 2047, 4095, 0, 0, 24576, 65535, 31, 262143, 524287] 19 (cdm 19 [2819270816, 2819270817, 2819270666, 2819270682, 2819270741, 37180572330, 37180573354, 37180418730, 37180435114, 37180495530, 37179009365, 37179708757, 37183903061, 34941348522, 34538695338, 34740021930, 35791394133, 11453245781, 22906492245]) (mb 43 203000) [40, 32, 24] (s1 := ⟨bt 3 (.pt 24 0 :: .pt 32 0 :: .pt 40 0 :: I 3 :: I p1.2.2.2 :: bt 3 (.ag [Ti p1.1, Ti p1.2.1, Ti p1.2.2.1, Ti p1.2.2.2] :: I 3 :: bt 3 (.ag [Ti q2.1, Ti q2.2.1, Ti q2.2.2.1, Ti q2.2.2.2] :: I 2 :: bt 25 []))), [(40, .box [Ti f5, Ti f15, Ti f17, Ti f25, Ti f35, Ti f37, Ti f29, Ti f39, Ti 0]), (32, .box [Ti 0, Ti 0, Ti 0, Ti 0, Ti 0, Ti 0, Ti 0, Ti 0, Ti 0]), (24, .box [Ti q2.1, Ti q2.2.1, Ti q2.2.2.1, Ti q2.2.2.2])]⟩) (by kernel_rfl) (by kernel_rfl) ?_ ?_
  ·refine DR 1 ?_
   refine DE_0 1 (I 1) (by kernel_rfl) rfl rfl rfl (gsat_none rfl) (by kernel_rfl) (Y0_quo64 (a := 3) (b := 2) rfl (by kernel_rfl) (by kernel_rfl) (by decide)) 22 rfl ?_
   refine DR 1 ?_
   refine DE_0 3 (I 1) (by kernel_rfl) rfl rfl rfl (gsat_none rfl) (by kernel_rfl) (Y0_quo64 (a := 2) (b := 2) rfl (by kernel_rfl) (by kernel_rfl) (by decide)) 24 rfl ?_
   refine DR 2 ?_
   refine DE_0 6 (I 1) (by kernel_rfl) rfl rfl rfl (gsat_none rfl) (by kernel_rfl) (Y0_rem (k := .i64) (a := 3) (b := 2) rfl (by kernel_rfl) (by kernel_rfl) (by decide)) 27 rfl ?_
   refine DR 1 ?_
   refine DE_0 8 (I 0) (by kernel_rfl) rfl rfl rfl (gsat_none rfl) (by kernel_rfl) (Y0_rem (k := .i64) (a := 2) (b := 2) rfl (by kernel_rfl) (by kernel_rfl) (by decide)) 29 rfl ?_
   refine DA 10 ?_
   refine XR 1 ?_
   refine XL_nil ?_
   subst hf39
   kernel_rfl
  show V _ _ _ _
  refine V_reg (mb 43 203000) [40, 32, 24] (s1 := ⟨bt 3 (.pt 24 0 :: .pt 32 0 :: .pt 40 0 :: I 3 :: I p1.2.2.2 :: bt 3 (.ag [Ti p1.1, Ti p1.2.1, Ti p1.2.2.1, Ti p1.2.2.2] :: I 3 :: bt 3 (.ag [Ti q2.1, Ti q2.2.1, Ti q2.2.2.1, Ti q2.2.2.2] :: I 3 :: bt 25 []))), [(40, .box [Ti f5, Ti f15, Ti f17, Ti f25, Ti f35, Ti f37, Ti f29, Ti f39, Ti 0]), (32, .box [Ti 0, Ti 0, Ti 0, Ti 0, Ti 0, Ti 0, Ti 0, Ti 0, Ti 0]), (24, .box [Ti q2.1, Ti q2.2.1, Ti q2.2.2.1, Ti q2.2.2.2])]⟩) ?_ ?_
  ·exact XE
  show VR _ _ _ _ _
  refine VR_s (n := 36) ?_
  refine V_keep (mb 43 203000) [40, 32, 24] (s' := ⟨bt 3 (.pt 24 0 :: .pt 32 0 :: .pt 40 0 :: I 3 :: I p1.2.2.2 :: bt 3 (.ag [Ti p1.1, Ti p1.2.1, Ti p1.2.2.1, Ti p1.2.2.2] :: I 3 :: bt 3 (.ag [Ti q2.1, Ti q2.2.1, Ti q2.2.2.1, Ti q2.2.2.2] :: I 3 :: bt 25 []))), [(40, .box [Ti f5, Ti f15, Ti f17, Ti f25, Ti f35, Ti f37, Ti f29, Ti f39, Ti 0]), (32, .box [Ti 0, Ti 0, Ti 0, Ti 0, Ti 0, Ti 0, Ti 0, Ti 0, Ti 0]), (24, .box [Ti q2.1, Ti q2.2.1, Ti q2.2.2.1, Ti q2.2.2.2])]⟩) (by kernel_rfl) ?_
  refine V_e (mb 43 465144) [40, 32, 24] (s1 := ⟨bt 3 (.pt 24 0 :: .pt 32 0 :: .pt 40 0 :: I 3 :: I p1.2.2.2 :: bt 3 (.ag [Ti p1.1, Ti p1.2.1, Ti p1.2.2.1, Ti p1.2.2.2] :: I 3 :: bt 3 (.ag [Ti q2.1, Ti q2.2.1, Ti q2.2.2.1, Ti q2.2.2.2] :: I 3 :: Bo true :: bt 24 []))), [(40, .box [Ti f5, Ti f15, Ti f17, Ti f25, Ti f35, Ti f37, Ti f29, Ti f39, Ti 0]), (32, .box [Ti 0, Ti 0, Ti 0, Ti 0, Ti 0, Ti 0, Ti 0, Ti 0, Ti 0]), (24, .box [Ti q2.1, Ti q2.2.1, Ti q2.2.2.1, Ti q2.2.2.2])]⟩) ?_
  refine V_seq ?_
  refine V_cond_true rfl ?_
  refine V_skip ?_
  show V _ _ _ _
  refine V_seq ?_
  refine V_block ?_
  refine V_sreg (mb 43 203768) [40, 32, 24] (s1 := ⟨bt 3 (.pt 24 0 :: .pt 32 0 :: .pt 40 0 :: I 3 :: I p1.2.2.2 :: I 3 :: I q2.2.2.2 :: .bot :: .ag [Ti p1.1, Ti p1.2.1, Ti p1.2.2.1, Ti p1.2.2.2] :: I 3 :: bt 3 (.ag [Ti q2.1, Ti q2.2.1, Ti q2.2.2.1, Ti q2.2.2.2] :: I 3 :: bt 25 [])), [(40, .box [Ti f5, Ti f15, Ti f17, Ti f25, Ti f35, Ti f37, Ti f29, Ti f39, Ti 0]), (32, .box [Ti 0, Ti 0, Ti 0, Ti 0, Ti 0, Ti 0, Ti 0, Ti 0, Ti 0]), (24, .box [Ti q2.1, Ti q2.2.1, Ti q2.2.2.1, Ti q2.2.2.2])]⟩) ?_ ?_
  ·refine XR 1 ?_
   refine L0 rfl rfl (Y0_indexA (c := fun v => [Ti v]) (xs := [q2.1, q2.2.1, q2.2.2.1, q2.2.2.2]) (v := q2.2.2.2) (k := .i64) (n := 3) Try.underlying95 sc3 sz3 rfl (by kernel_rfl) (by kernel_rfl) rfl (fun _ => rfl) rfl rfl) ?_
   exact XE
  obtain ⟨f41, hf41, h⟩ := of_sI h
  refine V_dreg [0, 1, 0, 4, 15, 0, 32, 0, 128, 480, 31, 2047, 4095, 0, 0, 24576, 65535, 31, 262143, 524287] 19 (cdm 19 [2819270816, 2819270817, 2819270666, 2819270682, 2819270741, 37180572330, 37180573354, 37180418730, 37180435114, 37180495530, 37179009365, 37179708757, 37183903061, 34941348522, 34538695338, 34740021930, 35791394133, 11453245781, 22906492245]) (mb 43 203000) [40, 32, 24] (s1 := ⟨bt 3 (.pt 24 0 :: .pt 32 0 :: .pt 40 0 :: I 3 :: I p1.2.2.2 :: bt 3 (.ag [Ti p1.1, Ti p1.2.1, Ti p1.2.2.1, Ti p1.2.2.2] :: I 3 :: bt 3 (.ag [Ti q2.1, Ti q2.2.1, Ti q2.2.2.1, Ti q2.2.2.2] :: I 3 :: bt 25 []))), [(40, .box [Ti f5, Ti f15, Ti f17, Ti f25, Ti f35, Ti f37, Ti f29, Ti f39, Ti f41]), (32, .box [Ti 0, Ti 0, Ti 0, Ti 0, Ti 0, Ti 0, Ti 0, Ti 0, Ti 0]), (24, .box [Ti q2.1, Ti q2.2.1, Ti q2.2.2.1, Ti q2.2.2.2])]⟩) (by kernel_rfl) (by kernel_rfl) ?_ ?_
  ·refine DR 1 ?_
   refine DE_0 1 (I 1) (by kernel_rfl) rfl rfl rfl (gsat_none rfl) (by kernel_rfl) (Y0_quo64 (a := 3) (b := 2) rfl (by kernel_rfl) (by kernel_rfl) (by decide)) 22 rfl ?_
   refine DR 1 ?_
   refine DE_0 3 (I 1) (by kernel_rfl) rfl rfl rfl (gsat_none rfl) (by kernel_rfl) (Y0_quo64 (a := 3) (b := 2) rfl (by kernel_rfl) (by kernel_rfl) (by decide)) 24 rfl ?_
   refine DR 2 ?_
   refine DE_0 6 (I 1) (by kernel_rfl) rfl rfl rfl (gsat_none rfl) (by kernel_rfl) (Y0_rem (k := .i64) (a := 3) (b := 2) rfl (by kernel_rfl) (by kernel_rfl) (by decide)) 27 rfl ?_
   refine DR 1 ?_
   refine DE_0 8 (I 1) (by kernel_rfl) rfl rfl rfl (gsat_none rfl) (by kernel_rfl) (Y0_rem (k := .i64) (a := 3) (b := 2) rfl (by kernel_rfl) (by kernel_rfl) (by decide)) 29 rfl ?_
   refine DA 10 ?_
   refine XR 1 ?_
   refine XL_nil ?_
   subst hf41
   kernel_rfl
  show V _ _ _ _
  refine V_reg (mb 43 203000) [40, 32, 24] (s1 := ⟨bt 3 (.pt 24 0 :: .pt 32 0 :: .pt 40 0 :: I 3 :: I p1.2.2.2 :: bt 3 (.ag [Ti p1.1, Ti p1.2.1, Ti p1.2.2.1, Ti p1.2.2.2] :: I 3 :: bt 3 (.ag [Ti q2.1, Ti q2.2.1, Ti q2.2.2.1, Ti q2.2.2.2] :: I 4 :: bt 25 []))), [(40, .box [Ti f5, Ti f15, Ti f17, Ti f25, Ti f35, Ti f37, Ti f29, Ti f39, Ti f41]), (32, .box [Ti 0, Ti 0, Ti 0, Ti 0, Ti 0, Ti 0, Ti 0, Ti 0, Ti 0]), (24, .box [Ti q2.1, Ti q2.2.1, Ti q2.2.2.1, Ti q2.2.2.2])]⟩) ?_ ?_
  ·exact XE
  show VR _ _ _ _ _
  refine VR_s (n := 35) ?_
  refine V_keep (mb 43 203000) [40, 32, 24] (s' := ⟨bt 3 (.pt 24 0 :: .pt 32 0 :: .pt 40 0 :: I 3 :: I p1.2.2.2 :: bt 3 (.ag [Ti p1.1, Ti p1.2.1, Ti p1.2.2.1, Ti p1.2.2.2] :: I 3 :: bt 3 (.ag [Ti q2.1, Ti q2.2.1, Ti q2.2.2.1, Ti q2.2.2.2] :: I 4 :: bt 25 []))), [(40, .box [Ti f5, Ti f15, Ti f17, Ti f25, Ti f35, Ti f37, Ti f29, Ti f39, Ti f41]), (32, .box [Ti 0, Ti 0, Ti 0, Ti 0, Ti 0, Ti 0, Ti 0, Ti 0, Ti 0]), (24, .box [Ti q2.1, Ti q2.2.1, Ti q2.2.2.1, Ti q2.2.2.2])]⟩) (by kernel_rfl) ?_
  refine V_e (mb 43 465144) [40, 32, 24] (s1 := ⟨bt 3 (.pt 24 0 :: .pt 32 0 :: .pt 40 0 :: I 3 :: I p1.2.2.2 :: bt 3 (.ag [Ti p1.1, Ti p1.2.1, Ti p1.2.2.1, Ti p1.2.2.2] :: I 3 :: bt 3 (.ag [Ti q2.1, Ti q2.2.1, Ti q2.2.2.1, Ti q2.2.2.2] :: I 4 :: Bo false :: bt 24 []))), [(40, .box [Ti f5, Ti f15, Ti f17, Ti f25, Ti f35, Ti f37, Ti f29, Ti f39, Ti f41]), (32, .box [Ti 0, Ti 0, Ti 0, Ti 0, Ti 0, Ti 0, Ti 0, Ti 0, Ti 0]), (24, .box [Ti q2.1, Ti q2.2.1, Ti q2.2.2.1, Ti q2.2.2.2])]⟩) ?_
  refine V_seq ?_
  refine V_cond_false rfl ?_
  refine V_exit ?_
  show V _ _ _ _
  refine V_reg (mb 43 6200) [40, 32, 24] (s1 := ⟨bt 3 (.pt 24 0 :: .pt 32 0 :: .pt 40 0 :: bt 5 (.ag [Ti p1.1, Ti p1.2.1, Ti p1.2.2.1, Ti p1.2.2.2] :: I 4 :: bt 30 [])), [(40, .box [Ti f5, Ti f15, Ti f17, Ti f25, Ti f35, Ti f37, Ti f29, Ti f39, Ti f41]), (32, .box [Ti 0, Ti 0, Ti 0, Ti 0, Ti 0, Ti 0, Ti 0, Ti 0, Ti 0]), (24, .box [Ti q2.1, Ti q2.2.1, Ti q2.2.2.1, Ti q2.2.2.2])]⟩) ?_ ?_
  ·exact XE
  show VR _ _ _ _ _
  refine VR_s (n := 35) ?_
  refine V_keep (mb 43 6200) [40, 32, 24] (s' := ⟨bt 3 (.pt 24 0 :: .pt 32 0 :: .pt 40 0 :: bt 5 (.ag [Ti p1.1, Ti p1.2.1, Ti p1.2.2.1, Ti p1.2.2.2] :: I 4 :: bt 30 [])), [(40, .box [Ti f5, Ti f15, Ti f17, Ti f25, Ti f35, Ti f37, Ti f29, Ti f39, Ti f41]), (32, .box [Ti 0, Ti 0, Ti 0, Ti 0, Ti 0, Ti 0, Ti 0, Ti 0, Ti 0]), (24, .box [Ti q2.1, Ti q2.2.1, Ti q2.2.2.1, Ti q2.2.2.2])]⟩) (by kernel_rfl) ?_
  refine V_e (mb 43 14392) [40, 32, 24] (s1 := ⟨bt 3 (.pt 24 0 :: .pt 32 0 :: .pt 40 0 :: bt 5 (.ag [Ti p1.1, Ti p1.2.1, Ti p1.2.2.1, Ti p1.2.2.2] :: I 4 :: Bo false :: bt 29 [])), [(40, .box [Ti f5, Ti f15, Ti f17, Ti f25, Ti f35, Ti f37, Ti f29, Ti f39, Ti f41]), (32, .box [Ti 0, Ti 0, Ti 0, Ti 0, Ti 0, Ti 0, Ti 0, Ti 0, Ti 0]), (24, .box [Ti q2.1, Ti q2.2.1, Ti q2.2.2.1, Ti q2.2.2.2])]⟩) ?_
  refine V_seq ?_
  refine V_cond_false rfl ?_
  refine V_exit ?_
  show V _ _ _ _
  refine V_e (mb 43 16) [32] (s1 := ⟨bt 4 (.pt 32 0 :: bt 38 []), [(32, .box [Ti f5, Ti f15, Ti f17, Ti f25, Ti f35, Ti f37, Ti f29, Ti f39, Ti f41])]⟩) ?_
  refine V_ret ?_
  obtain rfl := some_inj h
  show Post _ _ _ _ _
  exact ⟨.inr rfl, rfl, rfl, rfl⟩
end Go.Proofs.Ytafomkclmkfjeaa
