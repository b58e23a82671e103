/-
  The functions of the program compute what the plain functions say: more of them.
  Conditions: none.
-/
import Derived.Test.YtnheekadeflecaaGreatUpSnd2
namespace Go.Proofs.YtnheekadeflecaaGreat
open Go.RowKit
set_option linter.unusedVariables false
set_option linter.unusedSimpArgs false
set_option maxRecDepth 100000
set_option maxHeartbeats 400000
theorem cf_sort_pdqsort_func_0 : ∀ args w, (callFunc 168 args).run Tryz.prog w = .ok (.enter 168 args) w := run_callFunc Tryz.func168 (by kernel_rfl) (by kernel_rfl)
theorem s_sort_pdqsort_func_0 {xs0 : List ((Int × Int × Int))} {a1 : Int} {b2 : Int} {limit3 : Int} {l0 lb : Loc} {b : Nat} (hb : lb.blk = some b) {r : List ((Int × Int × Int))} (h : r_sort_pdqsort_func_0 xs0 a1 b2 limit3 = some r) : ∀ σ : Nat → Loc, σ 90000 = l0 → σ 90008 = lb → CallRs Tryz.prog 168 σ [.ag [.v (lsV b), .v (swV l0)], I a1, I b2, I limit3] [(90000, .arr 27 3 (xs0.map c27)), (90008, .box [.v (ownVal l0)])] (.tn) [] [(90000, .arr 27 3 (r.map c27)), (90008, .box [.v (ownVal l0)])] := by
  intro σ e1 e2
  subst e1 e2
  refine CallRs_of_text (rs := []) (vs := []) Tryz.func168 rfl rfl FitsL.nil (by decide) 130 rfl rfl ?_
  unfold r_sort_pdqsort_func_0 at h
  show V _ _ ⟨.ag [.v (lsV b), .v (swV (σ 90000))] :: I a1 :: I b2 :: I limit3 :: bt 126 [], [(90000, .parr (σ 90000) 27 3 (xs0.map c27)), (90008, .pbox (σ 90008) [.v (ownVal (σ 90000))])]⟩ _
  refine V_e (mb 130 30) [32, 90000, 90008] (s1 := ⟨.bot :: I a1 :: I b2 :: I limit3 :: .pt 32 0 :: bt 125 [], [(32, .box [.v (lsV b), .v (swV (σ 90000))]), (90000, .parr (σ 90000) 27 3 (xs0.map c27)), (90008, .pbox (σ 90008) [.v (ownVal (σ 90000))])]⟩) ?_
  refine V_e (mb 130 286) [32, 90000, 90008] (s1 := ⟨.bot :: I a1 :: I b2 :: I limit3 :: .pt 32 0 :: bt 3 (Bo true :: bt 121 []), [(32, .box [.v (lsV b), .v (swV (σ 90000))]), (90000, .parr (σ 90000) 27 3 (xs0.map c27)), (90008, .pbox (σ 90008) [.v (ownVal (σ 90000))])]⟩) ?_
  refine V_e (mb 130 798) [32, 90000, 90008] (s1 := ⟨.bot :: I a1 :: I b2 :: I limit3 :: .pt 32 0 :: bt 3 (Bo true :: Bo true :: bt 120 []), [(32, .box [.v (lsV b), .v (swV (σ 90000))]), (90000, .parr (σ 90000) 27 3 (xs0.map c27)), (90008, .pbox (σ 90008) [.v (ownVal (σ 90000))])]⟩) ?_
  obtain ⟨qo8, hLo8, hko8⟩ := of_bind h
  refine V_toS (q := qo8) (S := fun _ => (⟨[], []⟩ : St)) [] [] ?_ ?_
  ·refine V_block (V_loop (fun n s => ∃ (a5 : Int) (l6 : List ((Int × Int × Int))), s.keep (mb 130 798) [32, 90000, 90008] = (⟨.bot :: I a5 :: I b2 :: I limit3 :: .pt 32 0 :: bt 3 (Bo true :: Bo true :: bt 120 []), [(32, .box [.v (lsV b), .v (swV (σ 90000))]), (90000, .parr (σ 90000) 27 3 (l6.map c27)), (90008, .pbox (σ 90008) [.v (ownVal (σ 90000))])]⟩ : St) ∧ r_sort_pdqsort_func_0_L7 b2 limit3 n a5 l6 = some qo8) FU ⟨_, _,  by rfl, hLo8⟩ ?_)
   clear hLo8
   rintro n s ⟨a5, l6, hs, h⟩
   refine V_keep _ _ hs ?_
   clear hs
   cases n with
   | zero => cases h
   | succ n =>
    rw [r_sort_pdqsort_func_0_L7] at h
    refine V_block ?_
    obtain ⟨length9, hlength9, h⟩ := of_sI h
    refine V_sreg (mb 130 1822) [32, 90000, 90008] (s1 := ⟨.bot :: I a5 :: I b2 :: I limit3 :: .pt 32 0 :: bt 3 (Bo true :: Bo true :: I length9 :: bt 119 []), [(32, .box [.v (lsV b), .v (swV (σ 90000))]), (90000, .parr (σ 90000) 27 3 (l6.map c27)), (90008, .pbox (σ 90008) [.v (ownVal (σ 90000))])]⟩) ?_ ?_
    ·refine XR 4 ?_
     refine XL_nil ?_
     subst hlength9
     kernel_rfl
    refine V_seq ?_
    refine V_e (mb 130 8390430) [32, 90000, 90008] (s1 := ⟨.bot :: I a5 :: I b2 :: I limit3 :: .pt 32 0 :: bt 3 (Bo true :: Bo true :: I length9 :: bt 12 (Bo (leI length9 12) :: bt 106 [])), [(32, .box [.v (lsV b), .v (swV (σ 90000))]), (90000, .parr (σ 90000) 27 3 (l6.map c27)), (90008, .pbox (σ 90008) [.v (ownVal (σ 90000))])]⟩) ?_
    refine V_cond rfl (fun hc10 => ?_) (fun hc10 => ?_)
    ·have h := of_true h hc10
     obtain ⟨y11, hy11, h⟩ := of_bind h
     refine V_sreg (mb 130 0) [90000, 90008] (s1 := ⟨bt 130 [], [(90000, .parr (σ 90000) 27 3 (y11.map c27)), (90008, .pbox (σ 90008) [.v (ownVal (σ 90000))])]⟩) ?_ ?_
     ·refine XR 3 ?_
      refine XL_cons rfl (X_callSo (l := σ 90000) (lb := σ 90008) (T0 := 27) (sz := 3) (els := l6.map c27) (cs := [.v (ownVal (σ 90000))]) (E' := [(32, .box [.v (lsV b), .v (swV (σ 90000))]), (90000, .parr (σ 90000) 27 3 (y11.map c27)), (90008, .pbox (σ 90008) [.v (ownVal (σ 90000))])]) [] 27 (fun σ' e1 e2 => s_sort_insertionSort_func (l0 := σ 90000) hb hy11 σ' e1 e2) cf_sort_insertionSort_func (by kernel_rfl) (by kernel_rfl) rfl rfl rfl rfl (by kernel_rfl) rfl (mE_cons (by kernel_rfl) (mE_cons (by kernel_rfl) mE_nil)) rfl (by kernel_rfl) rfl rfl (by kernel_rfl)) ?_
      exact XE
     refine V_ret ?_
     obtain rfl := some_inj h
     have h := hko8
     obtain rfl := some_inj h
     show PostR _ _ _ _ _ _
     exact ⟨⟨.inr rfl, rfl, rfl, rfl⟩, ⟨rfl, ⟨rfl, trivial⟩⟩⟩
    ·have h := of_false h hc10
     refine V_skip ?_
     show V _ _ _ _
     refine V_seq ?_
     refine V_e (mb 130 536872734) [32, 90000, 90008] (s1 := ⟨.bot :: I a5 :: I b2 :: I limit3 :: .pt 32 0 :: bt 3 (Bo true :: Bo true :: I length9 :: bt 18 (Bo (eqI limit3 0) :: bt 100 [])), [(32, .box [.v (lsV b), .v (swV (σ 90000))]), (90000, .parr (σ 90000) 27 3 (l6.map c27)), (90008, .pbox (σ 90008) [.v (ownVal (σ 90000))])]⟩) ?_
     refine V_cond rfl (fun hc12 => ?_) (fun hc12 => ?_)
     ·have h := of_true h hc12
      cases h
     ·have h := of_false h hc12
      refine V_skip ?_
      show V _ _ _ _
      refine V_seq ?_
      refine V_e (mb 130 34359740190) [32, 90000, 90008] (s1 := ⟨.bot :: I a5 :: I b2 :: I limit3 :: .pt 32 0 :: bt 3 (Bo true :: Bo true :: I length9 :: bt 24 (Bo false :: bt 94 [])), [(32, .box [.v (lsV b), .v (swV (σ 90000))]), (90000, .parr (σ 90000) 27 3 (l6.map c27)), (90008, .pbox (σ 90008) [.v (ownVal (σ 90000))])]⟩) ?_
      refine V_cond_false rfl ?_
      refine V_skip ?_
      show V _ _ _ _
      obtain ⟨y14, hy14, h⟩ := of_bind h
      refine V_sreg (mb 130 7966) [32, 90000, 90008] (s1 := ⟨.bot :: I a5 :: I b2 :: I limit3 :: .pt 32 0 :: bt 3 (Bo true :: Bo true :: I length9 :: I y14.1 :: I y14.2.1 :: bt 117 []), [(32, .box [.v (lsV b), .v (swV (σ 90000))]), (90000, .parr (σ 90000) 27 3 (y14.2.2.map c27)), (90008, .pbox (σ 90008) [.v (ownVal (σ 90000))])]⟩) ?_ ?_
      ·refine XR 3 ?_
       refine XL_cons rfl (X_callSo (l := σ 90000) (lb := σ 90008) (T0 := 27) (sz := 3) (els := l6.map c27) (cs := [.v (ownVal (σ 90000))]) (E' := [(32, .box [.v (lsV b), .v (swV (σ 90000))]), (90000, .parr (σ 90000) 27 3 (y14.2.2.map c27)), (90008, .pbox (σ 90008) [.v (ownVal (σ 90000))])]) [] 46 (fun σ' e1 e2 => s_sort_choosePivot_func (l0 := σ 90000) hb hy14 σ' e1 e2) cf_sort_choosePivot_func (by kernel_rfl) (by kernel_rfl) rfl rfl rfl rfl (by kernel_rfl) rfl (mE_cons (by kernel_rfl) (mE_cons (by kernel_rfl) mE_nil)) rfl (by kernel_rfl) rfl rfl (by kernel_rfl)) ?_
       exact XE
      obtain ⟨j15, hj15, h⟩ := of_bind h
      refine V_cutK (mb 130 7966) [32, 90000, 90008] (s1 := ⟨.bot :: I a5 :: I b2 :: I limit3 :: .pt 32 0 :: bt 3 (Bo true :: Bo true :: I length9 :: I j15.1 :: I j15.2.1 :: bt 117 []), [(32, .box [.v (lsV b), .v (swV (σ 90000))]), (90000, .parr (σ 90000) 27 3 (j15.2.2.map c27)), (90008, .pbox (σ 90008) [.v (ownVal (σ 90000))])]⟩) ?_ ?_
      ·clear h
       have h := hj15
       clear hj15
       refine V_e (mb 130 1125899906850590) [32, 90000, 90008] (s1 := ⟨.bot :: I a5 :: I b2 :: I limit3 :: .pt 32 0 :: bt 3 (Bo true :: Bo true :: I length9 :: I y14.1 :: I y14.2.1 :: bt 37 (Bo (eqI y14.2.1 2) :: bt 79 [])), [(32, .box [.v (lsV b), .v (swV (σ 90000))]), (90000, .parr (σ 90000) 27 3 (y14.2.2.map c27)), (90008, .pbox (σ 90008) [.v (ownVal (σ 90000))])]⟩) ?_
       refine V_cond rfl (fun hc16 => ?_) (fun hc16 => ?_)
       ·have h := of_true h hc16
        obtain ⟨y17, hy17, h⟩ := of_bind h
        refine V_sreg (mb 130 3870) [32, 90000, 90008] (s1 := ⟨.bot :: I a5 :: I b2 :: I limit3 :: .pt 32 0 :: bt 3 (Bo true :: Bo true :: I length9 :: I y14.1 :: bt 118 []), [(32, .box [.v (lsV b), .v (swV (σ 90000))]), (90000, .parr (σ 90000) 27 3 (y17.map c27)), (90008, .pbox (σ 90008) [.v (ownVal (σ 90000))])]⟩) ?_ ?_
        ·refine XR 3 ?_
         refine XL_cons rfl (X_callSo (l := σ 90000) (lb := σ 90008) (T0 := 27) (sz := 3) (els := y14.2.2.map c27) (cs := [.v (ownVal (σ 90000))]) (E' := [(32, .box [.v (lsV b), .v (swV (σ 90000))]), (90000, .parr (σ 90000) 27 3 (y17.map c27)), (90008, .pbox (σ 90008) [.v (ownVal (σ 90000))])]) [] 54 (fun σ' e1 e2 => s_sort_reverseRange_func (l0 := σ 90000) hb hy17 σ' e1 e2) cf_sort_reverseRange_func (by kernel_rfl) (by kernel_rfl) rfl rfl rfl rfl (by kernel_rfl) rfl (mE_cons (by kernel_rfl) (mE_cons (by kernel_rfl) mE_nil)) rfl (by kernel_rfl) rfl rfl (by kernel_rfl)) ?_
         exact XE
        obtain ⟨pivot18, hpivot18, h⟩ := of_sI h
        refine V_sreg (mb 130 3870) [32, 90000, 90008] (s1 := ⟨.bot :: I a5 :: I b2 :: I limit3 :: .pt 32 0 :: bt 3 (Bo true :: Bo true :: I length9 :: I pivot18 :: bt 118 []), [(32, .box [.v (lsV b), .v (swV (σ 90000))]), (90000, .parr (σ 90000) 27 3 (y17.map c27)), (90008, .pbox (σ 90008) [.v (ownVal (σ 90000))])]⟩) ?_ ?_
        ·refine XR 7 ?_
         refine XL_nil ?_
         subst hpivot18
         kernel_rfl
        refine V_reg (mb 130 7966) [32, 90000, 90008] (s1 := ⟨.bot :: I a5 :: I b2 :: I limit3 :: .pt 32 0 :: bt 3 (Bo true :: Bo true :: I length9 :: I pivot18 :: I 1 :: bt 117 []), [(32, .box [.v (lsV b), .v (swV (σ 90000))]), (90000, .parr (σ 90000) 27 3 (y17.map c27)), (90008, .pbox (σ 90008) [.v (ownVal (σ 90000))])]⟩) ?_ ?_
        ·exact XE
        obtain rfl := some_inj h
        show St.keep _ _ _ = _
        rfl
       ·have h := of_false h hc16
        refine V_skip ?_
        obtain rfl := some_inj h
        show St.keep _ _ _ = _
        rfl
      obtain ⟨qo19, hLo19, hko19⟩ := of_bind h
      clear h
      refine V_cutS (q := qo19) (S := fun o19 => ⟨.bot :: I a5 :: I b2 :: I limit3 :: .pt 32 0 :: bt 3 (Bo true :: Bo true :: I length9 :: I j15.1 :: bt 118 []), [(32, .box [.v (lsV b), .v (swV (σ 90000))]), (90000, .parr (σ 90000) 27 3 (o19.map c27)), (90008, .pbox (σ 90008) [.v (ownVal (σ 90000))])]⟩) (mb 130 3870) [32, 90000, 90008] ?_ ?_
      ·have h := hLo19
       clear hLo19
       refine V_sreg (mb 130 295147905179352829726) [32, 90000, 90008] (s1 := ⟨.bot :: I a5 :: I b2 :: I limit3 :: .pt 32 0 :: bt 3 (Bo true :: Bo true :: I length9 :: I j15.1 :: bt 56 (Bo (eqI j15.2.1 1) :: bt 61 [])), [(32, .box [.v (lsV b), .v (swV (σ 90000))]), (90000, .parr (σ 90000) 27 3 (j15.2.2.map c27)), (90008, .pbox (σ 90008) [.v (ownVal (σ 90000))])]⟩) ?_ ?_
       ·refine XR 2 ?_
        refine XL_takeC true rfl rfl (by kernel_rfl) rfl (X_of_Y0 rfl (E_move (Bo true) rfl (by kernel_rfl))) ?_
        refine L0 rfl rfl (E_pickt (Bo true) rfl (by kernel_rfl) (by kernel_rfl)) ?_
        refine XR 1 ?_
        refine XL_takeC true rfl rfl (by kernel_rfl) rfl (X_of_Y0 rfl (E_move (I j15.2.1) rfl (by kernel_rfl))) ?_
        refine XL_takeC true rfl rfl (by kernel_rfl) rfl (X_of_Y0 rfl (Y0_eqw (k := .i64) (a := j15.2.1) (b := 1) rfl (by kernel_rfl) (by kernel_rfl))) ?_
        refine L0 rfl rfl (E_pickt (Bo (eqI j15.2.1 1)) rfl (by kernel_rfl) (by kernel_rfl)) ?_
        exact XE
       refine V_cond rfl (fun hc20 => ?_) (fun hc20 => ?_)
       ·have h := of_true h hc20
        obtain ⟨y21, hy21, h⟩ := of_bind h
        refine V_sreg (mb 130 4722366482869645217566) [32, 90000, 90008] (s1 := ⟨.bot :: I a5 :: I b2 :: I limit3 :: .pt 32 0 :: bt 3 (Bo true :: Bo true :: I length9 :: I j15.1 :: bt 60 (Bo y21.1 :: bt 57 [])), [(32, .box [.v (lsV b), .v (swV (σ 90000))]), (90000, .parr (σ 90000) 27 3 (y21.2.map c27)), (90008, .pbox (σ 90008) [.v (ownVal (σ 90000))])]⟩) ?_ ?_
        ·refine XR 3 ?_
         refine XL_cons rfl (X_callSo (l := σ 90000) (lb := σ 90008) (T0 := 27) (sz := 3) (els := j15.2.2.map c27) (cs := [.v (ownVal (σ 90000))]) (E' := [(32, .box [.v (lsV b), .v (swV (σ 90000))]), (90000, .parr (σ 90000) 27 3 (y21.2.map c27)), (90008, .pbox (σ 90008) [.v (ownVal (σ 90000))])]) [] 72 (fun σ' e1 e2 => s_sort_partialInsertionSort_func (l0 := σ 90000) hb hy21 σ' e1 e2) cf_sort_partialInsertionSort_func (by kernel_rfl) (by kernel_rfl) rfl rfl rfl rfl (by kernel_rfl) rfl (mE_cons (by kernel_rfl) (mE_cons (by kernel_rfl) mE_nil)) rfl (by kernel_rfl) rfl rfl (by kernel_rfl)) ?_
         exact XE
        refine V_cond rfl (fun hc22 => ?_) (fun hc22 => ?_)
        ·have h := of_true h hc22
         refine V_ret ?_
         obtain rfl := some_inj h
         have h := hko19
         obtain rfl := some_inj h
         have h := hko8
         obtain rfl := some_inj h
         show PostR _ _ _ _ _ _
         exact ⟨⟨.inr rfl, rfl, rfl, rfl⟩, ⟨rfl, ⟨rfl, trivial⟩⟩⟩
        ·have h := of_false h hc22
         refine V_skip ?_
         obtain rfl := some_inj h
         exact ⟨_, rfl, by rfl⟩
       ·have h := of_false h hc20
        refine V_skip ?_
        obtain rfl := some_inj h
        exact ⟨_, rfl, by rfl⟩
      rintro o19 rfl
      have h := hko19
      clear hko19
      refine V_seq ?_
      obtain ⟨b25, hb25, h⟩ := of_bind h
      refine V_sreg (mb 130 9671406556917033397653278) [32, 90000, 90008] (s1 := ⟨.bot :: I a5 :: I b2 :: I limit3 :: .pt 32 0 :: bt 3 (Bo true :: Bo true :: I length9 :: I j15.1 :: bt 71 (Bo b25 :: bt 46 [])), [(32, .box [.v (lsV b), .v (swV (σ 90000))]), (90000, .parr (σ 90000) 27 3 (o19.map c27)), (90008, .pbox (σ 90008) [.v (ownVal (σ 90000))])]⟩) ?_ ?_
      ·refine XR 3 ?_
       refine XL_split (ltI 0 a5) (fun hc23 => ?_) (fun hc23 => ?_)
       ·have hb25 := of_true hb25 hc23
        obtain ⟨y24, hy24, hb25⟩ := of_bind hb25
        have hb25 := some_inj hb25
        refine XL_takeC _ rfl rfl (by kernel_rfl) hc23 (X_of_Y0 rfl (E_field (.pt 32 0) Tryz.underlying145 rfl sz63 rfl (by kernel_rfl) (by intro hh; cases hh))) ?_
        refine XL_takeC _ rfl rfl (by kernel_rfl) hc23 (X_of_Y0 rfl (Y0_load1 (c := .v (lsV b)) (cs := [.v (swV (σ 90000))]) sc63 rfl (by kernel_rfl))) ?_
        refine XL_takeC _ rfl rfl (by kernel_rfl) hc23 (X_of_Y0 rfl (E_move (I a5) rfl (by kernel_rfl))) ?_
        refine XL_takeC _ rfl rfl (by kernel_rfl) hc23 (X_of_Y0 rfl (Y0_sub64 (a := a5) (b := 1) rfl (by kernel_rfl) (by kernel_rfl))) ?_
        refine XL_takeC _ rfl rfl (by kernel_rfl) hc23 (X_of_Y0 rfl (E_move (I j15.1) rfl (by kernel_rfl))) ?_
        refine XL_takeC _ rfl rfl (by kernel_rfl) hc23 (X_of_Y1 rfl (Y1_less (l := σ 90000) (lb := σ 90008) (T0 := 27) (id := 90000) (bid := 90008) (sz := 3) (b := b) (els := o19.map c27) (i := w64 (a5 - 1)) (j := j15.1) (s_impl_sortForms_1 hy24) cf_impl_sortForms_1 rfl (by kernel_rfl) (by kernel_rfl) (by kernel_rfl) (by kernel_rfl) hb (by kernel_rfl))) ?_
        refine XL_takeC _ rfl rfl (by kernel_rfl) hc23 (X_of_Y0 rfl (Y0_not (b := y24) rfl (by kernel_rfl))) ?_
        refine XL_cons rfl (X_of_Y0 rfl (Y0_pickTe (b := ltI 0 a5) (p := !y24) rfl (by kernel_rfl) hc23 (by kernel_rfl) hb25)) ?_
        exact XE
       ·have hb25 := some_inj (of_false hb25 hc23)
        refine XL_skipT _ rfl rfl (by kernel_rfl) hc23 rfl ?_
        refine XL_skipT _ rfl rfl (by kernel_rfl) hc23 rfl ?_
        refine XL_skipT _ rfl rfl (by kernel_rfl) hc23 rfl ?_
        refine XL_skipT _ rfl rfl (by kernel_rfl) hc23 rfl ?_
        refine XL_skipT _ rfl rfl (by kernel_rfl) hc23 rfl ?_
        refine XL_skipT _ rfl rfl (by kernel_rfl) hc23 rfl ?_
        refine XL_skipT _ rfl rfl (by kernel_rfl) hc23 rfl ?_
        refine XL_cons rfl (X_of_Y0 rfl (Y0_pickFe (b := ltI 0 a5) (p := false) rfl (by kernel_rfl) hc23 (by kernel_rfl) hb25)) ?_
        exact XE
      refine V_cond rfl (fun hc26 => ?_) (fun hc26 => ?_)
      ·have h := of_true h hc26
       obtain ⟨y27, hy27, h⟩ := of_bind h
       refine V_sreg (mb 130 8988) [32, 90000, 90008] (s1 := ⟨.bot :: .bot :: I b2 :: I limit3 :: .pt 32 0 :: bt 3 (Bo true :: Bo true :: bt 3 (I y27.1 :: bt 116 [])), [(32, .box [.v (lsV b), .v (swV (σ 90000))]), (90000, .parr (σ 90000) 27 3 (y27.2.map c27)), (90008, .pbox (σ 90008) [.v (ownVal (σ 90000))])]⟩) ?_ ?_
       ·refine XR 4 ?_
        refine XL_cons rfl (X_callSo (l := σ 90000) (lb := σ 90008) (T0 := 27) (sz := 3) (els := o19.map c27) (cs := [.v (ownVal (σ 90000))]) (E' := [(32, .box [.v (lsV b), .v (swV (σ 90000))]), (90000, .parr (σ 90000) 27 3 (y27.2.map c27)), (90008, .pbox (σ 90008) [.v (ownVal (σ 90000))])]) [] 88 (fun σ' e1 e2 => s_sort_partitionEqual_func (l0 := σ 90000) hb hy27 σ' e1 e2) cf_sort_partitionEqual_func (by kernel_rfl) (by kernel_rfl) rfl rfl rfl rfl (by kernel_rfl) rfl (mE_cons (by kernel_rfl) (mE_cons (by kernel_rfl) mE_nil)) rfl (by kernel_rfl) rfl rfl (by kernel_rfl)) ?_
        exact XE
       refine V_e (mb 130 798) [32, 90000, 90008] (s1 := ⟨.bot :: I y27.1 :: I b2 :: I limit3 :: .pt 32 0 :: bt 3 (Bo true :: Bo true :: bt 120 []), [(32, .box [.v (lsV b), .v (swV (σ 90000))]), (90000, .parr (σ 90000) 27 3 (y27.2.map c27)), (90008, .pbox (σ 90008) [.v (ownVal (σ 90000))])]⟩) ?_
       refine V_exit ?_
       exact ⟨n, Nat.lt_succ_self n, _, _,  by rfl, h⟩
      ·have h := of_false h hc26
       refine V_skip ?_
       show V _ _ _ _
       obtain ⟨y28, hy28, h⟩ := of_bind h
       refine V_sreg (mb 130 50206) [32, 90000, 90008] (s1 := ⟨.bot :: I a5 :: I b2 :: I limit3 :: .pt 32 0 :: bt 5 (I length9 :: bt 3 (I y28.1 :: Bo y28.2.1 :: bt 114 [])), [(32, .box [.v (lsV b), .v (swV (σ 90000))]), (90000, .parr (σ 90000) 27 3 (y28.2.2.map c27)), (90008, .pbox (σ 90008) [.v (ownVal (σ 90000))])]⟩) ?_ ?_
       ·refine XR 4 ?_
        refine XL_cons rfl (X_callSo (l := σ 90000) (lb := σ 90008) (T0 := 27) (sz := 3) (els := o19.map c27) (cs := [.v (ownVal (σ 90000))]) (E' := [(32, .box [.v (lsV b), .v (swV (σ 90000))]), (90000, .parr (σ 90000) 27 3 (y28.2.2.map c27)), (90008, .pbox (σ 90008) [.v (ownVal (σ 90000))])]) [] 95 (fun σ' e1 e2 => s_sort_partition_func (l0 := σ 90000) hb hy28 σ' e1 e2) cf_sort_partition_func (by kernel_rfl) (by kernel_rfl) rfl rfl rfl rfl (by kernel_rfl) rfl (mE_cons (by kernel_rfl) (mE_cons (by kernel_rfl) mE_nil)) rfl (by kernel_rfl) rfl rfl (by kernel_rfl)) ?_
        exact XE
       refine V_e (mb 130 17950) [32, 90000, 90008] (s1 := ⟨.bot :: I a5 :: I b2 :: I limit3 :: .pt 32 0 :: bt 4 (Bo y28.2.1 :: I length9 :: bt 3 (I y28.1 :: bt 115 [])), [(32, .box [.v (lsV b), .v (swV (σ 90000))]), (90000, .parr (σ 90000) 27 3 (y28.2.2.map c27)), (90008, .pbox (σ 90008) [.v (ownVal (σ 90000))])]⟩) ?_
       obtain ⟨leftLen29, hleftLen29, h⟩ := of_sI h
       obtain ⟨rightLen30, hrightLen30, h⟩ := of_sI h
       refine V_sreg (mb 130 214558) [32, 90000, 90008] (s1 := ⟨.bot :: I a5 :: I b2 :: I limit3 :: .pt 32 0 :: bt 4 (Bo y28.2.1 :: I length9 :: bt 3 (I y28.1 :: .bot :: I leftLen29 :: I rightLen30 :: bt 112 [])), [(32, .box [.v (lsV b), .v (swV (σ 90000))]), (90000, .parr (σ 90000) 27 3 (y28.2.2.map c27)), (90008, .pbox (σ 90008) [.v (ownVal (σ 90000))])]⟩) ?_ ?_
       ·refine XR 8 ?_
        refine XL_nil ?_
        subst hleftLen29 hrightLen30
        kernel_rfl
       obtain ⟨balanceThreshold31, hbalanceThreshold31, h⟩ := of_sI h
       refine V_sreg (mb 130 475678) [32, 90000, 90008] (s1 := ⟨.bot :: I a5 :: I b2 :: I limit3 :: .pt 32 0 :: bt 4 (Bo y28.2.1 :: bt 4 (I y28.1 :: .bot :: I leftLen29 :: I rightLen30 :: I balanceThreshold31 :: bt 111 [])), [(32, .box [.v (lsV b), .v (swV (σ 90000))]), (90000, .parr (σ 90000) 27 3 (y28.2.2.map c27)), (90008, .pbox (σ 90008) [.v (ownVal (σ 90000))])]⟩) ?_ ?_
       ·refine XR 1 ?_
        refine L0 rfl rfl (Y0_quo64 (a := length9) (b := 8) rfl (by kernel_rfl) (by kernel_rfl) (by decide)) ?_
        refine XR 1 ?_
        refine XL_nil ?_
        subst hbalanceThreshold31
        kernel_rfl
       refine V_e (mb 130 649037107316853453566312041628190) [32, 90000, 90008] (s1 := ⟨.bot :: I a5 :: I b2 :: I limit3 :: .pt 32 0 :: bt 4 (Bo y28.2.1 :: bt 4 (I y28.1 :: .bot :: I leftLen29 :: I rightLen30 :: I balanceThreshold31 :: bt 90 (Bo (ltI leftLen29 rightLen30) :: bt 20 []))), [(32, .box [.v (lsV b), .v (swV (σ 90000))]), (90000, .parr (σ 90000) 27 3 (y28.2.2.map c27)), (90008, .pbox (σ 90008) [.v (ownVal (σ 90000))])]⟩) ?_
       refine V_cond rfl (fun hc32 => ?_) (fun hc32 => ?_)
       ·have h := of_true h hc32
        cases h
       ·have h := of_false h hc32
        cases h
  rintro o8 rfl
  cases hko8
theorem cf_sort_pdqsort_func : ∀ args w, (callFunc 168 args).run Tryz.prog w = .ok (.enter 168 args) w := run_callFunc Tryz.func168 (by kernel_rfl) (by kernel_rfl)
theorem s_sort_pdqsort_func {xs0 : List ((Int × Int × Int))} {a1 : Int} {b2 : Int} {limit3 : Int} {l0 lb : Loc} {b : Nat} (hb : lb.blk = some b) {r : List ((Int × Int × Int))} (h : r_sort_pdqsort_func xs0 a1 b2 limit3 = some r) : ∀ σ : Nat → Loc, σ 90000 = l0 → σ 90008 = lb → CallRs Tryz.prog 168 σ [.ag [.v (lsV b), .v (swV l0)], I a1, I b2, I limit3] [(90000, .arr 27 3 (xs0.map c27)), (90008, .box [.v (ownVal l0)])] (.tn) [] [(90000, .arr 27 3 (r.map c27)), (90008, .box [.v (ownVal l0)])] := by
  intro σ e1 e2
  subst e1 e2
  refine CallRs_of_text (rs := []) (vs := []) Tryz.func168 rfl rfl FitsL.nil (by decide) 130 rfl rfl ?_
  unfold r_sort_pdqsort_func at h
  show V _ _ ⟨.ag [.v (lsV b), .v (swV (σ 90000))] :: I a1 :: I b2 :: I limit3 :: bt 126 [], [(90000, .parr (σ 90000) 27 3 (xs0.map c27)), (90008, .pbox (σ 90008) [.v (ownVal (σ 90000))])]⟩ _
  refine V_e (mb 130 30) [32, 90000, 90008] (s1 := ⟨.bot :: I a1 :: I b2 :: I limit3 :: .pt 32 0 :: bt 125 [], [(32, .box [.v (lsV b), .v (swV (σ 90000))]), (90000, .parr (σ 90000) 27 3 (xs0.map c27)), (90008, .pbox (σ 90008) [.v (ownVal (σ 90000))])]⟩) ?_
  refine V_e (mb 130 286) [32, 90000, 90008] (s1 := ⟨.bot :: I a1 :: I b2 :: I limit3 :: .pt 32 0 :: bt 3 (Bo true :: bt 121 []), [(32, .box [.v (lsV b), .v (swV (σ 90000))]), (90000, .parr (σ 90000) 27 3 (xs0.map c27)), (90008, .pbox (σ 90008) [.v (ownVal (σ 90000))])]⟩) ?_
  refine V_e (mb 130 798) [32, 90000, 90008] (s1 := ⟨.bot :: I a1 :: I b2 :: I limit3 :: .pt 32 0 :: bt 3 (Bo true :: Bo true :: bt 120 []), [(32, .box [.v (lsV b), .v (swV (σ 90000))]), (90000, .parr (σ 90000) 27 3 (xs0.map c27)), (90008, .pbox (σ 90008) [.v (ownVal (σ 90000))])]⟩) ?_
  obtain ⟨qo11, hLo11, hko11⟩ := of_bind h
  refine V_toS (q := qo11) (S := fun _ => (⟨[], []⟩ : St)) [] [] ?_ ?_
  ·refine V_block (V_loop (fun n s => ∃ (a5 : Int) (l6 : List ((Int × Int × Int))) (wasBalanced7 : Bool) (wasPartitioned8 : Bool) (b9 : Int), s.keep (mb 130 798) [32, 90000, 90008] = (⟨.bot :: I a5 :: I b9 :: I limit3 :: .pt 32 0 :: bt 3 (Bo wasBalanced7 :: Bo wasPartitioned8 :: bt 120 []), [(32, .box [.v (lsV b), .v (swV (σ 90000))]), (90000, .parr (σ 90000) 27 3 (l6.map c27)), (90008, .pbox (σ 90008) [.v (ownVal (σ 90000))])]⟩ : St) ∧ r_sort_pdqsort_func_L10 limit3 n a5 l6 wasBalanced7 wasPartitioned8 b9 = some qo11) FU ⟨_, _, _, _, _,  by rfl, hLo11⟩ ?_)
   clear hLo11
   rintro n s ⟨a5, l6, wasBalanced7, wasPartitioned8, b9, hs, h⟩
   refine V_keep _ _ hs ?_
   clear hs
   cases n with
   | zero => cases h
   | succ n =>
    rw [r_sort_pdqsort_func_L10] at h
    refine V_block ?_
    obtain ⟨length12, hlength12, h⟩ := of_sI h
    refine V_sreg (mb 130 1822) [32, 90000, 90008] (s1 := ⟨.bot :: I a5 :: I b9 :: I limit3 :: .pt 32 0 :: bt 3 (Bo wasBalanced7 :: Bo wasPartitioned8 :: I length12 :: bt 119 []), [(32, .box [.v (lsV b), .v (swV (σ 90000))]), (90000, .parr (σ 90000) 27 3 (l6.map c27)), (90008, .pbox (σ 90008) [.v (ownVal (σ 90000))])]⟩) ?_ ?_
    ·refine XR 4 ?_
     refine XL_nil ?_
     subst hlength12
     kernel_rfl
    refine V_seq ?_
    refine V_e (mb 130 8390430) [32, 90000, 90008] (s1 := ⟨.bot :: I a5 :: I b9 :: I limit3 :: .pt 32 0 :: bt 3 (Bo wasBalanced7 :: Bo wasPartitioned8 :: I length12 :: bt 12 (Bo (leI length12 12) :: bt 106 [])), [(32, .box [.v (lsV b), .v (swV (σ 90000))]), (90000, .parr (σ 90000) 27 3 (l6.map c27)), (90008, .pbox (σ 90008) [.v (ownVal (σ 90000))])]⟩) ?_
    refine V_cond rfl (fun hc13 => ?_) (fun hc13 => ?_)
    ·have h := of_true h hc13
     obtain ⟨y14, hy14, h⟩ := of_bind h
     refine V_sreg (mb 130 0) [90000, 90008] (s1 := ⟨bt 130 [], [(90000, .parr (σ 90000) 27 3 (y14.map c27)), (90008, .pbox (σ 90008) [.v (ownVal (σ 90000))])]⟩) ?_ ?_
     ·refine XR 3 ?_
      refine XL_cons rfl (X_callSo (l := σ 90000) (lb := σ 90008) (T0 := 27) (sz := 3) (els := l6.map c27) (cs := [.v (ownVal (σ 90000))]) (E' := [(32, .box [.v (lsV b), .v (swV (σ 90000))]), (90000, .parr (σ 90000) 27 3 (y14.map c27)), (90008, .pbox (σ 90008) [.v (ownVal (σ 90000))])]) [] 27 (fun σ' e1 e2 => s_sort_insertionSort_func (l0 := σ 90000) hb hy14 σ' e1 e2) cf_sort_insertionSort_func (by kernel_rfl) (by kernel_rfl) rfl rfl rfl rfl (by kernel_rfl) rfl (mE_cons (by kernel_rfl) (mE_cons (by kernel_rfl) mE_nil)) rfl (by kernel_rfl) rfl rfl (by kernel_rfl)) ?_
      exact XE
     refine V_ret ?_
     obtain rfl := some_inj h
     have h := hko11
     obtain rfl := some_inj h
     show PostR _ _ _ _ _ _
     exact ⟨⟨.inr rfl, rfl, rfl, rfl⟩, ⟨rfl, ⟨rfl, trivial⟩⟩⟩
    ·have h := of_false h hc13
     refine V_skip ?_
     show V _ _ _ _
     refine V_seq ?_
     refine V_e (mb 130 536872734) [32, 90000, 90008] (s1 := ⟨.bot :: I a5 :: I b9 :: I limit3 :: .pt 32 0 :: bt 3 (Bo wasBalanced7 :: Bo wasPartitioned8 :: I length12 :: bt 18 (Bo (eqI limit3 0) :: bt 100 [])), [(32, .box [.v (lsV b), .v (swV (σ 90000))]), (90000, .parr (σ 90000) 27 3 (l6.map c27)), (90008, .pbox (σ 90008) [.v (ownVal (σ 90000))])]⟩) ?_
     refine V_cond rfl (fun hc15 => ?_) (fun hc15 => ?_)
     ·have h := of_true h hc15
      cases h
     ·have h := of_false h hc15
      refine V_skip ?_
      show V _ _ _ _
      refine V_seq ?_
      refine V_e (mb 130 34359740190) [32, 90000, 90008] (s1 := ⟨.bot :: I a5 :: I b9 :: I limit3 :: .pt 32 0 :: bt 3 (Bo wasBalanced7 :: Bo wasPartitioned8 :: I length12 :: bt 24 (Bo (!wasBalanced7) :: bt 94 [])), [(32, .box [.v (lsV b), .v (swV (σ 90000))]), (90000, .parr (σ 90000) 27 3 (l6.map c27)), (90008, .pbox (σ 90008) [.v (ownVal (σ 90000))])]⟩) ?_
      refine V_cond rfl (fun hc16 => ?_) (fun hc16 => ?_)
      ·have h := of_true h hc16
       cases h
      ·have h := of_false h hc16
       refine V_skip ?_
       show V _ _ _ _
       obtain ⟨y17, hy17, h⟩ := of_bind h
       refine V_sreg (mb 130 7966) [32, 90000, 90008] (s1 := ⟨.bot :: I a5 :: I b9 :: I limit3 :: .pt 32 0 :: bt 3 (Bo wasBalanced7 :: Bo wasPartitioned8 :: I length12 :: I y17.1 :: I y17.2.1 :: bt 117 []), [(32, .box [.v (lsV b), .v (swV (σ 90000))]), (90000, .parr (σ 90000) 27 3 (y17.2.2.map c27)), (90008, .pbox (σ 90008) [.v (ownVal (σ 90000))])]⟩) ?_ ?_
       ·refine XR 3 ?_
        refine XL_cons rfl (X_callSo (l := σ 90000) (lb := σ 90008) (T0 := 27) (sz := 3) (els := l6.map c27) (cs := [.v (ownVal (σ 90000))]) (E' := [(32, .box [.v (lsV b), .v (swV (σ 90000))]), (90000, .parr (σ 90000) 27 3 (y17.2.2.map c27)), (90008, .pbox (σ 90008) [.v (ownVal (σ 90000))])]) [] 46 (fun σ' e1 e2 => s_sort_choosePivot_func (l0 := σ 90000) hb hy17 σ' e1 e2) cf_sort_choosePivot_func (by kernel_rfl) (by kernel_rfl) rfl rfl rfl rfl (by kernel_rfl) rfl (mE_cons (by kernel_rfl) (mE_cons (by kernel_rfl) mE_nil)) rfl (by kernel_rfl) rfl rfl (by kernel_rfl)) ?_
        exact XE
       obtain ⟨j18, hj18, h⟩ := of_bind h
       refine V_cutK (mb 130 7966) [32, 90000, 90008] (s1 := ⟨.bot :: I a5 :: I b9 :: I limit3 :: .pt 32 0 :: bt 3 (Bo wasBalanced7 :: Bo wasPartitioned8 :: I length12 :: I j18.1 :: I j18.2.1 :: bt 117 []), [(32, .box [.v (lsV b), .v (swV (σ 90000))]), (90000, .parr (σ 90000) 27 3 (j18.2.2.map c27)), (90008, .pbox (σ 90008) [.v (ownVal (σ 90000))])]⟩) ?_ ?_
       ·clear h
        have h := hj18
        clear hj18
        refine V_e (mb 130 1125899906850590) [32, 90000, 90008] (s1 := ⟨.bot :: I a5 :: I b9 :: I limit3 :: .pt 32 0 :: bt 3 (Bo wasBalanced7 :: Bo wasPartitioned8 :: I length12 :: I y17.1 :: I y17.2.1 :: bt 37 (Bo (eqI y17.2.1 2) :: bt 79 [])), [(32, .box [.v (lsV b), .v (swV (σ 90000))]), (90000, .parr (σ 90000) 27 3 (y17.2.2.map c27)), (90008, .pbox (σ 90008) [.v (ownVal (σ 90000))])]⟩) ?_
        refine V_cond rfl (fun hc19 => ?_) (fun hc19 => ?_)
        ·have h := of_true h hc19
         obtain ⟨y20, hy20, h⟩ := of_bind h
         refine V_sreg (mb 130 3870) [32, 90000, 90008] (s1 := ⟨.bot :: I a5 :: I b9 :: I limit3 :: .pt 32 0 :: bt 3 (Bo wasBalanced7 :: Bo wasPartitioned8 :: I length12 :: I y17.1 :: bt 118 []), [(32, .box [.v (lsV b), .v (swV (σ 90000))]), (90000, .parr (σ 90000) 27 3 (y20.map c27)), (90008, .pbox (σ 90008) [.v (ownVal (σ 90000))])]⟩) ?_ ?_
         ·refine XR 3 ?_
          refine XL_cons rfl (X_callSo (l := σ 90000) (lb := σ 90008) (T0 := 27) (sz := 3) (els := y17.2.2.map c27) (cs := [.v (ownVal (σ 90000))]) (E' := [(32, .box [.v (lsV b), .v (swV (σ 90000))]), (90000, .parr (σ 90000) 27 3 (y20.map c27)), (90008, .pbox (σ 90008) [.v (ownVal (σ 90000))])]) [] 54 (fun σ' e1 e2 => s_sort_reverseRange_func (l0 := σ 90000) hb hy20 σ' e1 e2) cf_sort_reverseRange_func (by kernel_rfl) (by kernel_rfl) rfl rfl rfl rfl (by kernel_rfl) rfl (mE_cons (by kernel_rfl) (mE_cons (by kernel_rfl) mE_nil)) rfl (by kernel_rfl) rfl rfl (by kernel_rfl)) ?_
          exact XE
         obtain ⟨pivot21, hpivot21, h⟩ := of_sI h
         refine V_sreg (mb 130 3870) [32, 90000, 90008] (s1 := ⟨.bot :: I a5 :: I b9 :: I limit3 :: .pt 32 0 :: bt 3 (Bo wasBalanced7 :: Bo wasPartitioned8 :: I length12 :: I pivot21 :: bt 118 []), [(32, .box [.v (lsV b), .v (swV (σ 90000))]), (90000, .parr (σ 90000) 27 3 (y20.map c27)), (90008, .pbox (σ 90008) [.v (ownVal (σ 90000))])]⟩) ?_ ?_
         ·refine XR 7 ?_
          refine XL_nil ?_
          subst hpivot21
          kernel_rfl
         refine V_reg (mb 130 7966) [32, 90000, 90008] (s1 := ⟨.bot :: I a5 :: I b9 :: I limit3 :: .pt 32 0 :: bt 3 (Bo wasBalanced7 :: Bo wasPartitioned8 :: I length12 :: I pivot21 :: I 1 :: bt 117 []), [(32, .box [.v (lsV b), .v (swV (σ 90000))]), (90000, .parr (σ 90000) 27 3 (y20.map c27)), (90008, .pbox (σ 90008) [.v (ownVal (σ 90000))])]⟩) ?_ ?_
         ·exact XE
         obtain rfl := some_inj h
         show St.keep _ _ _ = _
         rfl
        ·have h := of_false h hc19
         refine V_skip ?_
         obtain rfl := some_inj h
         show St.keep _ _ _ = _
         rfl
       obtain ⟨qo22, hLo22, hko22⟩ := of_bind h
       clear h
       refine V_cutS (q := qo22) (S := fun o22 => ⟨.bot :: I a5 :: I b9 :: I limit3 :: .pt 32 0 :: bt 3 (Bo wasBalanced7 :: Bo wasPartitioned8 :: I length12 :: I j18.1 :: bt 118 []), [(32, .box [.v (lsV b), .v (swV (σ 90000))]), (90000, .parr (σ 90000) 27 3 (o22.map c27)), (90008, .pbox (σ 90008) [.v (ownVal (σ 90000))])]⟩) (mb 130 3870) [32, 90000, 90008] ?_ ?_
       ·have h := hLo22
        clear hLo22
        obtain ⟨t25, ht25, h⟩ := of_bind h
        have ht25 := some_inj ht25
        refine V_sreg (mb 130 295147905179352829726) [32, 90000, 90008] (s1 := ⟨.bot :: I a5 :: I b9 :: I limit3 :: .pt 32 0 :: bt 3 (Bo wasBalanced7 :: Bo wasPartitioned8 :: I length12 :: I j18.1 :: bt 56 (Bo t25 :: bt 61 [])), [(32, .box [.v (lsV b), .v (swV (σ 90000))]), (90000, .parr (σ 90000) 27 3 (j18.2.2.map c27)), (90008, .pbox (σ 90008) [.v (ownVal (σ 90000))])]⟩) ?_ ?_
        ·refine XR 2 ?_
         refine XL_split wasBalanced7 (fun hc23 => ?_) (fun hc23 => ?_)
         ·refine XL_takeC _ rfl rfl (by kernel_rfl) hc23 (X_of_Y0 rfl (E_move (Bo wasPartitioned8) rfl (by kernel_rfl))) ?_
          refine XL_cons rfl (X_of_Y0 rfl (Y0_pick1 (b := wasBalanced7) (p := wasPartitioned8) (q := false) rfl (by kernel_rfl) hc23 (by kernel_rfl))) ?_
          refine XR 1 ?_
          refine XL_split (bif wasBalanced7 then wasPartitioned8 else false) (fun hc24 => ?_) (fun hc24 => ?_)
          ·refine XL_takeC _ rfl rfl (by kernel_rfl) hc24 (X_of_Y0 rfl (E_move (I j18.2.1) rfl (by kernel_rfl))) ?_
           refine XL_takeC _ rfl rfl (by kernel_rfl) hc24 (X_of_Y0 rfl (Y0_eqw (k := .i64) (a := j18.2.1) (b := 1) rfl (by kernel_rfl) (by kernel_rfl))) ?_
           refine XL_cons rfl (X_of_Y0 rfl (Y0_pick1 (b := bif wasBalanced7 then wasPartitioned8 else false) (p := eqI j18.2.1 1) (q := false) rfl (by kernel_rfl) hc24 (by kernel_rfl))) ?_
           refine XL_nil ?_
           subst ht25
           kernel_rfl
          ·refine XL_skipT _ rfl rfl (by kernel_rfl) hc24 rfl ?_
           refine XL_skipT _ rfl rfl (by kernel_rfl) hc24 rfl ?_
           refine XL_cons rfl (X_of_Y0 rfl (Y0_pick0 (b := bif wasBalanced7 then wasPartitioned8 else false) (p := eqI j18.2.1 1) (q := false) rfl (by kernel_rfl) hc24 (by kernel_rfl))) ?_
           refine XL_nil ?_
           subst ht25
           kernel_rfl
         ·refine XL_skipT _ rfl rfl (by kernel_rfl) hc23 rfl ?_
          refine XL_cons rfl (X_of_Y0 rfl (Y0_pick0 (b := wasBalanced7) (p := wasPartitioned8) (q := false) rfl (by kernel_rfl) hc23 (by kernel_rfl))) ?_
          refine XR 1 ?_
          refine XL_split (bif wasBalanced7 then wasPartitioned8 else false) (fun hc24 => ?_) (fun hc24 => ?_)
          ·refine XL_takeC _ rfl rfl (by kernel_rfl) hc24 (X_of_Y0 rfl (E_move (I j18.2.1) rfl (by kernel_rfl))) ?_
           refine XL_takeC _ rfl rfl (by kernel_rfl) hc24 (X_of_Y0 rfl (Y0_eqw (k := .i64) (a := j18.2.1) (b := 1) rfl (by kernel_rfl) (by kernel_rfl))) ?_
           refine XL_cons rfl (X_of_Y0 rfl (Y0_pick1 (b := bif wasBalanced7 then wasPartitioned8 else false) (p := eqI j18.2.1 1) (q := false) rfl (by kernel_rfl) hc24 (by kernel_rfl))) ?_
           refine XL_nil ?_
           subst ht25
           kernel_rfl
          ·refine XL_skipT _ rfl rfl (by kernel_rfl) hc24 rfl ?_
           refine XL_skipT _ rfl rfl (by kernel_rfl) hc24 rfl ?_
           refine XL_cons rfl (X_of_Y0 rfl (Y0_pick0 (b := bif wasBalanced7 then wasPartitioned8 else false) (p := eqI j18.2.1 1) (q := false) rfl (by kernel_rfl) hc24 (by kernel_rfl))) ?_
           refine XL_nil ?_
           subst ht25
           kernel_rfl
        refine V_cond rfl (fun hc26 => ?_) (fun hc26 => ?_)
        ·have h := of_true h hc26
         obtain ⟨y27, hy27, h⟩ := of_bind h
         refine V_sreg (mb 130 4722366482869645217566) [32, 90000, 90008] (s1 := ⟨.bot :: I a5 :: I b9 :: I limit3 :: .pt 32 0 :: bt 3 (Bo wasBalanced7 :: Bo wasPartitioned8 :: I length12 :: I j18.1 :: bt 60 (Bo y27.1 :: bt 57 [])), [(32, .box [.v (lsV b), .v (swV (σ 90000))]), (90000, .parr (σ 90000) 27 3 (y27.2.map c27)), (90008, .pbox (σ 90008) [.v (ownVal (σ 90000))])]⟩) ?_ ?_
         ·refine XR 3 ?_
          refine XL_cons rfl (X_callSo (l := σ 90000) (lb := σ 90008) (T0 := 27) (sz := 3) (els := j18.2.2.map c27) (cs := [.v (ownVal (σ 90000))]) (E' := [(32, .box [.v (lsV b), .v (swV (σ 90000))]), (90000, .parr (σ 90000) 27 3 (y27.2.map c27)), (90008, .pbox (σ 90008) [.v (ownVal (σ 90000))])]) [] 72 (fun σ' e1 e2 => s_sort_partialInsertionSort_func (l0 := σ 90000) hb hy27 σ' e1 e2) cf_sort_partialInsertionSort_func (by kernel_rfl) (by kernel_rfl) rfl rfl rfl rfl (by kernel_rfl) rfl (mE_cons (by kernel_rfl) (mE_cons (by kernel_rfl) mE_nil)) rfl (by kernel_rfl) rfl rfl (by kernel_rfl)) ?_
          exact XE
         refine V_cond rfl (fun hc28 => ?_) (fun hc28 => ?_)
         ·have h := of_true h hc28
          refine V_ret ?_
          obtain rfl := some_inj h
          have h := hko22
          obtain rfl := some_inj h
          have h := hko11
          obtain rfl := some_inj h
          show PostR _ _ _ _ _ _
          exact ⟨⟨.inr rfl, rfl, rfl, rfl⟩, ⟨rfl, ⟨rfl, trivial⟩⟩⟩
         ·have h := of_false h hc28
          refine V_skip ?_
          obtain rfl := some_inj h
          exact ⟨_, rfl, by rfl⟩
        ·have h := of_false h hc26
         refine V_skip ?_
         obtain rfl := some_inj h
         exact ⟨_, rfl, by rfl⟩
       rintro o22 rfl
       have h := hko22
       clear hko22
       refine V_seq ?_
       obtain ⟨b31, hb31, h⟩ := of_bind h
       refine V_sreg (mb 130 9671406556917033397653278) [32, 90000, 90008] (s1 := ⟨.bot :: I a5 :: I b9 :: I limit3 :: .pt 32 0 :: bt 3 (Bo wasBalanced7 :: Bo wasPartitioned8 :: I length12 :: I j18.1 :: bt 71 (Bo b31 :: bt 46 [])), [(32, .box [.v (lsV b), .v (swV (σ 90000))]), (90000, .parr (σ 90000) 27 3 (o22.map c27)), (90008, .pbox (σ 90008) [.v (ownVal (σ 90000))])]⟩) ?_ ?_
       ·refine XR 3 ?_
        refine XL_split (ltI 0 a5) (fun hc29 => ?_) (fun hc29 => ?_)
        ·have hb31 := of_true hb31 hc29
         obtain ⟨y30, hy30, hb31⟩ := of_bind hb31
         have hb31 := some_inj hb31
         refine XL_takeC _ rfl rfl (by kernel_rfl) hc29 (X_of_Y0 rfl (E_field (.pt 32 0) Tryz.underlying145 rfl sz63 rfl (by kernel_rfl) (by intro hh; cases hh))) ?_
         refine XL_takeC _ rfl rfl (by kernel_rfl) hc29 (X_of_Y0 rfl (Y0_load1 (c := .v (lsV b)) (cs := [.v (swV (σ 90000))]) sc63 rfl (by kernel_rfl))) ?_
         refine XL_takeC _ rfl rfl (by kernel_rfl) hc29 (X_of_Y0 rfl (E_move (I a5) rfl (by kernel_rfl))) ?_
         refine XL_takeC _ rfl rfl (by kernel_rfl) hc29 (X_of_Y0 rfl (Y0_sub64 (a := a5) (b := 1) rfl (by kernel_rfl) (by kernel_rfl))) ?_
         refine XL_takeC _ rfl rfl (by kernel_rfl) hc29 (X_of_Y0 rfl (E_move (I j18.1) rfl (by kernel_rfl))) ?_
         refine XL_takeC _ rfl rfl (by kernel_rfl) hc29 (X_of_Y1 rfl (Y1_less (l := σ 90000) (lb := σ 90008) (T0 := 27) (id := 90000) (bid := 90008) (sz := 3) (b := b) (els := o22.map c27) (i := w64 (a5 - 1)) (j := j18.1) (s_impl_sortForms_1 hy30) cf_impl_sortForms_1 rfl (by kernel_rfl) (by kernel_rfl) (by kernel_rfl) (by kernel_rfl) hb (by kernel_rfl))) ?_
         refine XL_takeC _ rfl rfl (by kernel_rfl) hc29 (X_of_Y0 rfl (Y0_not (b := y30) rfl (by kernel_rfl))) ?_
         refine XL_cons rfl (X_of_Y0 rfl (Y0_pickTe (b := ltI 0 a5) (p := !y30) rfl (by kernel_rfl) hc29 (by kernel_rfl) hb31)) ?_
         exact XE
        ·have hb31 := some_inj (of_false hb31 hc29)
         refine XL_skipT _ rfl rfl (by kernel_rfl) hc29 rfl ?_
         refine XL_skipT _ rfl rfl (by kernel_rfl) hc29 rfl ?_
         refine XL_skipT _ rfl rfl (by kernel_rfl) hc29 rfl ?_
         refine XL_skipT _ rfl rfl (by kernel_rfl) hc29 rfl ?_
         refine XL_skipT _ rfl rfl (by kernel_rfl) hc29 rfl ?_
         refine XL_skipT _ rfl rfl (by kernel_rfl) hc29 rfl ?_
         refine XL_skipT _ rfl rfl (by kernel_rfl) hc29 rfl ?_
         refine XL_cons rfl (X_of_Y0 rfl (Y0_pickFe (b := ltI 0 a5) (p := false) rfl (by kernel_rfl) hc29 (by kernel_rfl) hb31)) ?_
         exact XE
       refine V_cond rfl (fun hc32 => ?_) (fun hc32 => ?_)
       ·have h := of_true h hc32
        obtain ⟨y33, hy33, h⟩ := of_bind h
        refine V_sreg (mb 130 8988) [32, 90000, 90008] (s1 := ⟨.bot :: .bot :: I b9 :: I limit3 :: .pt 32 0 :: bt 3 (Bo wasBalanced7 :: Bo wasPartitioned8 :: bt 3 (I y33.1 :: bt 116 [])), [(32, .box [.v (lsV b), .v (swV (σ 90000))]), (90000, .parr (σ 90000) 27 3 (y33.2.map c27)), (90008, .pbox (σ 90008) [.v (ownVal (σ 90000))])]⟩) ?_ ?_
        ·refine XR 4 ?_
         refine XL_cons rfl (X_callSo (l := σ 90000) (lb := σ 90008) (T0 := 27) (sz := 3) (els := o22.map c27) (cs := [.v (ownVal (σ 90000))]) (E' := [(32, .box [.v (lsV b), .v (swV (σ 90000))]), (90000, .parr (σ 90000) 27 3 (y33.2.map c27)), (90008, .pbox (σ 90008) [.v (ownVal (σ 90000))])]) [] 88 (fun σ' e1 e2 => s_sort_partitionEqual_func (l0 := σ 90000) hb hy33 σ' e1 e2) cf_sort_partitionEqual_func (by kernel_rfl) (by kernel_rfl) rfl rfl rfl rfl (by kernel_rfl) rfl (mE_cons (by kernel_rfl) (mE_cons (by kernel_rfl) mE_nil)) rfl (by kernel_rfl) rfl rfl (by kernel_rfl)) ?_
         exact XE
        refine V_e (mb 130 798) [32, 90000, 90008] (s1 := ⟨.bot :: I y33.1 :: I b9 :: I limit3 :: .pt 32 0 :: bt 3 (Bo wasBalanced7 :: Bo wasPartitioned8 :: bt 120 []), [(32, .box [.v (lsV b), .v (swV (σ 90000))]), (90000, .parr (σ 90000) 27 3 (y33.2.map c27)), (90008, .pbox (σ 90008) [.v (ownVal (σ 90000))])]⟩) ?_
        refine V_exit ?_
        exact ⟨n, Nat.lt_succ_self n, _, _, _, _, _,  by rfl, h⟩
       ·have h := of_false h hc32
        refine V_skip ?_
        show V _ _ _ _
        obtain ⟨y34, hy34, h⟩ := of_bind h
        refine V_sreg (mb 130 50206) [32, 90000, 90008] (s1 := ⟨.bot :: I a5 :: I b9 :: I limit3 :: .pt 32 0 :: bt 5 (I length12 :: bt 3 (I y34.1 :: Bo y34.2.1 :: bt 114 [])), [(32, .box [.v (lsV b), .v (swV (σ 90000))]), (90000, .parr (σ 90000) 27 3 (y34.2.2.map c27)), (90008, .pbox (σ 90008) [.v (ownVal (σ 90000))])]⟩) ?_ ?_
        ·refine XR 4 ?_
         refine XL_cons rfl (X_callSo (l := σ 90000) (lb := σ 90008) (T0 := 27) (sz := 3) (els := o22.map c27) (cs := [.v (ownVal (σ 90000))]) (E' := [(32, .box [.v (lsV b), .v (swV (σ 90000))]), (90000, .parr (σ 90000) 27 3 (y34.2.2.map c27)), (90008, .pbox (σ 90008) [.v (ownVal (σ 90000))])]) [] 95 (fun σ' e1 e2 => s_sort_partition_func (l0 := σ 90000) hb hy34 σ' e1 e2) cf_sort_partition_func (by kernel_rfl) (by kernel_rfl) rfl rfl rfl rfl (by kernel_rfl) rfl (mE_cons (by kernel_rfl) (mE_cons (by kernel_rfl) mE_nil)) rfl (by kernel_rfl) rfl rfl (by kernel_rfl)) ?_
         exact XE
        refine V_e (mb 130 17950) [32, 90000, 90008] (s1 := ⟨.bot :: I a5 :: I b9 :: I limit3 :: .pt 32 0 :: bt 4 (Bo y34.2.1 :: I length12 :: bt 3 (I y34.1 :: bt 115 [])), [(32, .box [.v (lsV b), .v (swV (σ 90000))]), (90000, .parr (σ 90000) 27 3 (y34.2.2.map c27)), (90008, .pbox (σ 90008) [.v (ownVal (σ 90000))])]⟩) ?_
        obtain ⟨leftLen35, hleftLen35, h⟩ := of_sI h
        obtain ⟨rightLen36, hrightLen36, h⟩ := of_sI h
        refine V_sreg (mb 130 214558) [32, 90000, 90008] (s1 := ⟨.bot :: I a5 :: I b9 :: I limit3 :: .pt 32 0 :: bt 4 (Bo y34.2.1 :: I length12 :: bt 3 (I y34.1 :: .bot :: I leftLen35 :: I rightLen36 :: bt 112 [])), [(32, .box [.v (lsV b), .v (swV (σ 90000))]), (90000, .parr (σ 90000) 27 3 (y34.2.2.map c27)), (90008, .pbox (σ 90008) [.v (ownVal (σ 90000))])]⟩) ?_ ?_
        ·refine XR 8 ?_
         refine XL_nil ?_
         subst hleftLen35 hrightLen36
         kernel_rfl
        obtain ⟨balanceThreshold37, hbalanceThreshold37, h⟩ := of_sI h
        refine V_sreg (mb 130 475678) [32, 90000, 90008] (s1 := ⟨.bot :: I a5 :: I b9 :: I limit3 :: .pt 32 0 :: bt 4 (Bo y34.2.1 :: bt 4 (I y34.1 :: .bot :: I leftLen35 :: I rightLen36 :: I balanceThreshold37 :: bt 111 [])), [(32, .box [.v (lsV b), .v (swV (σ 90000))]), (90000, .parr (σ 90000) 27 3 (y34.2.2.map c27)), (90008, .pbox (σ 90008) [.v (ownVal (σ 90000))])]⟩) ?_ ?_
        ·refine XR 1 ?_
         refine L0 rfl rfl (Y0_quo64 (a := length12) (b := 8) rfl (by kernel_rfl) (by kernel_rfl) (by decide)) ?_
         refine XR 1 ?_
         refine XL_nil ?_
         subst hbalanceThreshold37
         kernel_rfl
        refine V_e (mb 130 649037107316853453566312041628190) [32, 90000, 90008] (s1 := ⟨.bot :: I a5 :: I b9 :: I limit3 :: .pt 32 0 :: bt 4 (Bo y34.2.1 :: bt 4 (I y34.1 :: .bot :: I leftLen35 :: I rightLen36 :: I balanceThreshold37 :: bt 90 (Bo (ltI leftLen35 rightLen36) :: bt 20 []))), [(32, .box [.v (lsV b), .v (swV (σ 90000))]), (90000, .parr (σ 90000) 27 3 (y34.2.2.map c27)), (90008, .pbox (σ 90008) [.v (ownVal (σ 90000))])]⟩) ?_
        refine V_cond rfl (fun hc38 => ?_) (fun hc38 => ?_)
        ·have h := of_true h hc38
         refine V_e (mb 130 17182) [32, 90000, 90008] (s1 := ⟨.bot :: I a5 :: I b9 :: I limit3 :: .pt 32 0 :: bt 3 (Bo (leI balanceThreshold37 leftLen35) :: Bo y34.2.1 :: bt 4 (I y34.1 :: bt 115 [])), [(32, .box [.v (lsV b), .v (swV (σ 90000))]), (90000, .parr (σ 90000) 27 3 (y34.2.2.map c27)), (90008, .pbox (σ 90008) [.v (ownVal (σ 90000))])]⟩) ?_
         obtain ⟨y39, hy39, h⟩ := of_bind h
         refine V_sreg (mb 130 17180) [32, 90000, 90008] (s1 := ⟨.bot :: .bot :: I b9 :: I limit3 :: .pt 32 0 :: bt 3 (Bo (leI balanceThreshold37 leftLen35) :: Bo y34.2.1 :: bt 4 (I y34.1 :: bt 115 [])), [(32, .box [.v (lsV b), .v (swV (σ 90000))]), (90000, .parr (σ 90000) 27 3 (y39.map c27)), (90008, .pbox (σ 90008) [.v (ownVal (σ 90000))])]⟩) ?_ ?_
         ·refine XR 4 ?_
          refine XL_cons rfl (X_callSo (l := σ 90000) (lb := σ 90008) (T0 := 27) (sz := 3) (els := y34.2.2.map c27) (cs := [.v (ownVal (σ 90000))]) (E' := [(32, .box [.v (lsV b), .v (swV (σ 90000))]), (90000, .parr (σ 90000) 27 3 (y39.map c27)), (90008, .pbox (σ 90008) [.v (ownVal (σ 90000))])]) [] 117 (fun σ' e1 e2 => s_sort_pdqsort_func_0 (l0 := σ 90000) hb hy39 σ' e1 e2) cf_sort_pdqsort_func_0 (by kernel_rfl) (by kernel_rfl) rfl rfl rfl rfl (by kernel_rfl) rfl (mE_cons (by kernel_rfl) (mE_cons (by kernel_rfl) mE_nil)) rfl (by kernel_rfl) rfl rfl (by kernel_rfl)) ?_
          exact XE
         obtain ⟨a40, ha40, h⟩ := of_sI h
         refine V_reg (mb 130 798) [32, 90000, 90008] (s1 := ⟨.bot :: I a40 :: I b9 :: I limit3 :: .pt 32 0 :: bt 3 (Bo (leI balanceThreshold37 leftLen35) :: Bo y34.2.1 :: bt 120 []), [(32, .box [.v (lsV b), .v (swV (σ 90000))]), (90000, .parr (σ 90000) 27 3 (y39.map c27)), (90008, .pbox (σ 90008) [.v (ownVal (σ 90000))])]⟩) ?_ ?_
         ·refine XR 3 ?_
          refine XL_nil ?_
          subst ha40
          kernel_rfl
         exact ⟨n, Nat.lt_succ_self n, _, _, _, _, _,  by rfl, h⟩
        ·have h := of_false h hc38
         refine V_e (mb 130 17182) [32, 90000, 90008] (s1 := ⟨.bot :: I a5 :: I b9 :: I limit3 :: .pt 32 0 :: bt 3 (Bo (leI balanceThreshold37 rightLen36) :: Bo y34.2.1 :: bt 4 (I y34.1 :: bt 115 [])), [(32, .box [.v (lsV b), .v (swV (σ 90000))]), (90000, .parr (σ 90000) 27 3 (y34.2.2.map c27)), (90008, .pbox (σ 90008) [.v (ownVal (σ 90000))])]⟩) ?_
         obtain ⟨y41, hy41, h⟩ := of_bind h
         refine V_sreg (mb 130 17178) [32, 90000, 90008] (s1 := ⟨.bot :: I a5 :: .bot :: I limit3 :: .pt 32 0 :: bt 3 (Bo (leI balanceThreshold37 rightLen36) :: Bo y34.2.1 :: bt 4 (I y34.1 :: bt 115 [])), [(32, .box [.v (lsV b), .v (swV (σ 90000))]), (90000, .parr (σ 90000) 27 3 (y41.map c27)), (90008, .pbox (σ 90008) [.v (ownVal (σ 90000))])]⟩) ?_ ?_
         ·refine XR 5 ?_
          refine XL_cons rfl (X_callSo (l := σ 90000) (lb := σ 90008) (T0 := 27) (sz := 3) (els := y34.2.2.map c27) (cs := [.v (ownVal (σ 90000))]) (E' := [(32, .box [.v (lsV b), .v (swV (σ 90000))]), (90000, .parr (σ 90000) 27 3 (y41.map c27)), (90008, .pbox (σ 90008) [.v (ownVal (σ 90000))])]) [] 128 (fun σ' e1 e2 => s_sort_pdqsort_func_0 (l0 := σ 90000) hb hy41 σ' e1 e2) cf_sort_pdqsort_func_0 (by kernel_rfl) (by kernel_rfl) rfl rfl rfl rfl (by kernel_rfl) rfl (mE_cons (by kernel_rfl) (mE_cons (by kernel_rfl) mE_nil)) rfl (by kernel_rfl) rfl rfl (by kernel_rfl)) ?_
          exact XE
         refine V_reg (mb 130 798) [32, 90000, 90008] (s1 := ⟨.bot :: I a5 :: I y34.1 :: I limit3 :: .pt 32 0 :: bt 3 (Bo (leI balanceThreshold37 rightLen36) :: Bo y34.2.1 :: bt 120 []), [(32, .box [.v (lsV b), .v (swV (σ 90000))]), (90000, .parr (σ 90000) 27 3 (y41.map c27)), (90008, .pbox (σ 90008) [.v (ownVal (σ 90000))])]⟩) ?_ ?_
         ·exact XE
         exact ⟨n, Nat.lt_succ_self n, _, _, _, _, _,  by rfl, h⟩
  rintro o11 rfl
  cases hko11
theorem cf_sort_insertionSort_func_t : ∀ args w, (callFunc 200 args).run Tryz.prog w = .ok (.enter 200 args) w := run_callFunc Tryz.func200 (by kernel_rfl) (by kernel_rfl)
theorem s_sort_insertionSort_func_t {xs0 : List ((Int × Int × Int))} {a1 : Int} {b2 : Int} {l0 lb : Loc} {b : Nat} {sw : Value} (hb : lb.blk = some b) {r : List ((Int × Int × Int))} (h : r_sort_insertionSort_func_t xs0 a1 b2 = some r) : ∀ σ : Nat → Loc, σ 90000 = l0 → σ 90008 = lb → CallRs Tryz.prog 200 σ [.ag [.v (lsV b), .v (sw)], I a1, I b2] [(90000, .arr 27 3 (xs0.map c27)), (90008, .box [.v (ownVal l0)])] (.tn) [] [(90000, .arr 27 3 (r.map c27)), (90008, .box [.v (ownVal l0)])] := by
  intro σ e1 e2
  subst e1 e2
  refine CallRs_of_text (rs := []) (vs := []) Tryz.func200 rfl rfl FitsL.nil (by decide) 35 rfl rfl ?_
  unfold r_sort_insertionSort_func_t at h
  show V _ _ ⟨.ag [.v (lsV b), .v (sw)] :: I a1 :: I b2 :: bt 32 [], [(90000, .parr (σ 90000) 27 3 (xs0.map c27)), (90008, .pbox (σ 90008) [.v (ownVal (σ 90000))])]⟩ _
  refine V_e (mb 35 14) [24, 90000, 90008] (s1 := ⟨.bot :: I a1 :: I b2 :: .pt 24 0 :: bt 31 [], [(24, .box [.v (lsV b), .v (sw)]), (90000, .parr (σ 90000) 27 3 (xs0.map c27)), (90008, .pbox (σ 90008) [.v (ownVal (σ 90000))])]⟩) ?_
  obtain ⟨i4, hi4, h⟩ := of_sI h
  refine V_sreg (mb 35 78) [24, 90000, 90008] (s1 := ⟨.bot :: I a1 :: I b2 :: .pt 24 0 :: .bot :: .bot :: I i4 :: bt 28 [], [(24, .box [.v (lsV b), .v (sw)]), (90000, .parr (σ 90000) 27 3 (xs0.map c27)), (90008, .pbox (σ 90008) [.v (ownVal (σ 90000))])]⟩) ?_ ?_
  ·refine XR 3 ?_
   refine XL_nil ?_
   subst hi4
   kernel_rfl
  obtain ⟨o6, hLo6, h⟩ := of_bind h
  refine V_toK (mb 35 0) [90000, 90008] (s1 := ⟨bt 35 [], [(90000, .parr (σ 90000) 27 3 (xs0.map c27)), (90008, .pbox (σ 90008) [.v (ownVal (σ 90000))])]⟩) ?_ ?_
  ·clear h
   refine V_block (V_loop (fun n s => ∃ (_ : True), s.keep (mb 35 78) [24, 90000, 90008] = (⟨.bot :: I a1 :: I b2 :: .pt 24 0 :: .bot :: .bot :: I i4 :: bt 28 [], [(24, .box [.v (lsV b), .v (sw)]), (90000, .parr (σ 90000) 27 3 (xs0.map c27)), (90008, .pbox (σ 90008) [.v (ownVal (σ 90000))])]⟩ : St) ∧ r_sort_insertionSort_func_t_L5 a1 b2 i4 xs0 n  = some o6) FU ⟨trivial,  by rfl, hLo6⟩ ?_)
   clear hLo6
   rintro n s ⟨_, hs, h⟩
   refine V_keep _ _ hs ?_
   clear hs
   cases n with
   | zero => cases h
   | succ n =>
    rw [r_sort_insertionSort_func_t_L5] at h
    refine V_seq ?_
    refine V_e (mb 35 4174) [24, 90000, 90008] (s1 := ⟨.bot :: I a1 :: I b2 :: .pt 24 0 :: .bot :: .bot :: I i4 :: bt 5 (Bo (ltI i4 b2) :: bt 22 []), [(24, .box [.v (lsV b), .v (sw)]), (90000, .parr (σ 90000) 27 3 (xs0.map c27)), (90008, .pbox (σ 90008) [.v (ownVal (σ 90000))])]⟩) ?_
    refine V_cond rfl (fun hc7 => ?_) (fun hc7 => ?_)
    ·have h := of_true h hc7
     cases h
    ·have h := of_false h hc7
     refine V_exit ?_
     obtain rfl := some_inj h
     show St.keep _ _ _ = _
     rfl
  obtain rfl := some_inj h
  show PostR _ _ _ _ _ _
  exact ⟨⟨.inl rfl, rfl, rfl, rfl⟩, ⟨rfl, ⟨rfl, trivial⟩⟩⟩
theorem cf_sort_pdqsort_func_t : ∀ args w, (callFunc 168 args).run Tryz.prog w = .ok (.enter 168 args) w := run_callFunc Tryz.func168 (by kernel_rfl) (by kernel_rfl)
theorem s_sort_pdqsort_func_t {xs0 : List ((Int × Int × Int))} {a1 : Int} {b2 : Int} {limit3 : Int} {l0 lb : Loc} {b : Nat} {sw : Value} (hb : lb.blk = some b) {r : List ((Int × Int × Int))} (h : r_sort_pdqsort_func_t xs0 a1 b2 limit3 = some r) : ∀ σ : Nat → Loc, σ 90000 = l0 → σ 90008 = lb → CallRs Tryz.prog 168 σ [.ag [.v (lsV b), .v (sw)], I a1, I b2, I limit3] [(90000, .arr 27 3 (xs0.map c27)), (90008, .box [.v (ownVal l0)])] (.tn) [] [(90000, .arr 27 3 (r.map c27)), (90008, .box [.v (ownVal l0)])] := by
  intro σ e1 e2
  subst e1 e2
  refine CallRs_of_text (rs := []) (vs := []) Tryz.func168 rfl rfl FitsL.nil (by decide) 130 rfl rfl ?_
  unfold r_sort_pdqsort_func_t at h
  show V _ _ ⟨.ag [.v (lsV b), .v (sw)] :: I a1 :: I b2 :: I limit3 :: bt 126 [], [(90000, .parr (σ 90000) 27 3 (xs0.map c27)), (90008, .pbox (σ 90008) [.v (ownVal (σ 90000))])]⟩ _
  refine V_e (mb 130 30) [32, 90000, 90008] (s1 := ⟨.bot :: I a1 :: I b2 :: I limit3 :: .pt 32 0 :: bt 125 [], [(32, .box [.v (lsV b), .v (sw)]), (90000, .parr (σ 90000) 27 3 (xs0.map c27)), (90008, .pbox (σ 90008) [.v (ownVal (σ 90000))])]⟩) ?_
  refine V_e (mb 130 286) [32, 90000, 90008] (s1 := ⟨.bot :: I a1 :: I b2 :: I limit3 :: .pt 32 0 :: bt 3 (Bo true :: bt 121 []), [(32, .box [.v (lsV b), .v (sw)]), (90000, .parr (σ 90000) 27 3 (xs0.map c27)), (90008, .pbox (σ 90008) [.v (ownVal (σ 90000))])]⟩) ?_
  refine V_e (mb 130 798) [32, 90000, 90008] (s1 := ⟨.bot :: I a1 :: I b2 :: I limit3 :: .pt 32 0 :: bt 3 (Bo true :: Bo true :: bt 120 []), [(32, .box [.v (lsV b), .v (sw)]), (90000, .parr (σ 90000) 27 3 (xs0.map c27)), (90008, .pbox (σ 90008) [.v (ownVal (σ 90000))])]⟩) ?_
  obtain ⟨qo6, hLo6, hko6⟩ := of_bind h
  refine V_toS (q := qo6) (S := fun _ => (⟨[], []⟩ : St)) [] [] ?_ ?_
  ·refine V_block (V_loop (fun n s => ∃ (_ : True), s.keep (mb 130 798) [32, 90000, 90008] = (⟨.bot :: I a1 :: I b2 :: I limit3 :: .pt 32 0 :: bt 3 (Bo true :: Bo true :: bt 120 []), [(32, .box [.v (lsV b), .v (sw)]), (90000, .parr (σ 90000) 27 3 (xs0.map c27)), (90008, .pbox (σ 90008) [.v (ownVal (σ 90000))])]⟩ : St) ∧ r_sort_pdqsort_func_t_L5 a1 b2 limit3 xs0 n  = some qo6) FU ⟨trivial,  by rfl, hLo6⟩ ?_)
   clear hLo6
   rintro n s ⟨_, hs, h⟩
   refine V_keep _ _ hs ?_
   clear hs
   cases n with
   | zero => cases h
   | succ n =>
    rw [r_sort_pdqsort_func_t_L5] at h
    refine V_block ?_
    obtain ⟨length7, hlength7, h⟩ := of_sI h
    refine V_sreg (mb 130 1822) [32, 90000, 90008] (s1 := ⟨.bot :: I a1 :: I b2 :: I limit3 :: .pt 32 0 :: bt 3 (Bo true :: Bo true :: I length7 :: bt 119 []), [(32, .box [.v (lsV b), .v (sw)]), (90000, .parr (σ 90000) 27 3 (xs0.map c27)), (90008, .pbox (σ 90008) [.v (ownVal (σ 90000))])]⟩) ?_ ?_
    ·refine XR 4 ?_
     refine XL_nil ?_
     subst hlength7
     kernel_rfl
    refine V_seq ?_
    refine V_e (mb 130 8390430) [32, 90000, 90008] (s1 := ⟨.bot :: I a1 :: I b2 :: I limit3 :: .pt 32 0 :: bt 3 (Bo true :: Bo true :: I length7 :: bt 12 (Bo (leI length7 12) :: bt 106 [])), [(32, .box [.v (lsV b), .v (sw)]), (90000, .parr (σ 90000) 27 3 (xs0.map c27)), (90008, .pbox (σ 90008) [.v (ownVal (σ 90000))])]⟩) ?_
    refine V_cond rfl (fun hc8 => ?_) (fun hc8 => ?_)
    ·have h := of_true h hc8
     obtain ⟨y9, hy9, h⟩ := of_bind h
     refine V_sreg (mb 130 0) [90000, 90008] (s1 := ⟨bt 130 [], [(90000, .parr (σ 90000) 27 3 (y9.map c27)), (90008, .pbox (σ 90008) [.v (ownVal (σ 90000))])]⟩) ?_ ?_
     ·refine XR 3 ?_
      refine XL_cons rfl (X_callSo (l := σ 90000) (lb := σ 90008) (T0 := 27) (sz := 3) (els := xs0.map c27) (cs := [.v (ownVal (σ 90000))]) (E' := [(32, .box [.v (lsV b), .v (sw)]), (90000, .parr (σ 90000) 27 3 (y9.map c27)), (90008, .pbox (σ 90008) [.v (ownVal (σ 90000))])]) [] 27 (fun σ' e1 e2 => s_sort_insertionSort_func_t (l0 := σ 90000) (sw := sw) hb hy9 σ' e1 e2) cf_sort_insertionSort_func_t (by kernel_rfl) (by kernel_rfl) rfl rfl rfl rfl (by kernel_rfl) rfl (mE_cons (by kernel_rfl) (mE_cons (by kernel_rfl) mE_nil)) rfl (by kernel_rfl) rfl rfl (by kernel_rfl)) ?_
      exact XE
     refine V_ret ?_
     obtain rfl := some_inj h
     have h := hko6
     obtain rfl := some_inj h
     show PostR _ _ _ _ _ _
     exact ⟨⟨.inr rfl, rfl, rfl, rfl⟩, ⟨rfl, ⟨rfl, trivial⟩⟩⟩
    ·have h := of_false h hc8
     refine V_skip ?_
     show V _ _ _ _
     refine V_seq ?_
     refine V_e (mb 130 536872734) [32, 90000, 90008] (s1 := ⟨.bot :: I a1 :: I b2 :: I limit3 :: .pt 32 0 :: bt 3 (Bo true :: Bo true :: I length7 :: bt 18 (Bo (eqI limit3 0) :: bt 100 [])), [(32, .box [.v (lsV b), .v (sw)]), (90000, .parr (σ 90000) 27 3 (xs0.map c27)), (90008, .pbox (σ 90008) [.v (ownVal (σ 90000))])]⟩) ?_
     refine V_cond rfl (fun hc10 => ?_) (fun hc10 => ?_)
     ·have h := of_true h hc10
      cases h
     ·have h := of_false h hc10
      cases h
  rintro o6 rfl
  cases hko6
end Go.Proofs.YtnheekadeflecaaGreat
namespace Go.Proofs.YtnheekadeflecaaGreat
open Go.Shelf Go.RowKit Go.Lib
set_option maxRecDepth 100000
noncomputable def soT : TypeInfo := (Tryz.prog.info? 24).get (by kernel_rfl)
noncomputable def soE : TypeInfo := (Tryz.prog.info? 27).get (by kernel_rfl)
theorem soK (n : Nat) (h2 : 2 ≤ n) : Lib.swapperK n soE 25 = 9 := by
  have a : soE.hasPointers = false := by kernel_rfl
  have b : soE.bytes = 24 := by kernel_rfl
  have c : (n == 0) = false := by simp; omega
  have d : (n == 1) = false := by simp; omega
  simp [Lib.swapperK, a, b, c, d]
theorem alloc_heap (w : World) (b) (k : Nat) (hk : k < w.heap.size) : (w.alloc b).heap[k]? = w.heap[k]? := by
  show (w.heap.push b)[k]? = _
  rw [Array.getElem?_push_lt hk, Array.getElem?_eq_getElem hk]
/-- sort.Slice at a row of two elements or more. -/
theorem slice_big {xs r : List (Int × Int × Int)} (h2 : 2 ≤ xs.length) (hb62 : xs.length < 4611686018427387904) (h : r_sort_pdqsort_func xs 0 xs.length (Lib.bitLen xs.length) = some r) {ok : Nat → Prop} {w : World} {l : Loc} {b : Nat} (hok : ∀ g, ok g → g < w.heap.size) (hl : Lb ok w)
    (he : EntOk ok w l (.arr 27 3 (xs.map c27))) (hbx : EntOk ok w ⟨some b, 1, 1⟩ (.box [.v (ownVal l)])) (hbk : ∀ g, l.blk = some g → ¬ ok g ∧ g < w.heap.size ∧ g ≠ b) (hbo : ¬ ok b) (hbs : b < w.heap.size) :
    Calls Tryz.prog 115 #[.iface 24 (ownVal l), lsV b] w fun e w' => e = .returned (.tuple #[]) ∧ ∃ ok', (∀ g, ok g → ok' g) ∧ (∀ g, ok' g → ok g ∨ w.heap.size ≤ g) ∧ (∀ g, ok' g → g < w'.heap.size) ∧ BelowX ⟨w.heap.size, fun g => l.blk = some g ∨ g = b⟩ w w' ∧ EntOk ok' w' l (.arr 27 3 (r.map c27)) := by
  have hn : l.n = xs.length := by have := he.2.1; simpa using this
  have h3 := Any.sort_Slice_of_pdq Tryz.sl6 24 27 soT soE (by kernel_rfl) (by kernel_rfl) (by kernel_rfl) (by kernel_rfl) 25 (fun _ => by kernel_rfl) (l.blk.map fun g => ⟨g, 0, none⟩) l.n l.cap (by omega) 197 (by rw [soK _ (by omega)]; kernel_rfl) (.func 116) #[] #[.pointer (some ⟨b, 0, none⟩)] w
    (fun w' => ∃ ok', (∀ g, ok g → ok' g) ∧ (∀ g, ok' g → ok g ∨ w.heap.size ≤ g) ∧ (∀ g, ok' g → g < w'.heap.size) ∧ BelowX ⟨w.heap.size, fun g => l.blk = some g ∨ g = b⟩ w w' ∧ EntOk ok' w' l (.arr 27 3 (r.map c27)))
  refine h3 ?_
  clear h3
  change Calls Tryz.prog 168 _ _ _
  unfold sliceBound
  rw [if_neg (by rw [soK _ (by omega)]; omega)]
  generalize hw3 : sliceWorld Tryz.prog Tryz.sl6_ren 24 (l.blk.map fun g => ⟨g, 0, none⟩) l.n l.cap w = w3
  have hsz : w3.heap.size = w.heap.size + 2 := by subst hw3; show ((w.heap.push _).push _).size = _; simp
  have hm : ∀ k, k < w.heap.size → w3.heap[k]? = w.heap[k]? := fun k hk => by
    subst hw3
    unfold sliceWorld
    rw [alloc_heap _ _ _ (by show _ < (w.heap.push _).size; simp; omega), alloc_heap _ _ _ hk]
  have hbe : BelowX ⟨w.heap.size, fun g => l.blk = some g ∨ g = b⟩ w w3 := by
    refine ⟨?_, ?_, ?_, by omega, fun k hk _ => hm k hk⟩ <;> (subst hw3; rfl)
  have hs := s_sort_pdqsort_func (xs0 := xs) (l0 := l) (lb := ⟨some b, 1, 1⟩) (b := b) rfl h (fun k => if k = 90000 then l else ⟨some b, 1, 1⟩) rfl rfl ok w3 [.agg #[lsV b, swV l], .int .i64 0, .int .i64 l.n, .int .i64 (Lib.bitLen l.n)] (fun g hg => by have := hok g hg; omega) (hl.mono (fun _ h => h) fun g hg => hm g (hok g hg)) ?_ ?_
  · refine hs.mono ?_
    rintro e w' ⟨v, ok', σ', he', hN, hE⟩
    obtain ⟨vs, hv, hv2⟩ := hN.rel
    have hv3 : v = .tuple #[] := by
      cases hq : vs.toList with
      | nil => rw [hv]; congr 1; apply Array.ext'; rw [hq]
      | cons y ys => rw [hq] at hv2; cases hv2
    refine ⟨by rw [he', hv3], ok', hN.okM, fun g hg => ?_, hN.okL, ?_, ?_⟩
    · rcases hN.okN g hg with h | h
      · exact .inl h
      · exact .inr (by omega)
    · refine hbe.trans ⟨hN.below.os, hN.below.tape, hN.below.output, hN.below.size, fun k hk hx => hN.below.block k (by show k < w3.heap.size; have : k < w.heap.size := hk; omega) ?_⟩
      rintro ⟨id, e, h1, h2⟩
      refine hx ?_
      dsimp only at h2
      split at h2
      · exact .inl h2
      · exact .inr (Option.some.inj h2).symm
    · exact hE 90000 _ rfl
  · refine .cons ?_ (.cons (Rd.v _ rfl) (.cons ?_ (.cons ?_ .nil)))
    · exact ⟨#[lsV b, swV l], rfl, .cons (Rd.v _ rfl) (.cons (Rd.v _ rfl) .nil)⟩
    · rw [hn]; exact Rd.v _ rfl
    · rw [hn]; exact Rd.v _ rfl
  · have look : ∀ id e, List.lookup id [(90000, Ent.arr 27 3 (xs.map c27)), (90008, .box [.v (ownVal l)])] = some e → (id = 90000 ∧ e = .arr 27 3 (xs.map c27)) ∨ (id = 90008 ∧ e = .box [.v (ownVal l)]) := by
      intro id e hq
      simp only [List.lookup] at hq
      split at hq
      · rename_i hq2; exact .inl ⟨by simpa using hq2, (Option.some.inj hq).symm⟩
      · split at hq
        · rename_i hq2; exact .inr ⟨by simpa using hq2, (Option.some.inj hq).symm⟩
        · cases hq
    refine ⟨fun id e hq => ?_, fun id e g hq hg => ?_, fun i j e f g hi hj h1 h2 => ?_⟩
    · rcases look id e hq with ⟨rfl, rfl⟩ | ⟨rfl, rfl⟩
      · exact ⟨he.mono (fun _ h => h) (fun g hg => hm g (hok g hg)) (fun g hg => hm g (hbk g hg).2.1), rfl⟩
      · exact ⟨hbx.mono (fun _ h => h) (fun g hg => hm g (hok g hg)) (fun g hg => by cases hg; exact hm _ hbs), rfl⟩
    · rcases look id e hq with ⟨rfl, rfl⟩ | ⟨rfl, rfl⟩
      · have := hbk g hg; exact ⟨this.1, by omega⟩
      · cases hg; exact ⟨hbo, by omega⟩
    · rcases look i e hi with ⟨rfl, rfl⟩ | ⟨rfl, rfl⟩ <;> rcases look j f hj with ⟨rfl, rfl⟩ | ⟨rfl, rfl⟩
      · rfl
      · cases h2; exact absurd rfl (hbk _ h1).2.2
      · cases h1; exact absurd rfl (hbk _ h2).2.2
      · rfl
theorem soK1 (n : Nat) (h : n ≤ 1) : Lib.swapperK n soE 25 = n + 1 := by
  rcases Nat.eq_zero_or_pos n with h | h
  · subst h; simp [Lib.swapperK]
  · obtain rfl : n = 1 := by omega
    simp [Lib.swapperK]
/-- sort.Slice at a row of no element or one. -/
theorem slice_tiny {xs r : List (Int × Int × Int)} (h2 : xs.length ≤ 1) (h : r_sort_pdqsort_func_t xs 0 xs.length (Lib.bitLen xs.length) = some r) {ok : Nat → Prop} {w : World} {l : Loc} {b : Nat} (hok : ∀ g, ok g → g < w.heap.size) (hl : Lb ok w)
    (he : EntOk ok w l (.arr 27 3 (xs.map c27))) (hbx : EntOk ok w ⟨some b, 1, 1⟩ (.box [.v (ownVal l)])) (hbk : ∀ g, l.blk = some g → ¬ ok g ∧ g < w.heap.size ∧ g ≠ b) (hbo : ¬ ok b) (hbs : b < w.heap.size) :
    Calls Tryz.prog 115 #[.iface 24 (ownVal l), lsV b] w fun e w' => e = .returned (.tuple #[]) ∧ ∃ ok', (∀ g, ok g → ok' g) ∧ (∀ g, ok' g → ok g ∨ w.heap.size ≤ g) ∧ (∀ g, ok' g → g < w'.heap.size) ∧ BelowX ⟨w.heap.size, fun g => l.blk = some g ∨ g = b⟩ w w' ∧ EntOk ok' w' l (.arr 27 3 (r.map c27)) := by
  have hn : l.n = xs.length := by have := he.2.1; simpa using this
  have h3 := Any.sort_Slice_of_pdq Tryz.sl6 24 27 soT soE (by kernel_rfl) (by kernel_rfl) (by kernel_rfl) (by kernel_rfl) 25 (fun _ => by kernel_rfl) (l.blk.map fun g => ⟨g, 0, none⟩) l.n l.cap (by omega) (189 + xs.length) (by rw [hn, soK1 _ h2]; rcases Nat.eq_zero_or_pos xs.length with h0 | h0; rw [h0]; kernel_rfl; rw [show xs.length = 1 by omega]; kernel_rfl) (.func 116) #[] #[.pointer (some ⟨b, 0, none⟩)] w
    (fun w' => ∃ ok', (∀ g, ok g → ok' g) ∧ (∀ g, ok' g → ok g ∨ w.heap.size ≤ g) ∧ (∀ g, ok' g → g < w'.heap.size) ∧ BelowX ⟨w.heap.size, fun g => l.blk = some g ∨ g = b⟩ w w' ∧ EntOk ok' w' l (.arr 27 3 (r.map c27)))
  refine h3 ?_
  clear h3
  change Calls Tryz.prog 168 _ _ _
  unfold sliceBound
  rw [if_pos (by rw [hn, soK1 _ h2]; omega)]
  generalize hw3 : sliceWorld Tryz.prog Tryz.sl6_ren 24 (l.blk.map fun g => ⟨g, 0, none⟩) l.n l.cap w = w3
  have hsz : w3.heap.size = w.heap.size + 2 := by subst hw3; show ((w.heap.push _).push _).size = _; simp
  have hm : ∀ k, k < w.heap.size → w3.heap[k]? = w.heap[k]? := fun k hk => by
    subst hw3
    unfold sliceWorld
    rw [alloc_heap _ _ _ (by show _ < (w.heap.push _).size; simp; omega), alloc_heap _ _ _ hk]
  have hbe : BelowX ⟨w.heap.size, fun g => l.blk = some g ∨ g = b⟩ w w3 := by
    refine ⟨?_, ?_, ?_, by omega, fun k hk _ => hm k hk⟩ <;> (subst hw3; rfl)
  have hs := s_sort_pdqsort_func_t (sw := .func (.func (189 + xs.length)) #[] #[]) (xs0 := xs) (l0 := l) (lb := ⟨some b, 1, 1⟩) (b := b) rfl h (fun k => if k = 90000 then l else ⟨some b, 1, 1⟩) rfl rfl ok w3 [.agg #[lsV b, .func (.func (189 + xs.length)) #[] #[]], .int .i64 0, .int .i64 l.n, .int .i64 (Lib.bitLen l.n)] (fun g hg => by have := hok g hg; omega) (hl.mono (fun _ h => h) fun g hg => hm g (hok g hg)) ?_ ?_
  · refine hs.mono ?_
    rintro e w' ⟨v, ok', σ', he', hN, hE⟩
    obtain ⟨vs, hv, hv2⟩ := hN.rel
    have hv3 : v = .tuple #[] := by
      cases hq : vs.toList with
      | nil => rw [hv]; congr 1; apply Array.ext'; rw [hq]
      | cons y ys => rw [hq] at hv2; cases hv2
    refine ⟨by rw [he', hv3], ok', hN.okM, fun g hg => ?_, hN.okL, ?_, ?_⟩
    · rcases hN.okN g hg with h | h
      · exact .inl h
      · exact .inr (by omega)
    · refine hbe.trans ⟨hN.below.os, hN.below.tape, hN.below.output, hN.below.size, fun k hk hx => hN.below.block k (by show k < w3.heap.size; have : k < w.heap.size := hk; omega) ?_⟩
      rintro ⟨id, e, h1, h2⟩
      refine hx ?_
      dsimp only at h2
      split at h2
      · exact .inl h2
      · exact .inr (Option.some.inj h2).symm
    · exact hE 90000 _ rfl
  · refine .cons ?_ (.cons (Rd.v _ rfl) (.cons ?_ (.cons ?_ .nil)))
    · exact ⟨#[lsV b, .func (.func (189 + xs.length)) #[] #[]], rfl, .cons (Rd.v _ rfl) (.cons (Rd.v _ rfl) .nil)⟩
    · rw [hn]; exact Rd.v _ rfl
    · rw [hn]; exact Rd.v _ rfl
  · have look : ∀ id e, List.lookup id [(90000, Ent.arr 27 3 (xs.map c27)), (90008, .box [.v (ownVal l)])] = some e → (id = 90000 ∧ e = .arr 27 3 (xs.map c27)) ∨ (id = 90008 ∧ e = .box [.v (ownVal l)]) := by
      intro id e hq
      simp only [List.lookup] at hq
      split at hq
      · rename_i hq2; exact .inl ⟨by simpa using hq2, (Option.some.inj hq).symm⟩
      · split at hq
        · rename_i hq2; exact .inr ⟨by simpa using hq2, (Option.some.inj hq).symm⟩
        · cases hq
    refine ⟨fun id e hq => ?_, fun id e g hq hg => ?_, fun i j e f g hi hj h1 h2 => ?_⟩
    · rcases look id e hq with ⟨rfl, rfl⟩ | ⟨rfl, rfl⟩
      · exact ⟨he.mono (fun _ h => h) (fun g hg => hm g (hok g hg)) (fun g hg => hm g (hbk g hg).2.1), rfl⟩
      · exact ⟨hbx.mono (fun _ h => h) (fun g hg => hm g (hok g hg)) (fun g hg => by cases hg; exact hm _ hbs), rfl⟩
    · rcases look id e hq with ⟨rfl, rfl⟩ | ⟨rfl, rfl⟩
      · have := hbk g hg; exact ⟨this.1, by omega⟩
      · cases hg; exact ⟨hbo, by omega⟩
    · rcases look i e hi with ⟨rfl, rfl⟩ | ⟨rfl, rfl⟩ <;> rcases look j f hj with ⟨rfl, rfl⟩ | ⟨rfl, rfl⟩
      · rfl
      · cases h2; exact absurd rfl (hbk _ h1).2.2
      · cases h1; exact absurd rfl (hbk _ h2).2.2
      · rfl
set_option maxHeartbeats 2000000 in
theorem sort_enter {w : World} {p : Option Addr} {n c : Nat} {R : World → Prop} (hS : Calls Tryz.prog 115 #[.iface 24 (.slice p n c), .func (.func 116) #[] #[.pointer (some ⟨w.heap.size, 0, none⟩)]] (w.alloc (.cells #[.slice p n c] 24)) fun e w' => e = .returned (.tuple #[]) ∧ R w') :
    Calls Tryz.prog 58 #[.slice p n c] w fun e w' => e = .returned (.tuple #[]) ∧ R w' := by
  go_enter Tryz.func58, Tryz.ntmps58
  go_wp2_with (go_at_call 115; refine hS.mono ?_; rintro e w' ⟨rfl, hR⟩)
  go_end0
  exact ⟨rfl, hR⟩
theorem cf_impl_sortForms : ∀ args w, (callFunc 58 args).run Tryz.prog w = .ok (.enter 58 args) w := run_callFunc Tryz.func58 (by kernel_rfl) (by kernel_rfl)
theorem s_impl_sortForms {xs r : List (Int × Int × Int)} (h : r_impl_sortForms xs = some r) : CallR Tryz.prog 58 [.ow 80000] [(80000, .arr 27 3 (xs.map c27))] .tn [] [(80000, .arr 27 3 (r.map c27))] := by
  intro ok σ w vs hok hl hargs hheld
  generalize hL : σ 80000 = l at *
  obtain ⟨he, hpl⟩ := hheld.ent 80000 _ rfl
  rw [hL] at he
  have hbk : ∀ g, l.blk = some g → ¬ ok g ∧ g < w.heap.size := fun g hg => hheld.blk 80000 _ g rfl (by rw [hL]; exact hg)
  have hvs : vs = [ownVal l] := by
    cases hargs with
    | cons h1 h2 => cases h2; rw [show _ = ownVal (σ 80000) from h1, hL]
  subst hvs
  generalize hw1 : w.alloc (.cells #[ownVal l] 24) = w1
  have hm : ∀ k, k < w.heap.size → w1.heap[k]? = w.heap[k]? := fun k hk => by subst hw1; exact alloc_heap _ _ _ hk
  have hsz : w1.heap.size = w.heap.size + 1 := by subst hw1; show (w.heap.push _).size = _; simp
  have hS : Calls Tryz.prog 115 #[.iface 24 (ownVal l), lsV w.heap.size] w1 fun e w' => e = .returned (.tuple #[]) ∧ ∃ ok', (∀ g, ok g → ok' g) ∧ (∀ g, ok' g → ok g ∨ w1.heap.size ≤ g) ∧ (∀ g, ok' g → g < w'.heap.size) ∧ BelowX ⟨w1.heap.size, fun g => l.blk = some g ∨ g = w.heap.size⟩ w1 w' ∧ EntOk ok' w' l (.arr 27 3 (r.map c27)) := by
    have he1 : EntOk ok w1 l (.arr 27 3 (xs.map c27)) := he.mono (fun _ h => h) (fun g hg => hm g (hok g hg)) (fun g hg => hm g (hbk g hg).2)
    unfold r_impl_sortForms at h
    cases hc0 : Nat.ble 1048576 xs.length with
    | true => rw [hc0] at h; cases h
    | false =>
    rw [hc0] at h
    simp only [cond_false] at h
    have hb62 : xs.length < 4611686018427387904 := by
      rcases Nat.lt_or_ge xs.length 1048576 with h1 | h1
      · omega
      · rw [Nat.ble_eq_true_of_le h1] at hc0; cases hc0
    cases hc : Nat.ble xs.length 1 with
    | true =>
      rw [hc] at h
      refine slice_tiny (Nat.le_of_ble_eq_true hc) h (fun g hg => by have := hok g hg; omega) (hl.mono (fun _ h => h) fun g hg => hm g (hok g hg)) he1 ?_ (fun g hg => ⟨(hbk g hg).1, by have := (hbk g hg).2; omega, by have := (hbk g hg).2; omega⟩) (fun h => by have := hok _ h; omega) (by omega)
      refine ⟨w.heap.size, #[ownVal l], 24, rfl, ?_, .cons (Rd.v _ rfl) .nil⟩
      subst hw1
      show (w.heap.push _)[w.heap.size]? = _
      simp
    | false =>
      rw [hc] at h
      refine slice_big (by have := Nat.le_of_ble_eq_true (n := xs.length) (m := 1); rcases Nat.lt_or_ge 1 xs.length with h1 | h1; exact h1; rw [Nat.ble_eq_true_of_le h1] at hc; cases hc) hb62 h (fun g hg => by have := hok g hg; omega) (hl.mono (fun _ h => h) fun g hg => hm g (hok g hg)) he1 ?_ (fun g hg => ⟨(hbk g hg).1, by have := (hbk g hg).2; omega, by have := (hbk g hg).2; omega⟩) (fun h => by have := hok _ h; omega) (by omega)
      refine ⟨w.heap.size, #[ownVal l], 24, rfl, ?_, .cons (Rd.v _ rfl) .nil⟩
      subst hw1
      show (w.heap.push _)[w.heap.size]? = _
      simp
  subst hw1
  refine (sort_enter hS).mono ?_
  rintro e w' ⟨he', ok', a1, a2, a3, a4, a5⟩
  refine ⟨.tuple #[], ok', σ, he', ⟨⟨a4.os, a4.tape, a4.output, by have := a4.size; omega, fun k hk hx => ?_⟩, a1, fun g hg => ?_, a3, ⟨#[], rfl, trivial⟩, fun id e hq => (by cases hq), fun _ _ => rfl, fun id e hq => (by cases hq), fun id e g hq => (by cases hq), fun i j e f g hq => (by cases hq), fun id e hq => (by cases hq)⟩, fun id e hq => ?_⟩
  · have hk2 : k < w.heap.size := hk
    rw [a4.block k (by show k < (w.alloc _).heap.size; omega) ?_, hm k hk2]
    rintro (h1 | h1)
    · exact hx ⟨80000, _, rfl, by rw [hL]; exact h1⟩
    · omega
  · rcases a2 g hg with h1 | h1
    · exact .inl h1
    · exact .inr (by omega)
  · simp only [List.lookup] at hq
    split at hq
    · rename_i hq2
      have e1 : id = 80000 := by simpa using hq2
      subst e1
      cases hq
      rw [hL]
      exact a5
    · cases hq
end Go.Proofs.YtnheekadeflecaaGreat
namespace Go.Proofs.YtnheekadeflecaaGreat
open Go.RowKit
set_option linter.unusedVariables false
set_option linter.unusedSimpArgs false

set_option maxRecDepth 100000
theorem cf_impl_UpperForms : ∀ args w, (callFunc 8 args).run Tryz.prog w = .ok (.enter 8 args) w := run_callFunc Tryz.func8 (by kernel_rfl) (by kernel_rfl)
theorem s_impl_UpperForms {f1 : (Int × Int × Int)} {p2 : Int} {r : ((List ((Int × Int × Int))) × Bool)} (h : r_impl_UpperForms f1 p2 = some r) : CallS Tryz.prog 8 [.ag [Ti f1.1, Ti f1.2.1, Ti f1.2.2], I p2] (.tc (.ow 0) (.tc (Bo r.2) .tn)) [(0, .arr 27 3 (r.1.map c27))] := by
  refine CallS_of_text (rs := [.t 4, .t 5]) (vs := [.tmp 4, .tmp 5]) Tryz.func8 rfl rfl (.cons rfl (.cons rfl FitsL.nil)) (by decide) 65 rfl ?_
  unfold r_impl_UpperForms at h
  show V _ _ ⟨.ag [Ti f1.1, Ti f1.2.1, Ti f1.2.2] :: I p2 :: bt 63 [], []⟩ _
  refine V_sreg (mb 65 6) [16] (s1 := ⟨.bot :: I p2 :: .pt 16 0 :: bt 62 [], [(16, .box [Ti f1.1, Ti f1.2.1, Ti f1.2.2])]⟩) ?_ ?_
  ·refine XR 1 ?_
   refine L1 rfl rfl (Y1_nil (e := 27) 3 (by decide) (.inl rfl)) ?_
   exact XE
  refine V_seq ?_
  obtain ⟨y3, hy3, h⟩ := of_bind h
  obtain ⟨b7, hb7, h⟩ := of_bind h
  refine V_sreg (mb 65 4194310) [16] (s1 := ⟨.bot :: I p2 :: .pt 16 0 :: bt 19 (Bo b7 :: bt 42 []), [(16, .box [Ti f1.1, Ti f1.2.1, Ti f1.2.2])]⟩) ?_ ?_
  ·refine XR 1 ?_
   refine XC (s_impl_isClassForm hy3) cf_impl_isClassForm rfl rfl rfl ?_
   refine XR 2 ?_
   refine XL_split (!y3) (fun hc4 => ?_) (fun hc4 => ?_)
   ·have hb7 := some_inj (of_true hb7 hc4)
    refine XL_skipF _ rfl rfl (by kernel_rfl) hc4 rfl ?_
    refine XL_skipF _ rfl rfl (by kernel_rfl) hc4 rfl ?_
    refine XL_skipF _ rfl rfl (by kernel_rfl) hc4 rfl ?_
    refine XL_skipF _ rfl rfl (by kernel_rfl) hc4 rfl ?_
    refine XL_skipF _ rfl rfl (by kernel_rfl) hc4 rfl ?_
    refine XL_cons rfl (X_of_Y0 rfl (Y0_pickTe (b := !y3) (p := true) rfl (by kernel_rfl) hc4 (by kernel_rfl) hb7)) ?_
    exact XE
   ·have hb7 := of_false hb7 hc4
    obtain ⟨y5, hy5, hb7⟩ := of_bind hb7
    obtain ⟨y6, hy6, hb7⟩ := of_bind hb7
    have hb7 := some_inj hb7
    refine XL_takeC _ rfl rfl (by kernel_rfl) hc4 (X_of_Y0 rfl (E_loadn (cs := [Ti f1.1, Ti f1.2.1, Ti f1.2.2]) [Ti f1.1, Ti f1.2.1, Ti f1.2.2] wd27 rfl (by kernel_rfl) (Nat.le_of_ble_eq_true rfl) (by kernel_rfl))) ?_
    refine XL_takeC _ rfl rfl (by kernel_rfl) hc4 (X_of_Y1 rfl (Y1_call (s_impl_Form_disc hy5) cf_impl_Form_disc rfl (by kernel_rfl))) ?_
    refine XL_takeC _ rfl rfl (by kernel_rfl) hc4 (X_of_Y0 rfl (E_move (I p2) rfl (by kernel_rfl))) ?_
    refine XL_takeC _ rfl rfl (by kernel_rfl) hc4 (X_of_Y1 rfl (Y1_call (s_impl_canRise hy6) cf_impl_canRise rfl (by kernel_rfl))) ?_
    refine XL_takeC _ rfl rfl (by kernel_rfl) hc4 (X_of_Y0 rfl (Y0_not (b := y6) rfl (by kernel_rfl))) ?_
    refine XL_cons rfl (X_of_Y0 rfl (Y0_pickFe (b := !y3) (p := !y6) rfl (by kernel_rfl) hc4 (by kernel_rfl) hb7)) ?_
    exact XE
  refine V_cond rfl (fun hc8 => ?_) (fun hc8 => ?_)
  ·have h := of_true h hc8
   refine V_sreg (mb 65 48) [184] (s1 := ⟨bt 4 (.ow 184 :: Bo false :: bt 59 []), [(184, .arr 27 3 ((([] : List ((Int × Int × Int)))).map c27))]⟩) ?_ ?_
   ·refine L1 rfl rfl (Y1_bslice0 Tryz.underlying24 sz27 (by decide) rfl rfl) ?_
    exact XE
   refine V_ret ?_
   obtain rfl := some_inj h
   show Post _ _ _ _ _
   exact ⟨.inr rfl, rfl, rfl, rfl⟩
  ·have h := of_false h hc8
   refine V_skip ?_
   show V _ _ _ _
   obtain ⟨y9, hy9, h⟩ := of_bind h
   refine V_sreg (mb 65 68) [208, 16] (s1 := ⟨.bot :: .bot :: .pt 16 0 :: bt 3 (.ow 208 :: bt 58 []), [(208, .arr 69 3 (y9.1.map c69)), (16, .box [Ti f1.1, Ti f1.2.1, Ti f1.2.2])]⟩) ?_ ?_
   ·refine XR 1 ?_
    refine XC (s_impl_SublatticesOf hy9) cf_impl_SublatticesOf rfl rfl rfl ?_
    exact XE
   refine V_sreg (mb 65 324) [232, 208, 16] (s1 := ⟨.bot :: .bot :: .pt 16 0 :: bt 3 (.ow 208 :: .bot :: .ow 232 :: bt 56 []), [(232, .arr 27 3 ((([] : List ((Int × Int × Int)))).map c27)), (208, .arr 69 3 (y9.1.map c69)), (16, .box [Ti f1.1, Ti f1.2.1, Ti f1.2.2])]⟩) ?_ ?_
   ·refine L1 rfl rfl (Y1_bslice0 Tryz.underlying24 sz27 (by decide) rfl rfl) ?_
    exact XE
   refine V_seq ?_
   refine V_sreg (mb 65 7516193028) [232, 208, 16] (s1 := ⟨.bot :: .bot :: .pt 16 0 :: bt 5 (.ow 232 :: bt 21 (.ow 208 :: I ((y9.1.length : Int)) :: I 0 :: bt 32 [])), [(232, .arr 27 3 ((([] : List ((Int × Int × Int)))).map c27)), (208, .arr 69 3 (y9.1.map c69)), (16, .box [Ti f1.1, Ti f1.2.1, Ti f1.2.2])]⟩) ?_ ?_
   ·refine XR 1 ?_
    refine L0 rfl rfl (Y0_lenM (c := c69) (xs := y9.1) Tryz.underlying66 rfl (by kernel_rfl)) ?_
    exact XE
   obtain ⟨o13, hLo13, h⟩ := of_bind h
   refine V_toK (mb 65 256) [232] (s1 := ⟨bt 8 (.ow 232 :: bt 56 []), [(232, .arr 27 3 (o13.map c27))]⟩) ?_ ?_
   ·clear h
    refine V_block (V_loop (fun n s => ∃ (t10 : Int) (l11 : List ((Int × Int × Int))), s.keep (mb 65 7516193028) [232, 208, 16] = (⟨.bot :: .bot :: .pt 16 0 :: bt 5 (.ow 232 :: bt 21 (.ow 208 :: I ((y9.1.length : Int)) :: I t10 :: bt 32 [])), [(232, .arr 27 3 (l11.map c27)), (208, .arr 69 3 (y9.1.map c69)), (16, .box [Ti f1.1, Ti f1.2.1, Ti f1.2.2])]⟩ : St) ∧ r_impl_UpperForms_L12 f1 y9 n t10 l11 = some o13) FU ⟨_, _,  by rfl, hLo13⟩ ?_)
    clear hLo13
    rintro n s ⟨t10, l11, hs, h⟩
    refine V_keep _ _ hs ?_
    clear hs
    cases n with
    | zero => cases h
    | succ n =>
     rw [r_impl_UpperForms_L12] at h
     refine V_e (mb 65 16106127620) [232, 208, 16] (s1 := ⟨.bot :: .bot :: .pt 16 0 :: bt 5 (.ow 232 :: bt 21 (.ow 208 :: I ((y9.1.length : Int)) :: I t10 :: Bo (ltI t10 ((y9.1.length : Int))) :: bt 31 [])), [(232, .arr 27 3 (l11.map c27)), (208, .arr 69 3 (y9.1.map c69)), (16, .box [Ti f1.1, Ti f1.2.1, Ti f1.2.2])]⟩) ?_
     refine V_seq ?_
     refine V_cond rfl (fun hc14 => ?_) (fun hc14 => ?_)
     ·have h := of_true h hc14
      refine V_skip ?_
      show V _ _ _ _
      refine V_seq ?_
      refine V_block ?_
      obtain ⟨e15, he15, h⟩ := of_bind h
      obtain ⟨e16, he16, h⟩ := of_bind h
      refine V_sreg (mb 65 7516194052) [80, 232, 208, 16] (s1 := ⟨.bot :: .bot :: .pt 16 0 :: bt 5 (.ow 232 :: .bot :: .pt 80 0 :: bt 19 (.ow 208 :: I ((y9.1.length : Int)) :: I t10 :: bt 32 [])), [(80, .box [Ti e16.1, Ti e16.2.1, Ti e16.2.2]), (232, .arr 27 3 (l11.map c27)), (208, .arr 69 3 (y9.1.map c69)), (16, .box [Ti f1.1, Ti f1.2.1, Ti f1.2.2])]⟩) ?_ ?_
      ·refine L0 rfl rfl (Y0_idxoM (c := c69) (xs := y9.1) (v := e15) (id := 208) (T := 69) (sz := 3) (n := t10) Tryz.underlying66 sz69 rfl (by kernel_rfl) (by kernel_rfl) (by kernel_rfl) he15) ?_
       refine L0 rfl rfl (E_loadon (c := c69) (xs := y9.1) (v := e16) (id := 208) (sz := 3) (T := 69) (off := 0) (n := t10) [Ti e16.1, Ti e16.2.1, Ti e16.2.2] wd69 rfl (by kernel_rfl) (by kernel_rfl) he16 (Nat.le_of_ble_eq_true rfl) (by kernel_rfl)) ?_
       exact XE
      obtain ⟨y17, hy17, h⟩ := of_bind h
      obtain ⟨y18, hy18, h⟩ := of_bind h
      refine V_sdreg [0, 1, 0, 4, 0, 16, 0, 64, 252, 511, 0, 2047] 11 (cdm 11 [2271904, 2271905, 2140682, 2140698, 2138282, 2138538, 2099882, 2103978, 2119002, 2184533, 699050]) (mb 65 7516195076) [88, 232, 208, 16] (s1 := ⟨.bot :: .bot :: .pt 16 0 :: bt 5 (.ow 232 :: .bot :: .bot :: .pt 88 0 :: bt 18 (.ow 208 :: I ((y9.1.length : Int)) :: I t10 :: bt 32 [])), [(88, .box [Ti y18.1, Ti y18.2.1, Ti y18.2.2]), (232, .arr 27 3 (l11.map c27)), (208, .arr 69 3 (y9.1.map c69)), (16, .box [Ti f1.1, Ti f1.2.1, Ti f1.2.2])]⟩) (by kernel_rfl) (by kernel_rfl) ?_ ?_
      ·refine DR 1 ?_
       refine DC 1 (s_impl_reduced hy17) cf_impl_reduced rfl rfl rfl rfl 37 rfl ?_
       refine DR 6 ?_
       refine DE_0 8 (.ag [Ti e16.1, Ti e16.2.1, Ti 0, Ti e16.2.2]) (by kernel_rfl) rfl rfl rfl (gsat_none rfl) (by kernel_rfl) (Y0_build (cs := [Ti e16.1, Ti e16.2.1, Ti 0, Ti e16.2.2]) pl57 bt57 rfl rfl (by kernel_rfl)) 44 rfl ?_
       refine DC 9 (s_impl_Form_substitute hy18) cf_impl_Form_substitute rfl rfl rfl rfl 45 rfl ?_
       refine DA 1 ?_
       exact XE
      obtain ⟨y19, hy19, h⟩ := of_bind h
      refine V_sreg (mb 65 7516199172) [96, 88, 232, 208, 16] (s1 := ⟨.bot :: .bot :: .pt 16 0 :: bt 5 (.ow 232 :: .bot :: .bot :: .pt 88 0 :: .pt 96 0 :: bt 17 (.ow 208 :: I ((y9.1.length : Int)) :: I t10 :: bt 32 [])), [(96, .box [Ti y19.1, Ti y19.2.1, Ti y19.2.2]), (88, .box [Ti y18.1, Ti y18.2.1, Ti y18.2.2]), (232, .arr 27 3 (l11.map c27)), (208, .arr 69 3 (y9.1.map c69)), (16, .box [Ti f1.1, Ti f1.2.1, Ti f1.2.2])]⟩) ?_ ?_
      ·refine XR 1 ?_
       refine XC (s_impl_reduced hy19) cf_impl_reduced rfl rfl rfl ?_
       exact XE
      obtain ⟨y20, hy20, h⟩ := of_bind h
      obtain ⟨b23, hb23, h⟩ := of_bind h
      refine V_sreg (mb 65 72057601554125060) [96, 232, 208, 16] (s1 := ⟨.bot :: .bot :: .pt 16 0 :: bt 5 (.ow 232 :: bt 3 (.pt 96 0 :: bt 17 (.ow 208 :: I ((y9.1.length : Int)) :: I t10 :: bt 23 (Bo b23 :: bt 8 [])))), [(96, .box [Ti y19.1, Ti y19.2.1, Ti y19.2.2]), (232, .arr 27 3 (l11.map c27)), (208, .arr 69 3 (y9.1.map c69)), (16, .box [Ti f1.1, Ti f1.2.1, Ti f1.2.2])]⟩) ?_ ?_
      ·refine XR 1 ?_
       refine XC (s_impl_Form_content hy20) cf_impl_Form_content rfl rfl rfl ?_
       refine XR 2 ?_
       refine XL_split (eqI y20 1) (fun hc21 => ?_) (fun hc21 => ?_)
       ·have hb23 := of_true hb23 hc21
        obtain ⟨y22, hy22, hb23⟩ := of_bind hb23
        have hb23 := some_inj hb23
        refine XL_takeC _ rfl rfl (by kernel_rfl) hc21 (X_of_Y0 rfl (E_move (.ow 232) rfl (by kernel_rfl))) ?_
        refine XL_takeC _ rfl rfl (by kernel_rfl) hc21 (X_of_Y0 rfl (E_loadn (cs := [Ti y19.1, Ti y19.2.1, Ti y19.2.2]) [Ti y19.1, Ti y19.2.1, Ti y19.2.2] wd27 rfl (by kernel_rfl) (Nat.le_of_ble_eq_true rfl) (by kernel_rfl))) ?_
        refine XL_takeC _ rfl rfl (by kernel_rfl) hc21 (X_of_Y1 rfl (Y1_callS (s_impl_hasForm hy22) cf_impl_hasForm rfl (by kernel_rfl) rfl rfl)) ?_
        refine XL_takeC _ rfl rfl (by kernel_rfl) hc21 (X_of_Y0 rfl (Y0_not (b := y22) rfl (by kernel_rfl))) ?_
        refine XL_cons rfl (X_of_Y0 rfl (Y0_pickTe (b := eqI y20 1) (p := !y22) rfl (by kernel_rfl) hc21 (by kernel_rfl) hb23)) ?_
        exact XE
       ·have hb23 := some_inj (of_false hb23 hc21)
        refine XL_skipT _ rfl rfl (by kernel_rfl) hc21 rfl ?_
        refine XL_skipT _ rfl rfl (by kernel_rfl) hc21 rfl ?_
        refine XL_skipT _ rfl rfl (by kernel_rfl) hc21 rfl ?_
        refine XL_skipT _ rfl rfl (by kernel_rfl) hc21 rfl ?_
        refine XL_cons rfl (X_of_Y0 rfl (Y0_pickFe (b := eqI y20 1) (p := false) rfl (by kernel_rfl) hc21 (by kernel_rfl) hb23)) ?_
        exact XE
      refine V_cond rfl (fun hc24 => ?_) (fun hc24 => ?_)
      ·have h := of_true h hc24
       obtain ⟨u25, hu25, h⟩ := of_bind h
       refine V_reg (mb 65 7516193028) [232, 208, 16] (s1 := ⟨.bot :: .bot :: .pt 16 0 :: bt 5 (.ow 232 :: bt 21 (.ow 208 :: I ((y9.1.length : Int)) :: I t10 :: bt 32 [])), [(232, .arr 27 3 ((l11 ++ ([y19])).map c27)), (208, .arr 69 3 (y9.1.map c69)), (16, .box [Ti f1.1, Ti f1.2.1, Ti f1.2.2])]⟩) ?_ ?_
       ·refine XR 2 ?_
        refine L1 rfl rfl (Y1_bslice (z := zv27) (els := [y19].map c27) Tryz.underlying24 iz27 rfl (by decide) rfl (by kernel_rfl) rfl (by simp [c27]) (by decide) (by decide)) ?_
        refine XL_cons rfl (X_appendM (c := c27) (xs := l11) (ys := [y19]) (id := 232) (z := zv27) rfl rfl Tryz.underlying24 izb27 rfl (by kernel_rfl) (by kernel_rfl) (by kernel_rfl) (fun _ => rfl) (by simp) (room_some hu25) (by decide)) ?_
        exact XE
       show V _ _ _ _
       obtain ⟨t26, ht26, h⟩ := of_sI h
       refine V_reg (mb 65 7516193028) [232, 208, 16] (s1 := ⟨.bot :: .bot :: .pt 16 0 :: bt 5 (.ow 232 :: bt 21 (.ow 208 :: I ((y9.1.length : Int)) :: I t26 :: bt 32 [])), [(232, .arr 27 3 ((l11 ++ ([y19])).map c27)), (208, .arr 69 3 (y9.1.map c69)), (16, .box [Ti f1.1, Ti f1.2.1, Ti f1.2.2])]⟩) ?_ ?_
       ·refine XR 2 ?_
        refine XL_nil ?_
        subst ht26
        kernel_rfl
       exact ⟨n, Nat.lt_succ_self n, _, _,  by rfl, h⟩
      ·have h := of_false h hc24
       refine V_skip ?_
       show V _ _ _ _
       obtain ⟨t27, ht27, h⟩ := of_sI h
       refine V_reg (mb 65 7516193028) [232, 208, 16] (s1 := ⟨.bot :: .bot :: .pt 16 0 :: bt 5 (.ow 232 :: bt 21 (.ow 208 :: I ((y9.1.length : Int)) :: I t27 :: bt 32 [])), [(232, .arr 27 3 (l11.map c27)), (208, .arr 69 3 (y9.1.map c69)), (16, .box [Ti f1.1, Ti f1.2.1, Ti f1.2.2])]⟩) ?_ ?_
       ·refine XR 2 ?_
        refine XL_nil ?_
        subst ht27
        kernel_rfl
       exact ⟨n, Nat.lt_succ_self n, _, _,  by rfl, h⟩
     ·have h := of_false h hc14
      refine V_exit ?_
      obtain rfl := some_inj h
      show St.keep _ _ _ = _
      rfl
   show V _ _ _ _
   obtain ⟨y28, hy28, h⟩ := of_bind h
   refine V_sreg (mb 65 256) [232] (s1 := ⟨bt 8 (.ow 232 :: bt 56 []), [(232, .arr 27 3 (y28.map c27))]⟩) ?_ ?_
   ·refine XR 1 ?_
    refine XL_cons rfl (X_callR (E' := [(232, .arr 27 3 (y28.map c27))]) [(80000, 232)] 63 (s_impl_sortForms hy28) cf_impl_sortForms rfl rfl (by kernel_rfl) rfl (mE_cons (by kernel_rfl) mE_nil) rfl (by kernel_rfl) rfl rfl (by kernel_rfl)) ?_
    exact XE
   refine V_e (mb 65 48) [232] (s1 := ⟨bt 4 (.ow 232 :: Bo true :: bt 59 []), [(232, .arr 27 3 (y28.map c27))]⟩) ?_
   refine V_ret ?_
   obtain rfl := some_inj h
   show Post _ _ _ _ _
   exact ⟨.inr rfl, rfl, rfl, rfl⟩
theorem cf_laws_eqForm : ∀ args w, (callFunc 59 args).run Tryz.prog w = .ok (.enter 59 args) w := run_callFunc Tryz.func59 (by kernel_rfl) (by kernel_rfl)
theorem s_laws_eqForm {a1 : (Int × Int × Int)} {b2 : (Int × Int × Int)} {r : Bool} (h : r_laws_eqForm a1 b2 = some r) : CallS Tryz.prog 59 [.ag [Ti a1.1, Ti a1.2.1, Ti a1.2.2], .ag [Ti b2.1, Ti b2.2.1, Ti b2.2.2]] (Bo r) [] := by
  refine CallS_of_text (rs := [.t 4]) (vs := [.tmp 4]) Tryz.func59 rfl rfl (.cons rfl FitsL.nil) (by decide) 20 rfl ?_
  unfold r_laws_eqForm at h
  show V _ _ ⟨.ag [Ti a1.1, Ti a1.2.1, Ti a1.2.2] :: .ag [Ti b2.1, Ti b2.2.1, Ti b2.2.2] :: bt 18 [], []⟩ _
  refine V_e (mb 20 12) [24, 16] (s1 := ⟨.bot :: .bot :: .pt 16 0 :: .pt 24 0 :: bt 16 [], [(24, .box [Ti b2.1, Ti b2.2.1, Ti b2.2.2]), (16, .box [Ti a1.1, Ti a1.2.1, Ti a1.2.2])]⟩) ?_
  refine V_seq ?_
  refine V_e (mb 20 524) [24, 16] (s1 := ⟨.bot :: .bot :: .pt 16 0 :: .pt 24 0 :: bt 5 (Bo (!eqI a1.1 b2.1) :: bt 10 []), [(24, .box [Ti b2.1, Ti b2.2.1, Ti b2.2.2]), (16, .box [Ti a1.1, Ti a1.2.1, Ti a1.2.2])]⟩) ?_
  refine V_cond rfl (fun hc3 => ?_) (fun hc3 => ?_)
  ·have h := of_true h hc3
   refine V_e (mb 20 16) [] (s1 := ⟨bt 4 (Bo false :: bt 15 []), []⟩) ?_
   refine V_ret ?_
   obtain rfl := some_inj h
   show Post _ _ _ _ _
   exact ⟨.inr rfl, rfl, rfl, rfl⟩
  ·have h := of_false h hc3
   refine V_skip ?_
   show V _ _ _ _
   refine V_seq ?_
   refine V_e (mb 20 16396) [24, 16] (s1 := ⟨.bot :: .bot :: .pt 16 0 :: .pt 24 0 :: bt 10 (Bo (!eqI a1.2.1 b2.2.1) :: bt 5 []), [(24, .box [Ti b2.1, Ti b2.2.1, Ti b2.2.2]), (16, .box [Ti a1.1, Ti a1.2.1, Ti a1.2.2])]⟩) ?_
   refine V_cond rfl (fun hc4 => ?_) (fun hc4 => ?_)
   ·have h := of_true h hc4
    refine V_e (mb 20 16) [] (s1 := ⟨bt 4 (Bo false :: bt 15 []), []⟩) ?_
    refine V_ret ?_
    obtain rfl := some_inj h
    show Post _ _ _ _ _
    exact ⟨.inr rfl, rfl, rfl, rfl⟩
   ·have h := of_false h hc4
    refine V_skip ?_
    show V _ _ _ _
    refine V_seq ?_
    refine V_e (mb 20 524288) [] (s1 := ⟨bt 19 (Bo (!eqI a1.2.2 b2.2.2) :: []), []⟩) ?_
    refine V_cond rfl (fun hc5 => ?_) (fun hc5 => ?_)
    ·have h := of_true h hc5
     refine V_e (mb 20 16) [] (s1 := ⟨bt 4 (Bo false :: bt 15 []), []⟩) ?_
     refine V_ret ?_
     obtain rfl := some_inj h
     show Post _ _ _ _ _
     exact ⟨.inr rfl, rfl, rfl, rfl⟩
    ·have h := of_false h hc5
     refine V_skip ?_
     show V _ _ _ _
     refine V_e (mb 20 16) [] (s1 := ⟨bt 4 (Bo true :: bt 15 []), []⟩) ?_
     refine V_ret ?_
     obtain rfl := some_inj h
     show Post _ _ _ _ _
     exact ⟨.inr rfl, rfl, rfl, rfl⟩
theorem cf_laws_eqFormS : ∀ args w, (callFunc 9 args).run Tryz.prog w = .ok (.enter 9 args) w := run_callFunc Tryz.func9 (by kernel_rfl) (by kernel_rfl)
theorem s_laws_eqFormS {a1 : List ((Int × Int × Int))} {b2 : List ((Int × Int × Int))} {r : Bool} (h : r_laws_eqFormS a1 b2 = some r) : CallS Tryz.prog 9 [.c (.sl (a1.map c27)), .c (.sl (b2.map c27))] (Bo r) [] := by
  refine CallS_of_text (rs := [.t 4]) (vs := [.tmp 4]) Tryz.func9 rfl rfl (.cons rfl FitsL.nil) (by decide) 27 rfl ?_
  unfold r_laws_eqFormS at h
  show V _ _ ⟨.c (.sl (a1.map c27)) :: .c (.sl (b2.map c27)) :: bt 25 [], []⟩ _
  refine V_e (mb 27 3) [] (s1 := ⟨.c (.sl (a1.map c27)) :: .c (.sl (b2.map c27)) :: bt 25 [], []⟩) ?_
  refine V_seq ?_
  refine V_sreg (mb 27 1027) [] (s1 := ⟨.c (.sl (a1.map c27)) :: .c (.sl (b2.map c27)) :: bt 8 (Bo (!eqI ((a1.length : Int)) ((b2.length : Int))) :: bt 16 []), []⟩) ?_ ?_
  ·refine XR 1 ?_
   refine L0 rfl rfl (Y0_lenM (c := c27) (xs := a1) Tryz.underlying24 rfl (by kernel_rfl)) ?_
   refine XR 1 ?_
   refine L0 rfl rfl (Y0_lenM (c := c27) (xs := b2) Tryz.underlying24 rfl (by kernel_rfl)) ?_
   exact XE
  refine V_cond rfl (fun hc3 => ?_) (fun hc3 => ?_)
  ·have h := of_true h hc3
   refine V_e (mb 27 16) [] (s1 := ⟨bt 4 (Bo false :: bt 22 []), []⟩) ?_
   refine V_ret ?_
   obtain rfl := some_inj h
   show Post _ _ _ _ _
   exact ⟨.inr rfl, rfl, rfl, rfl⟩
  ·have h := of_false h hc3
   refine V_skip ?_
   show V _ _ _ _
   refine V_seq ?_
   refine V_e (mb 27 35) [] (s1 := ⟨.c (.sl (a1.map c27)) :: .c (.sl (b2.map c27)) :: bt 3 (I 0 :: bt 21 []), []⟩) ?_
   obtain ⟨qo6, hLo6, hko6⟩ := of_bind h
   refine V_toS (q := qo6) (S := fun o6 => ⟨bt 27 [], []⟩) (mb 27 0) [] ?_ ?_
   ·refine V_block (V_loop (fun n s => ∃ (i4 : Int), s.keep (mb 27 35) [] = (⟨.c (.sl (a1.map c27)) :: .c (.sl (b2.map c27)) :: bt 3 (I i4 :: bt 21 []), []⟩ : St) ∧ r_laws_eqFormS_L5 a1 b2 n i4 = some qo6) FU ⟨_,  by rfl, hLo6⟩ ?_)
    clear hLo6
    rintro n s ⟨i4, hs, h⟩
    refine V_keep _ _ hs ?_
    clear hs
    cases n with
    | zero => cases h
    | succ n =>
     rw [r_laws_eqFormS_L5] at h
     refine V_seq ?_
     refine V_sreg (mb 27 16419) [] (s1 := ⟨.c (.sl (a1.map c27)) :: .c (.sl (b2.map c27)) :: bt 3 (I i4 :: bt 8 (Bo (ltI i4 ((a1.length : Int))) :: bt 12 [])), []⟩) ?_ ?_
     ·refine XR 2 ?_
      refine L0 rfl rfl (Y0_lenM (c := c27) (xs := a1) Tryz.underlying24 rfl (by kernel_rfl)) ?_
      exact XE
     refine V_cond rfl (fun hc7 => ?_) (fun hc7 => ?_)
     ·have h := of_true h hc7
      refine V_skip ?_
      show V _ _ _ _
      refine V_seq ?_
      refine V_block ?_
      obtain ⟨e8, he8, h⟩ := of_bind h
      obtain ⟨e9, he9, h⟩ := of_bind h
      obtain ⟨y10, hy10, h⟩ := of_bind h
      refine V_sdreg [0, 0, 3, 7, 0, 0, 48, 112, 255, 511] 10 (cdm 10 [43528, 43522, 43525, 43541, 2218, 682, 1450, 5546, 21845, 87381]) (mb 27 67108899) [] (s1 := ⟨.c (.sl (a1.map c27)) :: .c (.sl (b2.map c27)) :: bt 3 (I i4 :: bt 20 (Bo (!y10) :: [])), []⟩) (by kernel_rfl) (by kernel_rfl) ?_ ?_
      ·refine DR 2 ?_
       refine DE_0 2 (.pe [Ti e8.1, Ti e8.2.1, Ti e8.2.2]) (by kernel_rfl) rfl rfl rfl (gsat_none rfl) (by kernel_rfl) (Y0_idxM (c := c27) (xs := a1) (v := e8) (n := i4) Tryz.underlying24 sz27 rfl (by kernel_rfl) (by kernel_rfl) he8) 19 rfl ?_
       refine DR 3 ?_
       refine DE_0 6 (.pe [Ti e9.1, Ti e9.2.1, Ti e9.2.2]) (by kernel_rfl) rfl rfl rfl (gsat_none rfl) (by kernel_rfl) (Y0_idxM (c := c27) (xs := b2) (v := e9) (n := i4) Tryz.underlying24 sz27 rfl (by kernel_rfl) (by kernel_rfl) he9) 23 rfl ?_
       refine DR 1 ?_
       refine DC 8 (s_laws_eqForm hy10) cf_laws_eqForm rfl rfl rfl rfl 25 rfl ?_
       refine DA 1 ?_
       exact XE
      refine V_cond rfl (fun hc11 => ?_) (fun hc11 => ?_)
      ·have h := of_true h hc11
       refine V_e (mb 27 16) [] (s1 := ⟨bt 4 (Bo false :: bt 22 []), []⟩) ?_
       refine V_ret ?_
       obtain rfl := some_inj h
       have h := hko6
       obtain rfl := some_inj h
       show Post _ _ _ _ _
       exact ⟨.inr rfl, rfl, rfl, rfl⟩
      ·have h := of_false h hc11
       refine V_skip ?_
       show V _ _ _ _
       obtain ⟨i12, hi12, h⟩ := of_sI h
       refine V_reg (mb 27 35) [] (s1 := ⟨.c (.sl (a1.map c27)) :: .c (.sl (b2.map c27)) :: bt 3 (I i12 :: bt 21 []), []⟩) ?_ ?_
       ·refine XR 3 ?_
        refine XL_nil ?_
        subst hi12
        kernel_rfl
       exact ⟨n, Nat.lt_succ_self n, _,  by rfl, h⟩
     ·have h := of_false h hc7
      refine V_exit ?_
      obtain rfl := some_inj h
      exact ⟨_, rfl, by rfl⟩
   rintro o6 rfl
   have h := hko6
   clear hko6
   show V _ _ _ _
   refine V_e (mb 27 16) [] (s1 := ⟨bt 4 (Bo true :: bt 22 []), []⟩) ?_
   refine V_ret ?_
   obtain rfl := some_inj h
   show Post _ _ _ _ _
   exact ⟨.inr rfl, rfl, rfl, rfl⟩
theorem cf_laws_markFormS : ∀ args w, (callFunc 10 args).run Tryz.prog w = .ok (.enter 10 args) w := run_callFunc Tryz.func10 (by kernel_rfl) (by kernel_rfl)
theorem s_laws_markFormS {a1 : List ((Int × Int × Int))} {k2 : Int} {r : (Int × (List ((Int × Int × Int))))} (h : r_laws_markFormS a1 k2 = some r) : CallR Tryz.prog 10 [.ow 80000, I k2] [(80000, .arr 27 3 (a1.map c27))] (I r.1) [] [(80000, .arr 27 3 (r.2.map c27))] := by
  refine CallR_of_text (rs := [.t 4]) (vs := [.tmp 4]) Tryz.func10 rfl rfl (.cons rfl FitsL.nil) (by decide) 34 rfl rfl fun σ => ?_
  unfold r_laws_markFormS at h
  show V _ _ ⟨.ow 80000 :: I k2 :: bt 32 [], [(80000, .parr (σ 80000) 27 3 (a1.map c27))]⟩ _
  refine V_e (mb 34 3) [80000] (s1 := ⟨.ow 80000 :: I k2 :: bt 32 [], [(80000, .parr (σ 80000) 27 3 (a1.map c27))]⟩) ?_
  refine V_seq ?_
  refine V_e (mb 34 35) [80000] (s1 := ⟨.ow 80000 :: I k2 :: bt 3 (I 0 :: bt 28 []), [(80000, .parr (σ 80000) 27 3 (a1.map c27))]⟩) ?_
  obtain ⟨o7, hLo7, h⟩ := of_bind h
  refine V_toK (mb 34 2) [80000] (s1 := ⟨.bot :: I o7.1 :: bt 32 [], [(80000, .parr (σ 80000) 27 3 (o7.2.map c27))]⟩) ?_ ?_
  ·clear h
   refine V_block (V_loop (fun n s => ∃ (k3 : Int) (i4 : Int) (l5 : List ((Int × Int × Int))), s.keep (mb 34 35) [80000] = (⟨.ow 80000 :: I k3 :: bt 3 (I i4 :: bt 28 []), [(80000, .parr (σ 80000) 27 3 (l5.map c27))]⟩ : St) ∧ r_laws_markFormS_L6 n k3 i4 l5 = some o7) FU ⟨_, _, _,  by rfl, hLo7⟩ ?_)
   clear hLo7
   rintro n s ⟨k3, i4, l5, hs, h⟩
   refine V_keep _ _ hs ?_
   clear hs
   cases n with
   | zero => cases h
   | succ n =>
    rw [r_laws_markFormS_L6] at h
    refine V_seq ?_
    refine V_sreg (mb 34 547) [80000] (s1 := ⟨.ow 80000 :: I k3 :: bt 3 (I i4 :: bt 3 (Bo (ltI i4 ((l5.length : Int))) :: bt 24 [])), [(80000, .parr (σ 80000) 27 3 (l5.map c27))]⟩) ?_ ?_
    ·refine XR 2 ?_
     refine L0 rfl rfl (Y0_lenM (c := c27) (xs := l5) Tryz.underlying24 rfl (by kernel_rfl)) ?_
     exact XE
    refine V_cond rfl (fun hc8 => ?_) (fun hc8 => ?_)
    ·have h := of_true h hc8
     refine V_skip ?_
     show V _ _ _ _
     refine V_seq ?_
     refine V_block ?_
     obtain ⟨e9, he9, h⟩ := of_bind h
     obtain ⟨e10, he10, h⟩ := of_bind h
     refine V_sreg (mb 34 35) [80000] (s1 := ⟨.ow 80000 :: I k3 :: bt 3 (I i4 :: bt 28 []), [(80000, .parr (σ 80000) 27 3 ((l5.set (Int.toNat (i4)) ((k3, e10.2.1, e10.2.2))).map c27))]⟩) ?_ ?_
     ·refine XR 3 ?_
      refine L0 rfl rfl (Y0_idxoM (c := c27) (xs := l5) (v := e9) (id := 80000) (T := 27) (sz := 3) (n := i4) Tryz.underlying24 sz27 rfl (by kernel_rfl) (by kernel_rfl) (by kernel_rfl) he9) ?_
      refine XR 1 ?_
      refine XL_cons rfl (X_storeopM (l := σ 80000) (c := c27) (xs := l5) (v := e10) (u := (k3, e10.2.1, e10.2.2)) (id := 80000) (sz := 3) (off := 0) (T0 := 27) (n := i4) (vc := [Ti k3]) rfl rfl (by kernel_rfl) (by kernel_rfl) he10 (by kernel_rfl) sz3 (Nat.le_of_ble_eq_true rfl) (by kernel_rfl)) ?_
      exact XE
     obtain ⟨k11, hk11, h⟩ := of_sI h
     refine V_sreg (mb 34 35) [80000] (s1 := ⟨.ow 80000 :: I k11 :: bt 3 (I i4 :: bt 28 []), [(80000, .parr (σ 80000) 27 3 ((l5.set (Int.toNat (i4)) ((k3, e10.2.1, e10.2.2))).map c27))]⟩) ?_ ?_
     ·refine XR 3 ?_
      refine XL_nil ?_
      subst hk11
      kernel_rfl
     obtain ⟨e12, he12, h⟩ := of_bind h
     obtain ⟨e13, he13, h⟩ := of_bind h
     obtain ⟨l14, hl14, h⟩ := of_bind h
     have hl14 := some_inj hl14
     refine V_sreg (mb 34 35) [80000] (s1 := ⟨.ow 80000 :: I k11 :: bt 3 (I i4 :: bt 28 []), [(80000, .parr (σ 80000) 27 3 (l14.map c27))]⟩) ?_ ?_
     ·refine XR 3 ?_
      refine L0 rfl rfl (Y0_idxoM (c := c27) (xs := l5.set (Int.toNat (i4)) ((k3, e10.2.1, e10.2.2))) (v := e12) (id := 80000) (T := 27) (sz := 3) (n := i4) Tryz.underlying24 sz27 rfl (by kernel_rfl) (by kernel_rfl) (by kernel_rfl) he12) ?_
      refine XR 1 ?_
      refine XL_cons rfl (X_storeopM (l := σ 80000) (c := c27) (xs := l5.set (Int.toNat (i4)) ((k3, e10.2.1, e10.2.2))) (v := e13) (u := (e13.1, k11, e13.2.2)) (id := 80000) (sz := 3) (off := 1) (T0 := 27) (n := i4) (vc := [Ti k11]) rfl rfl (by kernel_rfl) (by kernel_rfl) he13 (by kernel_rfl) sz3 (Nat.le_of_ble_eq_true rfl) (by kernel_rfl)) ?_
      refine XL_nil ?_
      subst hl14
      kernel_rfl
     obtain ⟨k15, hk15, h⟩ := of_sI h
     refine V_sreg (mb 34 35) [80000] (s1 := ⟨.ow 80000 :: I k15 :: bt 3 (I i4 :: bt 28 []), [(80000, .parr (σ 80000) 27 3 (l14.map c27))]⟩) ?_ ?_
     ·refine XR 3 ?_
      refine XL_nil ?_
      subst hk15
      kernel_rfl
     obtain ⟨e16, he16, h⟩ := of_bind h
     obtain ⟨e17, he17, h⟩ := of_bind h
     refine V_sreg (mb 34 35) [80000] (s1 := ⟨.ow 80000 :: I k15 :: bt 3 (I i4 :: bt 28 []), [(80000, .parr (σ 80000) 27 3 ((l14.set (Int.toNat (i4)) ((e17.1, e17.2.1, k15))).map c27))]⟩) ?_ ?_
     ·refine XR 3 ?_
      refine L0 rfl rfl (Y0_idxoM (c := c27) (xs := l14) (v := e16) (id := 80000) (T := 27) (sz := 3) (n := i4) Tryz.underlying24 sz27 rfl (by kernel_rfl) (by kernel_rfl) (by kernel_rfl) he16) ?_
      refine XR 1 ?_
      refine XL_cons rfl (X_storeopM (l := σ 80000) (c := c27) (xs := l14) (v := e17) (u := (e17.1, e17.2.1, k15)) (id := 80000) (sz := 3) (off := 2) (T0 := 27) (n := i4) (vc := [Ti k15]) rfl rfl (by kernel_rfl) (by kernel_rfl) he17 (by kernel_rfl) sz3 (Nat.le_of_ble_eq_true rfl) (by kernel_rfl)) ?_
      exact XE
     obtain ⟨k18, hk18, h⟩ := of_sI h
     refine V_reg (mb 34 35) [80000] (s1 := ⟨.ow 80000 :: I k18 :: bt 3 (I i4 :: bt 28 []), [(80000, .parr (σ 80000) 27 3 ((l14.set (Int.toNat (i4)) ((e17.1, e17.2.1, k15))).map c27))]⟩) ?_ ?_
     ·refine XR 3 ?_
      refine XL_nil ?_
      subst hk18
      kernel_rfl
     show V _ _ _ _
     obtain ⟨i19, hi19, h⟩ := of_sI h
     refine V_reg (mb 34 35) [80000] (s1 := ⟨.ow 80000 :: I k18 :: bt 3 (I i19 :: bt 28 []), [(80000, .parr (σ 80000) 27 3 ((l14.set (Int.toNat (i4)) ((e17.1, e17.2.1, k15))).map c27))]⟩) ?_ ?_
     ·refine XR 3 ?_
      refine XL_nil ?_
      subst hi19
      kernel_rfl
     exact ⟨n, Nat.lt_succ_self n, _, _, _,  by rfl, h⟩
    ·have h := of_false h hc8
     refine V_exit ?_
     obtain rfl := some_inj h
     show St.keep _ _ _ = _
     rfl
  show V _ _ _ _
  refine V_e (mb 34 16) [80000] (s1 := ⟨bt 4 (I o7.1 :: bt 29 []), [(80000, .parr (σ 80000) 27 3 (o7.2.map c27))]⟩) ?_
  refine V_ret ?_
  obtain rfl := some_inj h
  show PostR _ _ _ _ _ _
  exact ⟨⟨.inr rfl, rfl, rfl, rfl⟩, ⟨rfl, trivial⟩⟩
theorem cf_laws_heldFormS : ∀ args w, (callFunc 11 args).run Tryz.prog w = .ok (.enter 11 args) w := run_callFunc Tryz.func11 (by kernel_rfl) (by kernel_rfl)
theorem s_laws_heldFormS {a1 : List ((Int × Int × Int))} {k2 : Int} {r : Int} (h : r_laws_heldFormS a1 k2 = some r) : CallS Tryz.prog 11 [.c (.sl (a1.map c27)), I k2] (I r) [] := by
  refine CallS_of_text (rs := [.t 4]) (vs := [.tmp 4]) Tryz.func11 rfl rfl (.cons rfl FitsL.nil) (by decide) 40 rfl ?_
  unfold r_laws_heldFormS at h
  show V _ _ ⟨.c (.sl (a1.map c27)) :: I k2 :: bt 38 [], []⟩ _
  refine V_e (mb 40 3) [] (s1 := ⟨.c (.sl (a1.map c27)) :: I k2 :: bt 38 [], []⟩) ?_
  refine V_seq ?_
  refine V_e (mb 40 35) [] (s1 := ⟨.c (.sl (a1.map c27)) :: I k2 :: bt 3 (I 0 :: bt 34 []), []⟩) ?_
  obtain ⟨qo6, hLo6, hko6⟩ := of_bind h
  refine V_toS (q := qo6) (S := fun o6 => ⟨.bot :: I o6 :: bt 38 [], []⟩) (mb 40 2) [] ?_ ?_
  ·refine V_block (V_loop (fun n s => ∃ (k3 : Int) (i4 : Int), s.keep (mb 40 35) [] = (⟨.c (.sl (a1.map c27)) :: I k3 :: bt 3 (I i4 :: bt 34 []), []⟩ : St) ∧ r_laws_heldFormS_L5 a1 n k3 i4 = some qo6) FU ⟨_, _,  by rfl, hLo6⟩ ?_)
   clear hLo6
   rintro n s ⟨k3, i4, hs, h⟩
   refine V_keep _ _ hs ?_
   clear hs
   cases n with
   | zero => cases h
   | succ n =>
    rw [r_laws_heldFormS_L5] at h
    refine V_seq ?_
    refine V_sreg (mb 40 547) [] (s1 := ⟨.c (.sl (a1.map c27)) :: I k3 :: bt 3 (I i4 :: bt 3 (Bo (ltI i4 ((a1.length : Int))) :: bt 30 [])), []⟩) ?_ ?_
    ·refine XR 2 ?_
     refine L0 rfl rfl (Y0_lenM (c := c27) (xs := a1) Tryz.underlying24 rfl (by kernel_rfl)) ?_
     exact XE
    refine V_cond rfl (fun hc7 => ?_) (fun hc7 => ?_)
    ·have h := of_true h hc7
     refine V_skip ?_
     show V _ _ _ _
     refine V_seq ?_
     refine V_block ?_
     refine V_seq ?_
     obtain ⟨e8, he8, h⟩ := of_bind h
     refine V_sreg (mb 40 262179) [] (s1 := ⟨.c (.sl (a1.map c27)) :: I k3 :: bt 3 (I i4 :: bt 12 (Bo (!eqI e8.1 k3) :: bt 21 [])), []⟩) ?_ ?_
     ·refine XR 2 ?_
      refine L0 rfl rfl (Y0_idxM (c := c27) (xs := a1) (v := e8) (n := i4) Tryz.underlying24 sz27 rfl (by kernel_rfl) (by kernel_rfl) he8) ?_
      exact XE
     refine V_cond rfl (fun hc9 => ?_) (fun hc9 => ?_)
     ·have h := of_true h hc9
      refine V_e (mb 40 16) [] (s1 := ⟨bt 4 (I (-1) :: bt 35 []), []⟩) ?_
      refine V_ret ?_
      obtain rfl := some_inj h
      have h := hko6
      obtain rfl := some_inj h
      show Post _ _ _ _ _
      exact ⟨.inr rfl, rfl, rfl, rfl⟩
     ·have h := of_false h hc9
      refine V_skip ?_
      show V _ _ _ _
      obtain ⟨k10, hk10, h⟩ := of_sI h
      refine V_sreg (mb 40 35) [] (s1 := ⟨.c (.sl (a1.map c27)) :: I k10 :: bt 3 (I i4 :: bt 34 []), []⟩) ?_ ?_
      ·refine XR 3 ?_
       refine XL_nil ?_
       subst hk10
       kernel_rfl
      refine V_seq ?_
      obtain ⟨e11, he11, h⟩ := of_bind h
      refine V_sreg (mb 40 134217763) [] (s1 := ⟨.c (.sl (a1.map c27)) :: I k10 :: bt 3 (I i4 :: bt 21 (Bo (!eqI e11.2.1 k10) :: bt 12 [])), []⟩) ?_ ?_
      ·refine XR 2 ?_
       refine L0 rfl rfl (Y0_idxM (c := c27) (xs := a1) (v := e11) (n := i4) Tryz.underlying24 sz27 rfl (by kernel_rfl) (by kernel_rfl) he11) ?_
       exact XE
      refine V_cond rfl (fun hc12 => ?_) (fun hc12 => ?_)
      ·have h := of_true h hc12
       refine V_e (mb 40 16) [] (s1 := ⟨bt 4 (I (-1) :: bt 35 []), []⟩) ?_
       refine V_ret ?_
       obtain rfl := some_inj h
       have h := hko6
       obtain rfl := some_inj h
       show Post _ _ _ _ _
       exact ⟨.inr rfl, rfl, rfl, rfl⟩
      ·have h := of_false h hc12
       refine V_skip ?_
       show V _ _ _ _
       obtain ⟨k13, hk13, h⟩ := of_sI h
       refine V_sreg (mb 40 35) [] (s1 := ⟨.c (.sl (a1.map c27)) :: I k13 :: bt 3 (I i4 :: bt 34 []), []⟩) ?_ ?_
       ·refine XR 3 ?_
        refine XL_nil ?_
        subst hk13
        kernel_rfl
       refine V_seq ?_
       obtain ⟨e14, he14, h⟩ := of_bind h
       refine V_sreg (mb 40 68719476771) [] (s1 := ⟨.c (.sl (a1.map c27)) :: I k13 :: bt 3 (I i4 :: bt 30 (Bo (!eqI e14.2.2 k13) :: bt 3 [])), []⟩) ?_ ?_
       ·refine XR 2 ?_
        refine L0 rfl rfl (Y0_idxM (c := c27) (xs := a1) (v := e14) (n := i4) Tryz.underlying24 sz27 rfl (by kernel_rfl) (by kernel_rfl) he14) ?_
        exact XE
       refine V_cond rfl (fun hc15 => ?_) (fun hc15 => ?_)
       ·have h := of_true h hc15
        refine V_e (mb 40 16) [] (s1 := ⟨bt 4 (I (-1) :: bt 35 []), []⟩) ?_
        refine V_ret ?_
        obtain rfl := some_inj h
        have h := hko6
        obtain rfl := some_inj h
        show Post _ _ _ _ _
        exact ⟨.inr rfl, rfl, rfl, rfl⟩
       ·have h := of_false h hc15
        refine V_skip ?_
        show V _ _ _ _
        obtain ⟨k16, hk16, h⟩ := of_sI h
        refine V_reg (mb 40 35) [] (s1 := ⟨.c (.sl (a1.map c27)) :: I k16 :: bt 3 (I i4 :: bt 34 []), []⟩) ?_ ?_
        ·refine XR 3 ?_
         refine XL_nil ?_
         subst hk16
         kernel_rfl
        show V _ _ _ _
        obtain ⟨i17, hi17, h⟩ := of_sI h
        refine V_reg (mb 40 35) [] (s1 := ⟨.c (.sl (a1.map c27)) :: I k16 :: bt 3 (I i17 :: bt 34 []), []⟩) ?_ ?_
        ·refine XR 3 ?_
         refine XL_nil ?_
         subst hi17
         kernel_rfl
        exact ⟨n, Nat.lt_succ_self n, _, _,  by rfl, h⟩
    ·have h := of_false h hc7
     refine V_exit ?_
     obtain rfl := some_inj h
     exact ⟨_, rfl, by rfl⟩
  rintro o6 rfl
  have h := hko6
  clear hko6
  show V _ _ _ _
  refine V_e (mb 40 16) [] (s1 := ⟨bt 4 (I o6 :: bt 35 []), []⟩) ?_
  refine V_ret ?_
  obtain rfl := some_inj h
  show Post _ _ _ _ _
  exact ⟨.inr rfl, rfl, rfl, rfl⟩
theorem cf_laws_FnExactUpperForms : ∀ args w, (callFunc 3 args).run Tryz.prog w = .ok (.enter 3 args) w := run_callFunc Tryz.func3 (by kernel_rfl) (by kernel_rfl)
theorem s_laws_FnExactUpperForms {aF1 : (Int × Int × Int)} {aP2 : Int} {r : Bool} (h : r_laws_FnExactUpperForms aF1 aP2 = some r) : CallS Tryz.prog 3 [.ag [Ti aF1.1, Ti aF1.2.1, Ti aF1.2.2], I aP2] (Bo r) [] := by
  refine CallS_of_text (rs := [.t 4]) (vs := [.tmp 4]) Tryz.func3 rfl rfl (.cons rfl FitsL.nil) (by decide) 71 rfl ?_
  unfold r_laws_FnExactUpperForms at h
  show V _ _ ⟨.ag [Ti aF1.1, Ti aF1.2.1, Ti aF1.2.2] :: I aP2 :: bt 69 [], []⟩ _
  refine V_e (mb 71 6) [16] (s1 := ⟨.bot :: I aP2 :: .pt 16 0 :: bt 68 [], [(16, .box [Ti aF1.1, Ti aF1.2.1, Ti aF1.2.2])]⟩) ?_
  obtain ⟨y3, hy3, h⟩ := of_bind h
  obtain ⟨y4, hy4, h⟩ := of_bind h
  refine V_sreg (mb 71 102) [136, 16] (s1 := ⟨.bot :: I aP2 :: .pt 16 0 :: .bot :: .bot :: .ow 136 :: Bo y4.2 :: bt 64 [], [(136, .arr 27 3 (y4.1.map c27)), (16, .box [Ti aF1.1, Ti aF1.2.1, Ti aF1.2.2])]⟩) ?_ ?_
  ·refine XR 1 ?_
   refine XC (s_laws_toForm hy3) cf_laws_toForm rfl rfl rfl ?_
   refine XR 1 ?_
   refine XC (s_spec_UpperForms hy4) cf_spec_UpperForms rfl rfl rfl ?_
   exact XE
  obtain ⟨y5, hy5, h⟩ := of_bind h
  obtain ⟨y6, hy6, h⟩ := of_bind h
  refine V_sreg (mb 71 486) [192, 136, 16] (s1 := ⟨.bot :: I aP2 :: .pt 16 0 :: .bot :: .bot :: .ow 136 :: Bo y4.2 :: .ow 192 :: Bo y6.2 :: bt 62 [], [(192, .arr 27 3 (y6.1.map c27)), (136, .arr 27 3 (y4.1.map c27)), (16, .box [Ti aF1.1, Ti aF1.2.1, Ti aF1.2.2])]⟩) ?_ ?_
  ·refine XR 1 ?_
   refine XC (s_laws_toForm hy5) cf_laws_toForm rfl rfl rfl ?_
   refine XR 1 ?_
   refine XC (s_impl_UpperForms hy6) cf_impl_UpperForms rfl rfl rfl ?_
   exact XE
  refine V_seq ?_
  obtain ⟨y7, hy7, h⟩ := of_bind h
  refine V_sreg (mb 71 34359738598) [192, 136, 16] (s1 := ⟨.bot :: I aP2 :: .pt 16 0 :: .bot :: .bot :: .ow 136 :: Bo y4.2 :: .ow 192 :: bt 27 (Bo (bif (!y7) then true else (y6.2 != y4.2)) :: bt 35 []), [(192, .arr 27 3 (y6.1.map c27)), (136, .arr 27 3 (y4.1.map c27)), (16, .box [Ti aF1.1, Ti aF1.2.1, Ti aF1.2.2])]⟩) ?_ ?_
  ·refine XR 2 ?_
   refine L1 rfl rfl (Y1_callS (s_laws_eqFormS hy7) cf_laws_eqFormS rfl (by kernel_rfl) rfl rfl) ?_
   refine XR 2 ?_
   refine XL_split (!y7) (fun hc8 => ?_) (fun hc8 => ?_)
   ·refine XL_skipF _ rfl rfl (by kernel_rfl) hc8 rfl ?_
    refine XL_skipF _ rfl rfl (by kernel_rfl) hc8 rfl ?_
    refine XL_skipF _ rfl rfl (by kernel_rfl) hc8 rfl ?_
    refine XL_cons rfl (X_of_Y0 rfl (Y0_pick1 (b := !y7) (p := true) (q := y6.2 != y4.2) rfl (by kernel_rfl) hc8 (by kernel_rfl))) ?_
    exact XE
   ·refine XL_takeC _ rfl rfl (by kernel_rfl) hc8 (X_of_Y0 rfl (E_move (Bo y6.2) rfl (by kernel_rfl))) ?_
    refine XL_takeC _ rfl rfl (by kernel_rfl) hc8 (X_of_Y0 rfl (E_move (Bo y4.2) rfl (by kernel_rfl))) ?_
    refine XL_takeC _ rfl rfl (by kernel_rfl) hc8 (X_of_Y0 rfl (Y0_neb (a := y6.2) (b := y4.2) Tryz.underlying4 rfl (by kernel_rfl) (by kernel_rfl))) ?_
    refine XL_cons rfl (X_of_Y0 rfl (Y0_pick0 (b := !y7) (p := true) (q := y6.2 != y4.2) rfl (by kernel_rfl) hc8 (by kernel_rfl))) ?_
    exact XE
  refine V_cond rfl (fun hc9 => ?_) (fun hc9 => ?_)
  ·have h := of_true h hc9
   refine V_e (mb 71 16) [] (s1 := ⟨bt 4 (Bo false :: bt 66 []), []⟩) ?_
   refine V_ret ?_
   obtain rfl := some_inj h
   show Post _ _ _ _ _
   exact ⟨.inr rfl, rfl, rfl, rfl⟩
  ·have h := of_false h hc9
   refine V_skip ?_
   show V _ _ _ _
   refine V_e (mb 71 742) [192, 136, 16] (s1 := ⟨.bot :: I aP2 :: .pt 16 0 :: .bot :: .bot :: .ow 136 :: Bo y4.2 :: .ow 192 :: .bot :: I 1 :: bt 61 [], [(192, .arr 27 3 (y6.1.map c27)), (136, .arr 27 3 (y4.1.map c27)), (16, .box [Ti aF1.1, Ti aF1.2.1, Ti aF1.2.2])]⟩) ?_
   obtain ⟨y10, hy10, h⟩ := of_bind h
   refine V_sreg (mb 71 742) [192, 136, 16] (s1 := ⟨.bot :: I aP2 :: .pt 16 0 :: .bot :: .bot :: .ow 136 :: Bo y4.2 :: .ow 192 :: .bot :: I y10.1 :: bt 61 [], [(192, .arr 27 3 (y10.2.map c27)), (136, .arr 27 3 (y4.1.map c27)), (16, .box [Ti aF1.1, Ti aF1.2.1, Ti aF1.2.2])]⟩) ?_ ?_
   ·refine XR 2 ?_
    refine XL_cons rfl (X_callR (E' := [(192, .arr 27 3 (y10.2.map c27)), (136, .arr 27 3 (y4.1.map c27)), (16, .box [Ti aF1.1, Ti aF1.2.1, Ti aF1.2.2])]) [(80000, 192)] 38 (s_laws_markFormS hy10) cf_laws_markFormS rfl rfl (by kernel_rfl) rfl (mE_cons (by kernel_rfl) mE_nil) rfl (by kernel_rfl) rfl rfl (by kernel_rfl)) ?_
    exact XE
   refine V_e (mb 71 1766) [192, 136, 16] (s1 := ⟨.bot :: I aP2 :: .pt 16 0 :: .bot :: .bot :: .ow 136 :: Bo y4.2 :: .ow 192 :: .bot :: I y10.1 :: I 1 :: bt 60 [], [(192, .arr 27 3 (y10.2.map c27)), (136, .arr 27 3 (y4.1.map c27)), (16, .box [Ti aF1.1, Ti aF1.2.1, Ti aF1.2.2])]⟩) ?_
   obtain ⟨y11, hy11, h⟩ := of_bind h
   refine V_sreg (mb 71 1766) [192, 136, 16] (s1 := ⟨.bot :: I aP2 :: .pt 16 0 :: .bot :: .bot :: .ow 136 :: Bo y4.2 :: .ow 192 :: .bot :: I y10.1 :: I y11 :: bt 60 [], [(192, .arr 27 3 (y10.2.map c27)), (136, .arr 27 3 (y4.1.map c27)), (16, .box [Ti aF1.1, Ti aF1.2.1, Ti aF1.2.2])]⟩) ?_ ?_
   ·refine XR 2 ?_
    refine L1 rfl rfl (Y1_callS (s_laws_heldFormS hy11) cf_laws_heldFormS rfl (by kernel_rfl) rfl rfl) ?_
    exact XE
   refine V_seq ?_
   refine V_e (mb 71 8796093023974) [192, 136, 16] (s1 := ⟨.bot :: I aP2 :: .pt 16 0 :: .bot :: .bot :: .ow 136 :: Bo y4.2 :: .ow 192 :: .bot :: I y10.1 :: I y11 :: bt 32 (Bo (ltI y11 0) :: bt 27 []), [(192, .arr 27 3 (y10.2.map c27)), (136, .arr 27 3 (y4.1.map c27)), (16, .box [Ti aF1.1, Ti aF1.2.1, Ti aF1.2.2])]⟩) ?_
   refine V_cond rfl (fun hc12 => ?_) (fun hc12 => ?_)
   ·have h := of_true h hc12
    refine V_e (mb 71 16) [] (s1 := ⟨bt 4 (Bo false :: bt 66 []), []⟩) ?_
    refine V_ret ?_
    obtain rfl := some_inj h
    show Post _ _ _ _ _
    exact ⟨.inr rfl, rfl, rfl, rfl⟩
   ·have h := of_false h hc12
    refine V_skip ?_
    show V _ _ _ _
    refine V_seq ?_
    refine V_e (mb 71 70368744178406) [192, 136, 16] (s1 := ⟨.bot :: I aP2 :: .pt 16 0 :: .bot :: .bot :: .ow 136 :: Bo y4.2 :: .ow 192 :: .bot :: I y10.1 :: bt 36 (Bo (!eqI y11 y10.1) :: bt 24 []), [(192, .arr 27 3 (y10.2.map c27)), (136, .arr 27 3 (y4.1.map c27)), (16, .box [Ti aF1.1, Ti aF1.2.1, Ti aF1.2.2])]⟩) ?_
    refine V_cond rfl (fun hc13 => ?_) (fun hc13 => ?_)
    ·have h := of_true h hc13
     refine V_e (mb 71 16) [] (s1 := ⟨bt 4 (Bo false :: bt 66 []), []⟩) ?_
     refine V_ret ?_
     obtain rfl := some_inj h
     show Post _ _ _ _ _
     exact ⟨.inr rfl, rfl, rfl, rfl⟩
    ·have h := of_false h hc13
     refine V_skip ?_
     show V _ _ _ _
     obtain ⟨y14, hy14, h⟩ := of_bind h
     obtain ⟨y15, hy15, h⟩ := of_bind h
     refine V_sreg (mb 71 6880) [408, 192, 136] (s1 := ⟨bt 5 (.ow 136 :: Bo y4.2 :: .ow 192 :: .bot :: I y10.1 :: .bot :: .ow 408 :: Bo y15.2 :: bt 58 []), [(408, .arr 27 3 (y15.1.map c27)), (192, .arr 27 3 (y10.2.map c27)), (136, .arr 27 3 (y4.1.map c27))]⟩) ?_ ?_
     ·refine XR 1 ?_
      refine XC (s_laws_toForm hy14) cf_laws_toForm rfl rfl rfl ?_
      refine XR 1 ?_
      refine XC (s_impl_UpperForms hy15) cf_impl_UpperForms rfl rfl rfl ?_
      exact XE
     refine V_seq ?_
     obtain ⟨y16, hy16, h⟩ := of_bind h
     refine V_sreg (mb 71 4611686018427388544) [192] (s1 := ⟨bt 7 (.ow 192 :: .bot :: I y10.1 :: bt 52 (Bo (bif (!y16) then true else (y15.2 != y4.2)) :: bt 8 [])), [(192, .arr 27 3 (y10.2.map c27))]⟩) ?_ ?_
     ·refine XR 2 ?_
      refine L1 rfl rfl (Y1_callS (s_laws_eqFormS hy16) cf_laws_eqFormS rfl (by kernel_rfl) rfl rfl) ?_
      refine XR 2 ?_
      refine XL_split (!y16) (fun hc17 => ?_) (fun hc17 => ?_)
      ·refine XL_skipF _ rfl rfl (by kernel_rfl) hc17 rfl ?_
       refine XL_skipF _ rfl rfl (by kernel_rfl) hc17 rfl ?_
       refine XL_skipF _ rfl rfl (by kernel_rfl) hc17 rfl ?_
       refine XL_cons rfl (X_of_Y0 rfl (Y0_pick1 (b := !y16) (p := true) (q := y15.2 != y4.2) rfl (by kernel_rfl) hc17 (by kernel_rfl))) ?_
       exact XE
      ·refine XL_takeC _ rfl rfl (by kernel_rfl) hc17 (X_of_Y0 rfl (E_move (Bo y15.2) rfl (by kernel_rfl))) ?_
       refine XL_takeC _ rfl rfl (by kernel_rfl) hc17 (X_of_Y0 rfl (E_move (Bo y4.2) rfl (by kernel_rfl))) ?_
       refine XL_takeC _ rfl rfl (by kernel_rfl) hc17 (X_of_Y0 rfl (Y0_neb (a := y15.2) (b := y4.2) Tryz.underlying4 rfl (by kernel_rfl) (by kernel_rfl))) ?_
       refine XL_cons rfl (X_of_Y0 rfl (Y0_pick0 (b := !y16) (p := true) (q := y15.2 != y4.2) rfl (by kernel_rfl) hc17 (by kernel_rfl))) ?_
       exact XE
     refine V_cond rfl (fun hc18 => ?_) (fun hc18 => ?_)
     ·have h := of_true h hc18
      refine V_e (mb 71 16) [] (s1 := ⟨bt 4 (Bo false :: bt 66 []), []⟩) ?_
      refine V_ret ?_
      obtain rfl := some_inj h
      show Post _ _ _ _ _
      exact ⟨.inr rfl, rfl, rfl, rfl⟩
     ·have h := of_false h hc18
      refine V_skip ?_
      show V _ _ _ _
      refine V_e (mb 71 1664) [192] (s1 := ⟨bt 7 (.ow 192 :: .bot :: I y10.1 :: I 1 :: bt 60 []), [(192, .arr 27 3 (y10.2.map c27))]⟩) ?_
      obtain ⟨y19, hy19, h⟩ := of_bind h
      refine V_sreg (mb 71 1536) [] (s1 := ⟨bt 9 (I y10.1 :: I y19 :: bt 60 []), []⟩) ?_ ?_
      ·refine XR 2 ?_
       refine L1 rfl rfl (Y1_callS (s_laws_heldFormS hy19) cf_laws_heldFormS rfl (by kernel_rfl) rfl rfl) ?_
       exact XE
      refine V_seq ?_
      refine V_e (mb 71 147573952589676414464) [] (s1 := ⟨bt 9 (I y10.1 :: I y19 :: bt 56 (Bo (ltI y19 0) :: bt 3 [])), []⟩) ?_
      refine V_cond rfl (fun hc20 => ?_) (fun hc20 => ?_)
      ·have h := of_true h hc20
       refine V_e (mb 71 16) [] (s1 := ⟨bt 4 (Bo false :: bt 66 []), []⟩) ?_
       refine V_ret ?_
       obtain rfl := some_inj h
       show Post _ _ _ _ _
       exact ⟨.inr rfl, rfl, rfl, rfl⟩
      ·have h := of_false h hc20
       refine V_skip ?_
       show V _ _ _ _
       refine V_seq ?_
       refine V_e (mb 71 1180591620717411303424) [] (s1 := ⟨bt 70 (Bo (!eqI y19 y10.1) :: []), []⟩) ?_
       refine V_cond rfl (fun hc21 => ?_) (fun hc21 => ?_)
       ·have h := of_true h hc21
        refine V_e (mb 71 16) [] (s1 := ⟨bt 4 (Bo false :: bt 66 []), []⟩) ?_
        refine V_ret ?_
        obtain rfl := some_inj h
        show Post _ _ _ _ _
        exact ⟨.inr rfl, rfl, rfl, rfl⟩
       ·have h := of_false h hc21
        refine V_skip ?_
        show V _ _ _ _
        refine V_e (mb 71 16) [] (s1 := ⟨bt 4 (Bo true :: bt 66 []), []⟩) ?_
        refine V_ret ?_
        obtain rfl := some_inj h
        show Post _ _ _ _ _
        exact ⟨.inr rfl, rfl, rfl, rfl⟩
end Go.Proofs.YtnheekadeflecaaGreat
