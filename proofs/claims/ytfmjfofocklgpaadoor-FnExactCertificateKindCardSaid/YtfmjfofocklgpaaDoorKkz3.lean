/-
  Rules of walks, plain functions and their laws, part 3.
  Conditions: none.
-/
import Derived.Test.YtfmjfofocklgpaaDoorRows
import Derived.Test.YtfmjfofocklgpaaDoorKkz2
namespace Go.Proofs.YtfmjfofocklgpaaDoor
open Go.RowKit
set_option linter.unusedVariables false
set_option linter.unusedSimpArgs false
set_option maxRecDepth 100000
set_option maxHeartbeats 400000
def c9 (x : ByteArray) : List Tr := [.v (.string x)]
def c3 (x : Int) : List Tr := [Ti x]
def c40 (x : (Int × Int × Int)) : List Tr := [Ti x.1, Ti x.2.1, Ti x.2.2]
def c44 (x : (Int × Int × Int × Int)) : List Tr := [Ti x.1, Ti x.2.1, Ti x.2.2.1, Ti x.2.2.2]
def zv3 : Value := .int .i64 0
def zv9 : Value := .string ByteArray.empty
def zv40 : Value := .agg #[.int .i64 0, .int .i64 0, .int .i64 0]
def zv44 : Value := .agg #[.int .i64 0, .int .i64 0, .int .i64 0, .int .i64 0]
theorem iz3 : (Tryd.prog.info? 3).map (fun i => (i.zero, i.size)) = some (some zv3, 1) := by kernel_rfl
theorem iz9 : (Tryd.prog.info? 9).map (fun i => (i.zero, i.size)) = some (some zv9, 1) := by kernel_rfl
theorem iz40 : (Tryd.prog.info? 40).map (fun i => (i.zero, i.size)) = some (some zv40, 3) := by kernel_rfl
theorem iz44 : (Tryd.prog.info? 44).map (fun i => (i.zero, i.size)) = some (some zv44, 4) := by kernel_rfl
theorem izb3 : (Tryd.prog.info? 3).map (fun i => (i.zero, i.size, i.bytes)) = some (some zv3, 1, 8) := by kernel_rfl
theorem izb9 : (Tryd.prog.info? 9).map (fun i => (i.zero, i.size, i.bytes)) = some (some zv9, 1, 16) := by kernel_rfl
theorem izb40 : (Tryd.prog.info? 40).map (fun i => (i.zero, i.size, i.bytes)) = some (some zv40, 3, 24) := by kernel_rfl
theorem izb44 : (Tryd.prog.info? 44).map (fun i => (i.zero, i.size, i.bytes)) = some (some zv44, 4, 32) := by kernel_rfl
theorem sc3 : scalar Tryd.prog 3 := ⟨_, Tryd.underlying3, rfl⟩
theorem sc9 : scalar Tryd.prog 9 := ⟨_, Tryd.underlying9, rfl⟩
theorem sz3 : (Tryd.prog.info? 3).map (·.size) = some 1 := by kernel_rfl
theorem sz9 : (Tryd.prog.info? 9).map (·.size) = some 1 := by kernel_rfl
theorem wd29 : wide Tryd.prog 29 3 := ⟨⟨_, Tryd.underlying29, rfl⟩, by kernel_rfl⟩
theorem wd33 : wide Tryd.prog 33 4 := ⟨⟨_, Tryd.underlying33, rfl⟩, by kernel_rfl⟩
theorem wd40 : wide Tryd.prog 40 3 := ⟨⟨_, Tryd.underlying40, rfl⟩, by kernel_rfl⟩
theorem wd44 : wide Tryd.prog 44 4 := ⟨⟨_, Tryd.underlying44, rfl⟩, by kernel_rfl⟩
def pl33 : Nat → Option (Nat × Nat) := fun i => (#[(0, 1), (1, 1), (2, 1), (3, 1)] : Array (Nat × Nat))[i]?
theorem bt33 : ∀ ps, Tryd.prog.built 33 ps = Instr.fill pl33 #[.string ByteArray.empty, .slice none 0 0, .slice none 0 0, .slice none 0 0] ps := fun ps => by kernel_rfl
def pl40 : Nat → Option (Nat × Nat) := fun i => (#[(0, 1), (1, 1), (2, 1)] : Array (Nat × Nat))[i]?
theorem bt40 : ∀ ps, Tryd.prog.built 40 ps = Instr.fill pl40 #[.int .i64 0, .int .i64 0, .int .i64 0] ps := fun ps => by kernel_rfl
def pl44 : Nat → Option (Nat × Nat) := fun i => (#[(0, 1), (1, 1), (2, 1), (3, 1)] : Array (Nat × Nat))[i]?
theorem bt44 : ∀ ps, Tryd.prog.built 44 ps = Instr.fill pl44 #[.int .i64 0, .int .i64 0, .int .i64 0, .int .i64 0] ps := fun ps => by kernel_rfl
def ek54 (x : ByteArray) : Value := .string x
def ev54 (x : ByteArray) : Value := .string x
def kv54 (p : ByteArray × ByteArray) : Value × Value := (ek54 p.1, ev54 p.2)
theorem kt54 : KeyT Tryd.prog 9 ek54 := by
  refine keyT_now (.string) Tryd.underlying9 (fun b a w => ?_) (fun a b => ?_) (fun a => ?_)
  · exact MapKept.run_checkKey Tryd.underlying9 (by simp [MapKept.IsKey, ek54]) b 9999
  · simp [ek54, Instr.sameNow, ba_beq]
  · simp [ek54, Instr.sameBits, ba_beq]
theorem mo54 : MpOk Tryd.prog 54 ek54 ev54 ByteArray.empty := ⟨9, 9, Tryd.underlying54, kt54, by kernel_rfl, fun _ => rfl⟩
theorem cf_spec_l1Split : ∀ args w, (callFunc 8 args).run Tryd.prog w = .ok (.enter 8 args) w := run_callFunc Tryd.func8 kk kk
theorem s_spec_l1Split {vs1 : ByteArray} {b2 : Int} {r : List ByteArray} (h : r_spec_l1Split vs1 b2 = some r) : CallS Tryd.prog 8 [.c (.v (.string vs1)), .c (.v (.int .u8 b2))] (.ow 0) [(0, .arr 9 1 (r.map c9))] := by
  refine CallS_of_text (rs := [.t 4]) (vs := [.tmp 4]) Tryd.func8 rfl rfl (.cons rfl FitsL.nil) (by decide) 34 rfl ?_
  unfold r_spec_l1Split at h
  show V _ _ ⟨.c (.v (.string vs1)) :: .c (.v (.int .u8 b2)) :: bt 32 [], []⟩ _
  refine zJ (mb 34 3) [] (s1 := ⟨.c (.v (.string vs1)) :: .c (.v (.int .u8 b2)) :: bt 32 [], []⟩) ?_ ?_
  ·refine L1 rfl rfl (Y1_nil (e := 9) 1 (by decide) (.inl rfl)) ?_
   exact XE
  refine zJ (mb 34 35) [40] (s1 := ⟨.c (.v (.string vs1)) :: .c (.v (.int .u8 b2)) :: bt 3 (.ow 40 :: bt 28 []), [(40, .arr 9 1 ((([] : List ByteArray)).map c9))]⟩) ?_ ?_
  ·refine L1 rfl rfl (Y1_nil (e := 9) 1 (by decide) (.inl rfl)) ?_
   exact XE
  refine V_e (mb 34 99) [40] (s1 := ⟨.c (.v (.string vs1)) :: .c (.v (.int .u8 b2)) :: bt 3 (.ow 40 :: I 0 :: bt 27 []), [(40, .arr 9 1 ((([] : List ByteArray)).map c9))]⟩) ?_
  refine V_seq ?_
  refine V_e (mb 34 227) [40] (s1 := ⟨.c (.v (.string vs1)) :: .c (.v (.int .u8 b2)) :: bt 3 (.ow 40 :: I 0 :: I 0 :: bt 26 []), [(40, .arr 9 1 ((([] : List ByteArray)).map c9))]⟩) ?_
  obtain ⟨o7, hLo7, h⟩ := zA h
  refine V_toK (mb 34 97) [40] (s1 := ⟨.c (.v (.string vs1)) :: bt 4 (.ow 40 :: I o7.1 :: bt 27 []), [(40, .arr 9 1 (o7.2.map c9))]⟩) ?_ ?_
  ·clear h
   refine V_block (V_loop (fun n s => ∃ (vfrom3 : Int) (i4 : Int) (l5 : List ByteArray), s.keep (mb 34 227) [40] = (⟨.c (.v (.string vs1)) :: .c (.v (.int .u8 b2)) :: bt 3 (.ow 40 :: I vfrom3 :: I i4 :: bt 26 []), [(40, .arr 9 1 (l5.map c9))]⟩ : St) ∧ r_spec_l1Split_L6 b2 vs1 n vfrom3 i4 l5 = some o7) FU ⟨_, _, _,  by rfl, hLo7⟩ ?_)
   clear hLo7
   rintro n s ⟨vfrom3, i4, l5, hs, h⟩
   refine V_keep _ _ hs ?_
   clear hs
   cases n with
   | zero => cases h
   | succ n =>
    rw [r_spec_l1Split_L6] at h
    refine V_seq ?_
    refine zJ (mb 34 2275) [40] (s1 := ⟨.c (.v (.string vs1)) :: .c (.v (.int .u8 b2)) :: bt 3 (.ow 40 :: I vfrom3 :: I i4 :: bt 3 (Bo (ltI i4 ((vs1.size : Int))) :: bt 22 [])), [(40, .arr 9 1 (l5.map c9))]⟩) ?_ ?_
    ·refine XR 2 ?_
     refine L0 rfl rfl (Y0_lens (b := vs1) Tryd.underlying9 rfl kk) ?_
     exact XE
    refine V_cond rfl (fun hc8 => ?_) (fun hc8 => ?_)
    ·have h := of_true h hc8
     refine V_skip ?_
     show V _ _ _ _
     refine V_seq ?_
     refine V_block ?_
     obtain ⟨e9, he9, h⟩ := zA h
     refine zJ (mb 34 262371) [40] (s1 := ⟨.c (.v (.string vs1)) :: .c (.v (.int .u8 b2)) :: bt 3 (.ow 40 :: I vfrom3 :: I i4 :: bt 10 (Bo (eqI e9 b2) :: bt 15 [])), [(40, .arr 9 1 (l5.map c9))]⟩) ?_ ?_
     ·refine XR 2 ?_
      refine L0 rfl rfl (Y0_idxs (b := vs1) (k := .i64) (n := i4) (v := e9) Tryd.underlying9 rfl kk kk he9) ?_
      refine XR 1 ?_
      refine L0 rfl rfl (Y0_eqw (k := .u8) (a := e9) (b := b2) rfl kk kk) ?_
      exact XE
     refine V_cond rfl (fun hc10 => ?_) (fun hc10 => ?_)
     ·have h := of_true h hc10
      obtain ⟨u11, hu11, h⟩ := zA h
      obtain ⟨u12, hu12, h⟩ := zA h
      refine zJ (mb 34 163) [40] (s1 := ⟨.c (.v (.string vs1)) :: .c (.v (.int .u8 b2)) :: bt 3 (.ow 40 :: .bot :: I i4 :: bt 26 []), [(40, .arr 9 1 ((l5 ++ ([vs1.extract (Int.toNat vfrom3) (Int.toNat i4)])).map c9))]⟩) ?_ ?_
      ·refine XR 4 ?_
       refine L0 rfl rfl (Y0_slices (b := vs1) (l := vfrom3) (h := i4) Tryd.underlying9 rfl kk (fun y hy => by cases hy; exact ⟨.i64, kk⟩) (fun hh => by cases hh) (fun y hy => by cases hy; exact ⟨.i64, kk⟩) (fun hh => by cases hh) (slc_some hu11)) ?_
       refine L1 rfl rfl (Y1_bslice (z := zv9) (els := [vs1.extract (Int.toNat vfrom3) (Int.toNat i4)].map c9) Tryd.underlying36 iz9 rfl (by decide) rfl kk rfl (by simp [c9]) (by decide) (by decide)) ?_
       refine zH rfl (X_appendM (c := c9) (xs := l5) (ys := [vs1.extract (Int.toNat vfrom3) (Int.toNat i4)]) (id := 40) (z := zv9) rfl rfl Tryd.underlying36 izb9 rfl kk kk kk (fun _ => rfl) (by simp) (room_some hu12) (by decide)) ?_
       exact XE
      obtain ⟨vfrom13, hvfrom13, h⟩ := of_sI h
      refine V_reg (mb 34 227) [40] (s1 := ⟨.c (.v (.string vs1)) :: .c (.v (.int .u8 b2)) :: bt 3 (.ow 40 :: I vfrom13 :: I i4 :: bt 26 []), [(40, .arr 9 1 ((l5 ++ ([vs1.extract (Int.toNat vfrom3) (Int.toNat i4)])).map c9))]⟩) ?_ ?_
      ·refine XR 3 ?_
       refine zK ?_
       subst hvfrom13
       kernel_rfl
      show V _ _ _ _
      obtain ⟨i14, hi14, h⟩ := of_sI h
      refine V_reg (mb 34 227) [40] (s1 := ⟨.c (.v (.string vs1)) :: .c (.v (.int .u8 b2)) :: bt 3 (.ow 40 :: I vfrom13 :: I i14 :: bt 26 []), [(40, .arr 9 1 ((l5 ++ ([vs1.extract (Int.toNat vfrom3) (Int.toNat i4)])).map c9))]⟩) ?_ ?_
      ·refine XR 3 ?_
       refine zK ?_
       subst hi14
       kernel_rfl
      exact ⟨n, Nat.lt_succ_self n, _, _, _,  by rfl, h⟩
     ·have h := zI h hc10
      refine V_skip ?_
      show V _ _ _ _
      obtain ⟨i15, hi15, h⟩ := of_sI h
      refine V_reg (mb 34 227) [40] (s1 := ⟨.c (.v (.string vs1)) :: .c (.v (.int .u8 b2)) :: bt 3 (.ow 40 :: I vfrom3 :: I i15 :: bt 26 []), [(40, .arr 9 1 (l5.map c9))]⟩) ?_ ?_
      ·refine XR 3 ?_
       refine zK ?_
       subst hi15
       kernel_rfl
      exact ⟨n, Nat.lt_succ_self n, _, _, _,  by rfl, h⟩
    ·have h := zI h hc8
     refine V_exit ?_
     obtain rfl := zD h
     show St.keep _ _ _ = _
     rfl
  show V _ _ _ _
  obtain ⟨u16, hu16, h⟩ := zA h
  obtain ⟨u17, hu17, h⟩ := zA h
  obtain ⟨l18, hl18, h⟩ := zA h
  have hl18 := zD hl18
  refine zJ (mb 34 16) [40] (s1 := ⟨bt 4 (.ow 40 :: bt 29 []), [(40, .arr 9 1 (l18.map c9))]⟩) ?_ ?_
  ·refine XR 3 ?_
   refine L0 rfl rfl (Y0_slices (b := vs1) (l := o7.1) (h := (vs1.size : Int)) Tryd.underlying9 rfl kk (fun y hy => by cases hy; exact ⟨.i64, kk⟩) (fun hh => by cases hh) (fun y hy => by cases hy) (fun _ => rfl) (slc_some hu16)) ?_
   refine L1 rfl rfl (Y1_bslice (z := zv9) (els := [vs1.extract (Int.toNat o7.1) (Int.toNat ((vs1.size : Int)))].map c9) Tryd.underlying36 iz9 rfl (by decide) rfl kk rfl (by simp [c9]) (by decide) (by decide)) ?_
   refine zH rfl (X_appendM (c := c9) (xs := o7.2) (ys := [vs1.extract (Int.toNat o7.1) (Int.toNat ((vs1.size : Int)))]) (id := 40) (z := zv9) rfl rfl Tryd.underlying36 izb9 rfl kk kk kk (fun _ => rfl) (by simp) (room_some hu17) (by decide)) ?_
   refine XR 1 ?_
   refine zK ?_
   subst hl18
   kernel_rfl
  refine V_ret ?_
  obtain rfl := zD h
  show Post _ _ _ _ _
  exact ⟨.inr rfl, rfl, rfl, rfl⟩
theorem cf_spec_prWords : ∀ args w, (callFunc 9 args).run Tryd.prog w = .ok (.enter 9 args) w := run_callFunc Tryd.func9 kk kk
theorem s_spec_prWords {kind1 : ByteArray} {r : ByteArray} (h : r_spec_prWords kind1 = some r) : CallS Tryd.prog 9 [.c (.v (.string kind1))] (.c (.v (.string r))) [] := by
  refine CallS_of_text (rs := [.t 2]) (vs := [.tmp 2]) Tryd.func9 rfl rfl (.cons rfl FitsL.nil) (by decide) 20 rfl ?_
  unfold r_spec_prWords at h
  show V _ _ ⟨.c (.v (.string kind1)) :: bt 19 [], []⟩ _
  refine V_e (mb 20 1) [] (s1 := ⟨.c (.v (.string kind1)) :: bt 19 [], []⟩) ?_
  refine V_seq ?_
  refine V_e (mb 20 8) [] (s1 := ⟨bt 3 (.c (.v (.string kind1)) :: bt 16 []), []⟩) ?_
  refine V_block ?_
  obtain ⟨t2, ht2, h⟩ := zA h
  have ht2 := zD ht2
  refine zJ (mb 20 24) [] (s1 := ⟨bt 3 (.c (.v (.string kind1)) :: Bo t2 :: bt 15 []), []⟩) ?_ ?_
  ·refine L0 rfl rfl (Y0_eqs (a := kind1) (b := ((⟨#[101, 113, 117, 105, 118, 97, 108, 101, 110, 116]⟩ : ByteArray))) rfl kk kk) ?_
   refine XR 1 ?_
   refine zK ?_
   subst ht2
   kernel_rfl
  refine V_cond rfl (fun hc3 => ?_) (fun hc3 => ?_)
  ·have h := of_true h hc3
   refine V_e (mb 20 4) [] (s1 := ⟨.bot :: .bot :: .c (.v (.string ((⟨#[102, 102, 109]⟩ : ByteArray)))) :: bt 17 [], []⟩) ?_
   refine V_ret ?_
   obtain rfl := zD h
   show Post _ _ _ _ _
   exact ⟨.inr rfl, rfl, rfl, rfl⟩
  ·have h := zI h hc3
   obtain ⟨t4, ht4, h⟩ := zA h
   have ht4 := zD ht4
   refine zJ (mb 20 72) [] (s1 := ⟨bt 3 (.c (.v (.string kind1)) :: .bot :: .bot :: Bo t4 :: bt 13 []), []⟩) ?_ ?_
   ·refine L0 rfl rfl (Y0_eqs (a := kind1) (b := ((⟨#[100, 105, 102, 102, 101, 114, 101, 110, 116]⟩ : ByteArray))) rfl kk kk) ?_
    refine XR 1 ?_
    refine zK ?_
    subst ht4
    kernel_rfl
   refine V_cond rfl (fun hc5 => ?_) (fun hc5 => ?_)
   ·have h := of_true h hc5
    refine V_e (mb 20 4) [] (s1 := ⟨.bot :: .bot :: .c (.v (.string ((⟨#[102, 109, 102, 102, 109, 102]⟩ : ByteArray)))) :: bt 17 [], []⟩) ?_
    refine V_ret ?_
    obtain rfl := zD h
    show Post _ _ _ _ _
    exact ⟨.inr rfl, rfl, rfl, rfl⟩
   ·have h := zI h hc5
    obtain ⟨t6, ht6, h⟩ := zA h
    have ht6 := zD ht6
    refine zJ (mb 20 264) [] (s1 := ⟨bt 3 (.c (.v (.string kind1)) :: bt 4 (Bo t6 :: bt 11 [])), []⟩) ?_ ?_
    ·refine L0 rfl rfl (Y0_eqs (a := kind1) (b := ((⟨#[118, 97, 108, 117, 101]⟩ : ByteArray))) rfl kk kk) ?_
     refine XR 1 ?_
     refine zK ?_
     subst ht6
     kernel_rfl
    refine V_cond rfl (fun hc7 => ?_) (fun hc7 => ?_)
    ·have h := of_true h hc7
     refine V_e (mb 20 4) [] (s1 := ⟨.bot :: .bot :: .c (.v (.string ((⟨#[102, 110, 110, 110]⟩ : ByteArray)))) :: bt 17 [], []⟩) ?_
     refine V_ret ?_
     obtain rfl := zD h
     show Post _ _ _ _ _
     exact ⟨.inr rfl, rfl, rfl, rfl⟩
    ·have h := zI h hc7
     obtain ⟨j8, hj8, h⟩ := zA h
     refine V_cutK (mb 20 1032) [] (s1 := ⟨bt 3 (.c (.v (.string kind1)) :: bt 6 (Bo j8 :: bt 9 [])), []⟩) ?_ ?_
     ·clear h
      have h := hj8
      clear hj8
      obtain ⟨t9, ht9, h⟩ := zA h
      have ht9 := zD ht9
      refine zJ (mb 20 1032) [] (s1 := ⟨bt 3 (.c (.v (.string kind1)) :: bt 6 (Bo t9 :: bt 9 [])), []⟩) ?_ ?_
      ·refine L0 rfl rfl (Y0_eqs (a := kind1) (b := ((⟨#[111, 98, 115, 116, 114, 117, 99, 116, 105, 111, 110]⟩ : ByteArray))) rfl kk kk) ?_
       refine XR 1 ?_
       refine zK ?_
       subst ht9
       kernel_rfl
      refine V_cond rfl (fun hc10 => ?_) (fun hc10 => ?_)
      ·have h := of_true h hc10
       refine V_skip ?_
       obtain rfl := zD h
       show St.keep _ _ _ = _
       rfl
      ·have h := zI h hc10
       obtain ⟨t11, ht11, h⟩ := zA h
       have ht11 := zD ht11
       refine zJ (mb 20 1032) [] (s1 := ⟨bt 3 (.c (.v (.string kind1)) :: bt 6 (Bo t11 :: bt 9 [])), []⟩) ?_ ?_
       ·refine L0 rfl rfl (Y0_eqs (a := kind1) (b := ((⟨#[114, 111, 111, 116]⟩ : ByteArray))) rfl kk kk) ?_
        refine XR 1 ?_
        refine zK ?_
        subst ht11
        kernel_rfl
       refine V_cond rfl (fun hc12 => ?_) (fun hc12 => ?_)
       ·have h := of_true h hc12
        refine V_skip ?_
        obtain rfl := zD h
        show St.keep _ _ _ = _
        rfl
       ·have h := zI h hc12
        obtain ⟨t13, ht13, h⟩ := zA h
        have ht13 := zD ht13
        refine V_reg (mb 20 1032) [] (s1 := ⟨bt 3 (.c (.v (.string kind1)) :: bt 6 (Bo t13 :: bt 9 [])), []⟩) ?_ ?_
        ·refine L0 rfl rfl (Y0_eqs (a := kind1) (b := ((⟨#[115, 111, 108, 117, 116, 105, 111, 110]⟩ : ByteArray))) rfl kk kk) ?_
         refine XR 1 ?_
         refine zK ?_
         subst ht13
         kernel_rfl
        obtain rfl := zD h
        show St.keep _ _ _ = _
        rfl
     refine V_cond rfl (fun hc14 => ?_) (fun hc14 => ?_)
     ·have h := of_true h hc14
      refine V_e (mb 20 4) [] (s1 := ⟨.bot :: .bot :: .c (.v (.string ((⟨#[110, 110, 110]⟩ : ByteArray)))) :: bt 17 [], []⟩) ?_
      refine V_ret ?_
      obtain rfl := zD h
      show Post _ _ _ _ _
      exact ⟨.inr rfl, rfl, rfl, rfl⟩
     ·have h := zI h hc14
      obtain ⟨t15, ht15, h⟩ := zA h
      have ht15 := zD ht15
      refine zJ (mb 20 16392) [] (s1 := ⟨bt 3 (.c (.v (.string kind1)) :: bt 10 (Bo t15 :: bt 5 [])), []⟩) ?_ ?_
      ·refine L0 rfl rfl (Y0_eqs (a := kind1) (b := ((⟨#[99, 111, 109, 112, 111, 115, 105, 116, 101]⟩ : ByteArray))) rfl kk kk) ?_
       refine XR 1 ?_
       refine zK ?_
       subst ht15
       kernel_rfl
      refine V_cond rfl (fun hc16 => ?_) (fun hc16 => ?_)
      ·have h := of_true h hc16
       refine V_e (mb 20 4) [] (s1 := ⟨.bot :: .bot :: .c (.v (.string ((⟨#[102, 102, 102, 110, 110, 110, 110, 110, 110, 110, 110]⟩ : ByteArray)))) :: bt 17 [], []⟩) ?_
       refine V_ret ?_
       obtain rfl := zD h
       show Post _ _ _ _ _
       exact ⟨.inr rfl, rfl, rfl, rfl⟩
      ·have h := zI h hc16
       obtain ⟨t17, ht17, h⟩ := zA h
       have ht17 := zD ht17
       refine zJ (mb 20 65544) [] (s1 := ⟨bt 3 (.c (.v (.string kind1)) :: bt 12 (Bo t17 :: bt 3 [])), []⟩) ?_ ?_
       ·refine L0 rfl rfl (Y0_eqs (a := kind1) (b := ((⟨#[111, 114, 100, 101, 114]⟩ : ByteArray))) rfl kk kk) ?_
        refine XR 1 ?_
        refine zK ?_
        subst ht17
        kernel_rfl
       refine V_cond rfl (fun hc18 => ?_) (fun hc18 => ?_)
       ·have h := of_true h hc18
        refine V_e (mb 20 4) [] (s1 := ⟨.bot :: .bot :: .c (.v (.string ((⟨#[102, 110]⟩ : ByteArray)))) :: bt 17 [], []⟩) ?_
        refine V_ret ?_
        obtain rfl := zD h
        show Post _ _ _ _ _
        exact ⟨.inr rfl, rfl, rfl, rfl⟩
       ·have h := zI h hc18
        obtain ⟨t19, ht19, h⟩ := zA h
        have ht19 := zD ht19
        refine zJ (mb 20 262144) [] (s1 := ⟨bt 18 (Bo t19 :: .bot :: []), []⟩) ?_ ?_
        ·refine L0 rfl rfl (Y0_eqs (a := kind1) (b := ((⟨#[97, 117, 116, 111, 109, 111, 114, 112, 104]⟩ : ByteArray))) rfl kk kk) ?_
         refine XR 1 ?_
         refine zK ?_
         subst ht19
         kernel_rfl
        refine V_cond rfl (fun hc20 => ?_) (fun hc20 => ?_)
        ·have h := of_true h hc20
         refine V_e (mb 20 4) [] (s1 := ⟨.bot :: .bot :: .c (.v (.string ((⟨#[102, 109]⟩ : ByteArray)))) :: bt 17 [], []⟩) ?_
         refine V_ret ?_
         obtain rfl := zD h
         show Post _ _ _ _ _
         exact ⟨.inr rfl, rfl, rfl, rfl⟩
        ·have h := zI h hc20
         refine V_skip ?_
         show V _ _ _ _
         refine V_e (mb 20 4) [] (s1 := ⟨.bot :: .bot :: .c (.v (.string ((⟨#[]⟩ : ByteArray)))) :: bt 17 [], []⟩) ?_
         refine V_ret ?_
         obtain rfl := zD h
         show Post _ _ _ _ _
         exact ⟨.inr rfl, rfl, rfl, rfl⟩
theorem cf_spec_foInside : ∀ args w, (callFunc 18 args).run Tryd.prog w = .ok (.enter 18 args) w := run_callFunc Tryd.func18 kk kk
theorem s_spec_foInside {vs1 : ByteArray} {first2 : Int} {last3 : Int} {r : (ByteArray × Bool)} (h : r_spec_foInside vs1 first2 last3 = some r) : CallS Tryd.prog 18 [.c (.v (.string vs1)), .c (.v (.int .u8 first2)), .c (.v (.int .u8 last3))] (.tc (.c (.v (.string r.1))) (.tc (Bo r.2) .tn)) [] := by
  refine CallS_of_text (rs := [.t 6, .t 7]) (vs := [.tmp 6, .tmp 7]) Tryd.func18 rfl rfl (.cons rfl (.cons rfl FitsL.nil)) (by decide) 31 rfl ?_
  unfold r_spec_foInside at h
  show V _ _ ⟨.c (.v (.string vs1)) :: .c (.v (.int .u8 first2)) :: .c (.v (.int .u8 last3)) :: bt 28 [], []⟩ _
  refine V_e (mb 31 7) [] (s1 := ⟨.c (.v (.string vs1)) :: .c (.v (.int .u8 first2)) :: .c (.v (.int .u8 last3)) :: bt 28 [], []⟩) ?_
  refine V_seq ?_
  obtain ⟨b6, hb6, h⟩ := zA h
  obtain ⟨b9, hb9, h⟩ := zA h
  refine zJ (mb 31 33554433) [] (s1 := ⟨.c (.v (.string vs1)) :: bt 24 (Bo b9 :: bt 5 []), []⟩) ?_ ?_
  ·refine XR 1 ?_
   refine L0 rfl rfl (Y0_lens (b := vs1) Tryd.underlying9 rfl kk) ?_
   refine XR 2 ?_
   refine XL_split (ltI ((vs1.size : Int)) 2) (fun hc4 => ?_) (fun hc4 => ?_)
   ·have hb6 := zD (of_true hb6 hc4)
    refine zF _ rfl rfl kk hc4 rfl ?_
    refine zF _ rfl rfl kk hc4 rfl ?_
    refine zF _ rfl rfl kk hc4 rfl ?_
    refine zF _ rfl rfl kk hc4 rfl ?_
    refine zH rfl (zB rfl (Y0_pickTe (b := ltI ((vs1.size : Int)) 2) (p := true) rfl kk hc4 kk hb6)) ?_
    refine XR 1 ?_
    refine XL_split b6 (fun hc7 => ?_) (fun hc7 => ?_)
    ·have hb9 := zD (of_true hb9 hc7)
     refine zF _ rfl rfl kk hc7 rfl ?_
     refine zF _ rfl rfl kk hc7 rfl ?_
     refine zF _ rfl rfl kk hc7 rfl ?_
     refine zF _ rfl rfl kk hc7 rfl ?_
     refine zF _ rfl rfl kk hc7 rfl ?_
     refine zF _ rfl rfl kk hc7 rfl ?_
     refine zF _ rfl rfl kk hc7 rfl ?_
     refine zH rfl (zB rfl (Y0_pickTe (b := b6) (p := true) rfl kk hc7 kk hb9)) ?_
     exact XE
    ·have hb9 := zI hb9 hc7
     obtain ⟨e8, he8, hb9⟩ := zA hb9
     have hb9 := zD hb9
     refine zE _ rfl rfl kk hc7 (zB rfl (E_move (.c (.v (.string vs1))) rfl kk)) ?_
     refine zE _ rfl rfl kk hc7 (zB rfl (E_move (.c (.v (.string vs1))) rfl kk)) ?_
     refine zE _ rfl rfl kk hc7 (zB rfl (Y0_lens (b := vs1) Tryd.underlying9 rfl kk)) ?_
     refine zE _ rfl rfl kk hc7 (zB rfl (Y0_sub64 (a := (vs1.size : Int)) (b := 1) rfl kk kk)) ?_
     refine zE _ rfl rfl kk hc7 (zB rfl (Y0_idxs (b := vs1) (k := .i64) (n := w64 (((vs1.size : Int)) - 1)) (v := e8) Tryd.underlying9 rfl kk kk he8)) ?_
     refine zE _ rfl rfl kk hc7 (zB rfl (E_move (.c (.v (.int .u8 last3))) rfl kk)) ?_
     refine zE _ rfl rfl kk hc7 (zB rfl (Y0_new (k := .u8) (a := e8) (b := last3) rfl kk kk)) ?_
     refine zH rfl (zB rfl (Y0_pickFe (b := b6) (p := !eqI e8 last3) rfl kk hc7 kk hb9)) ?_
     exact XE
   ·have hb6 := zI hb6 hc4
    obtain ⟨e5, he5, hb6⟩ := zA hb6
    have hb6 := zD hb6
    refine zE _ rfl rfl kk hc4 (zB rfl (E_move (.c (.v (.string vs1))) rfl kk)) ?_
    refine zE _ rfl rfl kk hc4 (zB rfl (Y0_idxs (b := vs1) (k := .i64) (n := 0) (v := e5) Tryd.underlying9 rfl kk kk he5)) ?_
    refine zE _ rfl rfl kk hc4 (zB rfl (E_move (.c (.v (.int .u8 first2))) rfl kk)) ?_
    refine zE _ rfl rfl kk hc4 (zB rfl (Y0_new (k := .u8) (a := e5) (b := first2) rfl kk kk)) ?_
    refine zH rfl (zB rfl (Y0_pickFe (b := ltI ((vs1.size : Int)) 2) (p := !eqI e5 first2) rfl kk hc4 kk hb6)) ?_
    refine XR 1 ?_
    refine XL_split b6 (fun hc7 => ?_) (fun hc7 => ?_)
    ·have hb9 := zD (of_true hb9 hc7)
     refine zF _ rfl rfl kk hc7 rfl ?_
     refine zF _ rfl rfl kk hc7 rfl ?_
     refine zF _ rfl rfl kk hc7 rfl ?_
     refine zF _ rfl rfl kk hc7 rfl ?_
     refine zF _ rfl rfl kk hc7 rfl ?_
     refine zF _ rfl rfl kk hc7 rfl ?_
     refine zF _ rfl rfl kk hc7 rfl ?_
     refine zH rfl (zB rfl (Y0_pickTe (b := b6) (p := true) rfl kk hc7 kk hb9)) ?_
     exact XE
    ·have hb9 := zI hb9 hc7
     obtain ⟨e8, he8, hb9⟩ := zA hb9
     have hb9 := zD hb9
     refine zE _ rfl rfl kk hc7 (zB rfl (E_move (.c (.v (.string vs1))) rfl kk)) ?_
     refine zE _ rfl rfl kk hc7 (zB rfl (E_move (.c (.v (.string vs1))) rfl kk)) ?_
     refine zE _ rfl rfl kk hc7 (zB rfl (Y0_lens (b := vs1) Tryd.underlying9 rfl kk)) ?_
     refine zE _ rfl rfl kk hc7 (zB rfl (Y0_sub64 (a := (vs1.size : Int)) (b := 1) rfl kk kk)) ?_
     refine zE _ rfl rfl kk hc7 (zB rfl (Y0_idxs (b := vs1) (k := .i64) (n := w64 (((vs1.size : Int)) - 1)) (v := e8) Tryd.underlying9 rfl kk kk he8)) ?_
     refine zE _ rfl rfl kk hc7 (zB rfl (E_move (.c (.v (.int .u8 last3))) rfl kk)) ?_
     refine zE _ rfl rfl kk hc7 (zB rfl (Y0_new (k := .u8) (a := e8) (b := last3) rfl kk kk)) ?_
     refine zH rfl (zB rfl (Y0_pickFe (b := b6) (p := !eqI e8 last3) rfl kk hc7 kk hb9)) ?_
     exact XE
  refine V_cond rfl (fun hc10 => ?_) (fun hc10 => ?_)
  ·have h := of_true h hc10
   refine V_e (mb 31 192) [] (s1 := ⟨bt 6 (.c (.v (.string ((⟨#[]⟩ : ByteArray)))) :: Bo false :: bt 23 []), []⟩) ?_
   refine V_ret ?_
   obtain rfl := zD h
   show Post _ _ _ _ _
   exact ⟨.inr rfl, rfl, rfl, rfl⟩
  ·have h := zI h hc10
   refine V_skip ?_
   show V _ _ _ _
   obtain ⟨u11, hu11, h⟩ := zA h
   refine zJ (mb 31 192) [] (s1 := ⟨bt 6 (.c (.v (.string (vs1.extract (Int.toNat 1) (Int.toNat (w64 (((vs1.size : Int)) - 1)))))) :: Bo true :: bt 23 []), []⟩) ?_ ?_
   ·refine XR 2 ?_
    refine L0 rfl rfl (Y0_lens (b := vs1) Tryd.underlying9 rfl kk) ?_
    refine XR 1 ?_
    refine L0 rfl rfl (Y0_slices (b := vs1) (l := 1) (h := w64 (((vs1.size : Int)) - 1)) Tryd.underlying9 rfl kk (fun y hy => by cases hy; exact ⟨.i64, kk⟩) (fun hh => by cases hh) (fun y hy => by cases hy; exact ⟨.i64, kk⟩) (fun hh => by cases hh) (slc_some hu11)) ?_
    exact XE
   refine V_ret ?_
   obtain rfl := zD h
   show Post _ _ _ _ _
   exact ⟨.inr rfl, rfl, rfl, rfl⟩
theorem cf_spec_l1In : ∀ args w, (callFunc 30 args).run Tryd.prog w = .ok (.enter 30 args) w := run_callFunc Tryd.func30 kk kk
theorem s_spec_l1In {vn1 : Int} {lo2 : Int} {hi3 : Int} {r : Bool} (h : r_spec_l1In vn1 lo2 hi3 = some r) : CallS Tryd.prog 30 [I vn1, I lo2, I hi3] (Bo r) [] := by
  refine CallS_of_text (rs := [.t 6]) (vs := [.tmp 6]) Tryd.func30 rfl rfl (.cons rfl FitsL.nil) (by decide) 15 rfl ?_
  unfold r_spec_l1In at h
  show V _ _ ⟨I vn1 :: I lo2 :: I hi3 :: bt 12 [], []⟩ _
  refine V_e (mb 15 7) [] (s1 := ⟨I vn1 :: I lo2 :: I hi3 :: bt 12 [], []⟩) ?_
  refine zJ (mb 15 64) [] (s1 := ⟨bt 6 (Bo (bif (leI lo2 vn1) then (leI vn1 hi3) else false) :: bt 8 []), []⟩) ?_ ?_
  ·refine XR 4 ?_
   refine XL_split (leI lo2 vn1) (fun hc4 => ?_) (fun hc4 => ?_)
   ·refine zE _ rfl rfl kk hc4 (zB rfl (E_move (I vn1) rfl kk)) ?_
    refine zE _ rfl rfl kk hc4 (zB rfl (E_move (I hi3) rfl kk)) ?_
    refine zE _ rfl rfl kk hc4 (zB rfl (Y0_lew (k := .i64) (a := vn1) (b := hi3) rfl kk kk)) ?_
    refine zH rfl (zB rfl (Y0_pick1 (b := leI lo2 vn1) (p := leI vn1 hi3) (q := false) rfl kk hc4 kk)) ?_
    exact XE
   ·refine XL_skipT _ rfl rfl kk hc4 rfl ?_
    refine XL_skipT _ rfl rfl kk hc4 rfl ?_
    refine XL_skipT _ rfl rfl kk hc4 rfl ?_
    refine zH rfl (zB rfl (Y0_pick0 (b := leI lo2 vn1) (p := leI vn1 hi3) (q := false) rfl kk hc4 kk)) ?_
    exact XE
  refine V_ret ?_
  obtain rfl := zD h
  show Post _ _ _ _ _
  exact ⟨.inr rfl, rfl, rfl, rfl⟩
theorem cf_spec_nuRead : ∀ args w, (callFunc 20 args).run Tryd.prog w = .ok (.enter 20 args) w := run_callFunc Tryd.func20 kk kk
theorem s_spec_nuRead {vs1 : ByteArray} {r : Int} (h : r_spec_nuRead vs1 = some r) : CallS Tryd.prog 20 [.c (.v (.string vs1))] (I r) [] := by
  refine CallS_of_text (rs := [.t 2]) (vs := [.tmp 2]) Tryd.func20 rfl rfl (.cons rfl FitsL.nil) (by decide) 44 rfl ?_
  unfold r_spec_nuRead at h
  show V _ _ ⟨.c (.v (.string vs1)) :: bt 43 [], []⟩ _
  refine V_e (mb 44 1) [] (s1 := ⟨.c (.v (.string vs1)) :: bt 43 [], []⟩) ?_
  refine V_seq ?_
  obtain ⟨y2, hy2, h⟩ := zA h
  obtain ⟨b6, hb6, h⟩ := zA h
  refine zJ (mb 44 262145) [] (s1 := ⟨.c (.v (.string vs1)) :: bt 17 (Bo b6 :: bt 25 []), []⟩) ?_ ?_
  ·refine XR 1 ?_
   refine L0 rfl rfl (Y0_lens (b := vs1) Tryd.underlying9 rfl kk) ?_
   refine XC (s_spec_l1In hy2) cf_spec_l1In rfl rfl rfl ?_
   refine XR 2 ?_
   refine XL_split (!y2) (fun hc3 => ?_) (fun hc3 => ?_)
   ·have hb6 := zD (of_true hb6 hc3)
    refine zF _ rfl rfl kk hc3 rfl ?_
    refine zF _ rfl rfl kk hc3 rfl ?_
    refine zF _ rfl rfl kk hc3 rfl ?_
    refine zF _ rfl rfl kk hc3 rfl ?_
    refine XL_skip2 rfl rfl kk rfl ?_
    refine XL_skip2 rfl rfl kk rfl ?_
    refine XL_skip2 rfl rfl kk rfl ?_
    refine zF _ rfl rfl kk hc3 rfl ?_
    refine zH rfl (zB rfl (Y0_pickTe (b := !y2) (p := true) rfl kk hc3 kk hb6)) ?_
    exact XE
   ·have hb6 := zI hb6 hc3
    obtain ⟨e4, he4, hb6⟩ := zA hb6
    have hb6 := zD hb6
    refine zE _ rfl rfl kk hc3 (zB rfl (E_move (.c (.v (.string vs1))) rfl kk)) ?_
    refine zE _ rfl rfl kk hc3 (zB rfl (Y0_idxs (b := vs1) (k := .i64) (n := 0) (v := e4) Tryd.underlying9 rfl kk kk he4)) ?_
    refine zE _ rfl rfl kk hc3 (zB rfl (Y0_eqw (k := .u8) (a := e4) (b := 48) rfl kk kk)) ?_
    refine zE _ rfl rfl kk hc3 (zB rfl (E_move (Bo (eqI e4 48)) rfl kk)) ?_
    refine XL_split (eqI e4 48) (fun hc5 => ?_) (fun hc5 => ?_)
    ·refine zE _ rfl rfl kk hc5 (zB rfl (E_move (.c (.v (.string vs1))) rfl kk)) ?_
     refine zE _ rfl rfl kk hc5 (zB rfl (Y0_lens (b := vs1) Tryd.underlying9 rfl kk)) ?_
     refine zE _ rfl rfl kk hc5 (zB rfl (Y0_gtw (k := .i64) (a := (vs1.size : Int)) (b := 1) rfl kk kk)) ?_
     refine zE _ rfl rfl kk hc3 (zB rfl (Y0_pick1 (b := eqI e4 48) (p := ltI 1 ((vs1.size : Int))) (q := false) rfl kk hc5 kk)) ?_
     refine zH rfl (zB rfl (Y0_pickFe (b := !y2) (p := bif (eqI e4 48) then (ltI 1 ((vs1.size : Int))) else false) rfl kk hc3 kk hb6)) ?_
     exact XE
    ·refine XL_skipT _ rfl rfl kk hc5 rfl ?_
     refine XL_skipT _ rfl rfl kk hc5 rfl ?_
     refine XL_skipT _ rfl rfl kk hc5 rfl ?_
     refine zE _ rfl rfl kk hc3 (zB rfl (Y0_pick0 (b := eqI e4 48) (p := ltI 1 ((vs1.size : Int))) (q := false) rfl kk hc5 kk)) ?_
     refine zH rfl (zB rfl (Y0_pickFe (b := !y2) (p := bif (eqI e4 48) then (ltI 1 ((vs1.size : Int))) else false) rfl kk hc3 kk hb6)) ?_
     exact XE
  refine V_cond rfl (fun hc7 => ?_) (fun hc7 => ?_)
  ·have h := of_true h hc7
   refine V_e (mb 44 4) [] (s1 := ⟨.bot :: .bot :: I (-1) :: bt 41 [], []⟩) ?_
   refine V_ret ?_
   obtain rfl := zD h
   show Post _ _ _ _ _
   exact ⟨.inr rfl, rfl, rfl, rfl⟩
  ·have h := zI h hc7
   refine V_skip ?_
   show V _ _ _ _
   refine V_e (mb 44 9) [] (s1 := ⟨.c (.v (.string vs1)) :: .bot :: .bot :: I 0 :: bt 40 [], []⟩) ?_
   refine V_seq ?_
   refine V_e (mb 44 25) [] (s1 := ⟨.c (.v (.string vs1)) :: .bot :: .bot :: I 0 :: I 0 :: bt 39 [], []⟩) ?_
   obtain ⟨qo11, hLo11, hko11⟩ := zA h
   refine V_toS (q := qo11) (S := fun o11 => ⟨bt 3 (I o11 :: bt 40 []), []⟩) (mb 44 8) [] ?_ ?_
   ·refine V_block (V_loop (fun n s => ∃ (vn8 : Int) (i9 : Int), s.keep (mb 44 25) [] = (⟨.c (.v (.string vs1)) :: .bot :: .bot :: I vn8 :: I i9 :: bt 39 [], []⟩ : St) ∧ r_spec_nuRead_L10 vs1 n vn8 i9 = some qo11) FU ⟨_, _,  by rfl, hLo11⟩ ?_)
    clear hLo11
    rintro n s ⟨vn8, i9, hs, h⟩
    refine V_keep _ _ hs ?_
    clear hs
    cases n with
    | zero => cases h
    | succ n =>
     rw [r_spec_nuRead_L10] at h
     refine V_seq ?_
     refine zJ (mb 44 4194329) [] (s1 := ⟨.c (.v (.string vs1)) :: .bot :: .bot :: I vn8 :: I i9 :: bt 17 (Bo (ltI i9 ((vs1.size : Int))) :: bt 21 []), []⟩) ?_ ?_
     ·refine XR 2 ?_
      refine L0 rfl rfl (Y0_lens (b := vs1) Tryd.underlying9 rfl kk) ?_
      exact XE
     refine V_cond rfl (fun hc12 => ?_) (fun hc12 => ?_)
     ·have h := of_true h hc12
      refine V_skip ?_
      show V _ _ _ _
      refine V_seq ?_
      refine V_block ?_
      refine V_seq ?_
      obtain ⟨e13, he13, h⟩ := zA h
      obtain ⟨b16, hb16, h⟩ := zA h
      refine zJ (mb 44 17179869209) [] (s1 := ⟨.c (.v (.string vs1)) :: .bot :: .bot :: I vn8 :: I i9 :: bt 29 (Bo b16 :: bt 9 []), []⟩) ?_ ?_
      ·refine XR 2 ?_
       refine L0 rfl rfl (Y0_idxs (b := vs1) (k := .i64) (n := i9) (v := e13) Tryd.underlying9 rfl kk kk he13) ?_
       refine L0 rfl rfl (Y0_ltw (k := .u8) (a := e13) (b := 48) rfl kk kk) ?_
       refine XR 1 ?_
       refine XL_split (ltI e13 48) (fun hc14 => ?_) (fun hc14 => ?_)
       ·have hb16 := zD (of_true hb16 hc14)
        refine zF _ rfl rfl kk hc14 rfl ?_
        refine zF _ rfl rfl kk hc14 rfl ?_
        refine zF _ rfl rfl kk hc14 rfl ?_
        refine zF _ rfl rfl kk hc14 rfl ?_
        refine zH rfl (zB rfl (Y0_pickTe (b := ltI e13 48) (p := true) rfl kk hc14 kk hb16)) ?_
        exact XE
       ·have hb16 := zI hb16 hc14
        obtain ⟨e15, he15, hb16⟩ := zA hb16
        have hb16 := zD hb16
        refine zE _ rfl rfl kk hc14 (zB rfl (E_move (.c (.v (.string vs1))) rfl kk)) ?_
        refine zE _ rfl rfl kk hc14 (zB rfl (E_move (I i9) rfl kk)) ?_
        refine zE _ rfl rfl kk hc14 (zB rfl (Y0_idxs (b := vs1) (k := .i64) (n := i9) (v := e15) Tryd.underlying9 rfl kk kk he15)) ?_
        refine zE _ rfl rfl kk hc14 (zB rfl (Y0_gtw (k := .u8) (a := e15) (b := 57) rfl kk kk)) ?_
        refine zH rfl (zB rfl (Y0_pickFe (b := ltI e13 48) (p := ltI 57 e15) rfl kk hc14 kk hb16)) ?_
        exact XE
      refine V_cond rfl (fun hc17 => ?_) (fun hc17 => ?_)
      ·have h := of_true h hc17
       refine V_e (mb 44 4) [] (s1 := ⟨.bot :: .bot :: I (-1) :: bt 41 [], []⟩) ?_
       refine V_ret ?_
       obtain rfl := zD h
       have h := hko11
       obtain rfl := zD h
       show Post _ _ _ _ _
       exact ⟨.inr rfl, rfl, rfl, rfl⟩
      ·have h := zI h hc17
       refine V_skip ?_
       show V _ _ _ _
       obtain ⟨e18, he18, h⟩ := zA h
       obtain ⟨vn19, hvn19, h⟩ := of_sI h
       refine V_reg (mb 44 25) [] (s1 := ⟨.c (.v (.string vs1)) :: .bot :: .bot :: I vn19 :: I i9 :: bt 39 [], []⟩) ?_ ?_
       ·refine XR 4 ?_
        refine L0 rfl rfl (Y0_idxs (b := vs1) (k := .i64) (n := i9) (v := e18) Tryd.underlying9 rfl kk kk he18) ?_
        refine L0 rfl rfl (Y0_sub (k := .u8) (a := e18) (b := 48) rfl kk kk) ?_
        refine L0 rfl rfl (Y0_conv (k2 := .u8) (a := IntKind.u8.wrap (e18 - 48)) Tryd.underlying5 Tryd.underlying3 rfl kk) ?_
        refine XR 2 ?_
        refine zK ?_
        subst hvn19
        kernel_rfl
       show V _ _ _ _
       obtain ⟨i20, hi20, h⟩ := of_sI h
       refine V_reg (mb 44 25) [] (s1 := ⟨.c (.v (.string vs1)) :: .bot :: .bot :: I vn19 :: I i20 :: bt 39 [], []⟩) ?_ ?_
       ·refine XR 3 ?_
        refine zK ?_
        subst hi20
        kernel_rfl
       exact ⟨n, Nat.lt_succ_self n, _, _,  by rfl, h⟩
     ·have h := zI h hc12
      refine V_exit ?_
      obtain rfl := zD h
      exact ⟨_, rfl, by rfl⟩
   rintro o11 rfl
   have h := hko11
   clear hko11
   show V _ _ _ _
   refine V_e (mb 44 4) [] (s1 := ⟨.bot :: .bot :: I o11 :: bt 41 [], []⟩) ?_
   refine V_ret ?_
   obtain rfl := zD h
   show Post _ _ _ _ _
   exact ⟨.inr rfl, rfl, rfl, rfl⟩
theorem cf_spec_foInt : ∀ args w, (callFunc 12 args).run Tryd.prog w = .ok (.enter 12 args) w := run_callFunc Tryd.func12 kk kk
theorem s_spec_foInt {vs1 : ByteArray} {r : (Int × Bool)} (h : r_spec_foInt vs1 = some r) : CallS Tryd.prog 12 [.c (.v (.string vs1))] (.tc (I r.1) (.tc (Bo r.2) .tn)) [] := by
  refine CallS_of_text (rs := [.t 2, .t 3]) (vs := [.tmp 2, .tmp 3]) Tryd.func12 rfl rfl (.cons rfl (.cons rfl FitsL.nil)) (by decide) 36 rfl ?_
  unfold r_spec_foInt at h
  show V _ _ ⟨.c (.v (.string vs1)) :: bt 35 [], []⟩ _
  refine V_e (mb 36 1) [] (s1 := ⟨.c (.v (.string vs1)) :: bt 35 [], []⟩) ?_
  obtain ⟨b4, hb4, h⟩ := zA h
  refine zJ (mb 36 17) [] (s1 := ⟨.c (.v (.string vs1)) :: bt 3 (Bo b4 :: bt 31 []), []⟩) ?_ ?_
  ·refine XR 1 ?_
   refine L0 rfl rfl (Y0_lens (b := vs1) Tryd.underlying9 rfl kk) ?_
   refine XR 2 ?_
   refine XL_split (ltI 1 ((vs1.size : Int))) (fun hc2 => ?_) (fun hc2 => ?_)
   ·have hb4 := of_true hb4 hc2
    obtain ⟨e3, he3, hb4⟩ := zA hb4
    have hb4 := zD hb4
    refine zE _ rfl rfl kk hc2 (zB rfl (E_move (.c (.v (.string vs1))) rfl kk)) ?_
    refine zE _ rfl rfl kk hc2 (zB rfl (Y0_idxs (b := vs1) (k := .i64) (n := 0) (v := e3) Tryd.underlying9 rfl kk kk he3)) ?_
    refine zE _ rfl rfl kk hc2 (zB rfl (Y0_eqw (k := .u8) (a := e3) (b := 45) rfl kk kk)) ?_
    refine zH rfl (zB rfl (Y0_pickTe (b := ltI 1 ((vs1.size : Int))) (p := eqI e3 45) rfl kk hc2 kk hb4)) ?_
    exact XE
   ·have hb4 := zD (zI hb4 hc2)
    refine XL_skipT _ rfl rfl kk hc2 rfl ?_
    refine XL_skipT _ rfl rfl kk hc2 rfl ?_
    refine XL_skipT _ rfl rfl kk hc2 rfl ?_
    refine zH rfl (zB rfl (Y0_pickFe (b := ltI 1 ((vs1.size : Int))) (p := false) rfl kk hc2 kk hb4)) ?_
    exact XE
  obtain ⟨j5, hj5, h⟩ := zA h
  refine V_cutK (mb 36 17) [] (s1 := ⟨.c (.v (.string j5)) :: bt 3 (Bo b4 :: bt 31 []), []⟩) ?_ ?_
  ·clear h
   have h := hj5
   clear hj5
   refine V_e (mb 36 16401) [] (s1 := ⟨.c (.v (.string vs1)) :: bt 3 (Bo b4 :: bt 9 (Bo b4 :: bt 21 [])), []⟩) ?_
   refine V_cond rfl (fun hc6 => ?_) (fun hc6 => ?_)
   ·have h := of_true h hc6
    obtain ⟨u7, hu7, h⟩ := zA h
    refine V_reg (mb 36 17) [] (s1 := ⟨.c (.v (.string (vs1.extract (Int.toNat 1) (Int.toNat ((vs1.size : Int)))))) :: bt 3 (Bo b4 :: bt 31 []), []⟩) ?_ ?_
    ·refine XR 1 ?_
     refine L0 rfl rfl (Y0_slices (b := vs1) (l := 1) (h := (vs1.size : Int)) Tryd.underlying9 rfl kk (fun y hy => by cases hy; exact ⟨.i64, kk⟩) (fun hh => by cases hh) (fun y hy => by cases hy) (fun _ => rfl) (slc_some hu7)) ?_
     exact XE
    obtain rfl := zD h
    show St.keep _ _ _ = _
    rfl
   ·have h := zI h hc6
    refine V_skip ?_
    obtain rfl := zD h
    show St.keep _ _ _ = _
    rfl
  obtain ⟨y8, hy8, h⟩ := zA h
  refine zJ (mb 36 48) [] (s1 := ⟨bt 4 (Bo b4 :: I y8 :: bt 30 []), []⟩) ?_ ?_
  ·refine XR 1 ?_
   refine XC (s_spec_nuRead hy8) cf_spec_nuRead rfl rfl rfl ?_
   exact XE
  refine V_seq ?_
  obtain ⟨t12, ht12, h⟩ := zA h
  have ht12 := zD ht12
  refine zJ (mb 36 2147483696) [] (s1 := ⟨bt 4 (Bo b4 :: I y8 :: bt 25 (Bo t12 :: bt 4 [])), []⟩) ?_ ?_
  ·refine XR 3 ?_
   refine XL_split (ltI y8 0) (fun hc9 => ?_) (fun hc9 => ?_)
   ·refine zF _ rfl rfl kk hc9 rfl ?_
    refine zF _ rfl rfl kk hc9 rfl ?_
    refine XL_skip2 rfl rfl kk rfl ?_
    refine XL_skip2 rfl rfl kk rfl ?_
    refine zF _ rfl rfl kk hc9 rfl ?_
    refine zH rfl (zB rfl (Y0_pick1 (b := ltI y8 0) (p := true) (q := bif b4 then (eqI y8 0) else false) rfl kk hc9 kk)) ?_
    refine XR 1 ?_
    refine XL_split (bif (ltI y8 0) then true else (bif b4 then (eqI y8 0) else false)) (fun hc11 => ?_) (fun hc11 => ?_)
    ·refine zF _ rfl rfl kk hc11 rfl ?_
     refine zF _ rfl rfl kk hc11 rfl ?_
     refine zH rfl (zB rfl (Y0_pick1 (b := bif (ltI y8 0) then true else (bif b4 then (eqI y8 0) else false)) (p := true) (q := ltI 1000000 y8) rfl kk hc11 kk)) ?_
     refine zK ?_
     subst ht12
     kernel_rfl
    ·refine zE _ rfl rfl kk hc11 (zB rfl (E_move (I y8) rfl kk)) ?_
     refine zE _ rfl rfl kk hc11 (zB rfl (Y0_gtw (k := .i64) (a := y8) (b := 1000000) rfl kk kk)) ?_
     refine zH rfl (zB rfl (Y0_pick0 (b := bif (ltI y8 0) then true else (bif b4 then (eqI y8 0) else false)) (p := true) (q := ltI 1000000 y8) rfl kk hc11 kk)) ?_
     refine zK ?_
     subst ht12
     kernel_rfl
   ·refine zE _ rfl rfl kk hc9 (zB rfl (E_move (Bo b4) rfl kk)) ?_
    refine zE _ rfl rfl kk hc9 (zB rfl (E_move (Bo b4) rfl kk)) ?_
    refine XL_split b4 (fun hc10 => ?_) (fun hc10 => ?_)
    ·refine zE _ rfl rfl kk hc10 (zB rfl (E_move (I y8) rfl kk)) ?_
     refine zE _ rfl rfl kk hc10 (zB rfl (Y0_eqw (k := .i64) (a := y8) (b := 0) rfl kk kk)) ?_
     refine zE _ rfl rfl kk hc9 (zB rfl (Y0_pick1 (b := b4) (p := eqI y8 0) (q := false) rfl kk hc10 kk)) ?_
     refine zH rfl (zB rfl (Y0_pick0 (b := ltI y8 0) (p := true) (q := bif b4 then (eqI y8 0) else false) rfl kk hc9 kk)) ?_
     refine XR 1 ?_
     refine XL_split (bif (ltI y8 0) then true else (bif b4 then (eqI y8 0) else false)) (fun hc11 => ?_) (fun hc11 => ?_)
     ·refine zF _ rfl rfl kk hc11 rfl ?_
      refine zF _ rfl rfl kk hc11 rfl ?_
      refine zH rfl (zB rfl (Y0_pick1 (b := bif (ltI y8 0) then true else (bif b4 then (eqI y8 0) else false)) (p := true) (q := ltI 1000000 y8) rfl kk hc11 kk)) ?_
      refine zK ?_
      subst ht12
      kernel_rfl
     ·refine zE _ rfl rfl kk hc11 (zB rfl (E_move (I y8) rfl kk)) ?_
      refine zE _ rfl rfl kk hc11 (zB rfl (Y0_gtw (k := .i64) (a := y8) (b := 1000000) rfl kk kk)) ?_
      refine zH rfl (zB rfl (Y0_pick0 (b := bif (ltI y8 0) then true else (bif b4 then (eqI y8 0) else false)) (p := true) (q := ltI 1000000 y8) rfl kk hc11 kk)) ?_
      refine zK ?_
      subst ht12
      kernel_rfl
    ·refine XL_skipT _ rfl rfl kk hc10 rfl ?_
     refine XL_skipT _ rfl rfl kk hc10 rfl ?_
     refine zE _ rfl rfl kk hc9 (zB rfl (Y0_pick0 (b := b4) (p := eqI y8 0) (q := false) rfl kk hc10 kk)) ?_
     refine zH rfl (zB rfl (Y0_pick0 (b := ltI y8 0) (p := true) (q := bif b4 then (eqI y8 0) else false) rfl kk hc9 kk)) ?_
     refine XR 1 ?_
     refine XL_split (bif (ltI y8 0) then true else (bif b4 then (eqI y8 0) else false)) (fun hc11 => ?_) (fun hc11 => ?_)
     ·refine zF _ rfl rfl kk hc11 rfl ?_
      refine zF _ rfl rfl kk hc11 rfl ?_
      refine zH rfl (zB rfl (Y0_pick1 (b := bif (ltI y8 0) then true else (bif b4 then (eqI y8 0) else false)) (p := true) (q := ltI 1000000 y8) rfl kk hc11 kk)) ?_
      refine zK ?_
      subst ht12
      kernel_rfl
     ·refine zE _ rfl rfl kk hc11 (zB rfl (E_move (I y8) rfl kk)) ?_
      refine zE _ rfl rfl kk hc11 (zB rfl (Y0_gtw (k := .i64) (a := y8) (b := 1000000) rfl kk kk)) ?_
      refine zH rfl (zB rfl (Y0_pick0 (b := bif (ltI y8 0) then true else (bif b4 then (eqI y8 0) else false)) (p := true) (q := ltI 1000000 y8) rfl kk hc11 kk)) ?_
      refine zK ?_
      subst ht12
      kernel_rfl
  refine V_cond rfl (fun hc13 => ?_) (fun hc13 => ?_)
  ·have h := of_true h hc13
   refine V_e (mb 36 12) [] (s1 := ⟨.bot :: .bot :: I 0 :: Bo false :: bt 32 [], []⟩) ?_
   refine V_ret ?_
   obtain rfl := zD h
   show Post _ _ _ _ _
   exact ⟨.inr rfl, rfl, rfl, rfl⟩
  ·have h := zI h hc13
   refine V_skip ?_
   show V _ _ _ _
   refine V_seq ?_
   refine V_e (mb 36 4294967328) [] (s1 := ⟨bt 5 (I y8 :: bt 26 (Bo b4 :: bt 3 [])), []⟩) ?_
   refine V_cond rfl (fun hc14 => ?_) (fun hc14 => ?_)
   ·have h := of_true h hc14
    obtain ⟨t15, ht15, h⟩ := of_sI h
    refine zJ (mb 36 12) [] (s1 := ⟨.bot :: .bot :: I t15 :: Bo true :: bt 32 [], []⟩) ?_ ?_
    ·refine XR 4 ?_
     refine zK ?_
     subst ht15
     kernel_rfl
    refine V_ret ?_
    obtain rfl := zD h
    show Post _ _ _ _ _
    exact ⟨.inr rfl, rfl, rfl, rfl⟩
   ·have h := zI h hc14
    refine V_skip ?_
    show V _ _ _ _
    refine V_e (mb 36 12) [] (s1 := ⟨.bot :: .bot :: I y8 :: Bo true :: bt 32 [], []⟩) ?_
    refine V_ret ?_
    obtain rfl := zD h
    show Post _ _ _ _ _
    exact ⟨.inr rfl, rfl, rfl, rfl⟩
theorem cf_spec_foInts : ∀ args w, (callFunc 19 args).run Tryd.prog w = .ok (.enter 19 args) w := run_callFunc Tryd.func19 kk kk
theorem s_spec_foInts {vs1 : ByteArray} {b2 : Int} {count3 : Int} {r : List Int} (h : r_spec_foInts vs1 b2 count3 = some r) : CallS Tryd.prog 19 [.c (.v (.string vs1)), .c (.v (.int .u8 b2)), I count3] (.ow 0) [(0, .arr 3 1 (r.map c3))] := by
  refine CallS_of_text (rs := [.t 6]) (vs := [.tmp 6]) Tryd.func19 rfl rfl (.cons rfl FitsL.nil) (by decide) 39 rfl ?_
  unfold r_spec_foInts at h
  show V _ _ ⟨.c (.v (.string vs1)) :: .c (.v (.int .u8 b2)) :: I count3 :: bt 36 [], []⟩ _
  refine zJ (mb 39 7) [] (s1 := ⟨.c (.v (.string vs1)) :: .c (.v (.int .u8 b2)) :: I count3 :: bt 36 [], []⟩) ?_ ?_
  ·refine L1 rfl rfl (Y1_nil (e := 3) 1 (by decide) (.inl rfl)) ?_
   exact XE
  obtain ⟨y4, hy4, h⟩ := zA h
  refine zJ (mb 39 132) [120] (s1 := ⟨.bot :: .bot :: I count3 :: bt 4 (.ow 120 :: bt 31 []), [(120, .arr 9 1 (y4.map c9))]⟩) ?_ ?_
  ·refine XR 2 ?_
   refine XC (s_spec_l1Split hy4) cf_spec_l1Split rfl rfl rfl ?_
   exact XE
  refine V_seq ?_
  refine zJ (mb 39 524416) [120] (s1 := ⟨bt 7 (.ow 120 :: bt 11 (Bo (!eqI ((y4.length : Int)) count3) :: bt 19 [])), [(120, .arr 9 1 (y4.map c9))]⟩) ?_ ?_
  ·refine XR 1 ?_
   refine L0 rfl rfl (Y0_lenM (c := c9) (xs := y4) Tryd.underlying36 rfl kk) ?_
   exact XE
  refine V_cond rfl (fun hc5 => ?_) (fun hc5 => ?_)
  ·have h := of_true h hc5
   refine zJ (mb 39 64) [48] (s1 := ⟨bt 6 (.ow 48 :: bt 32 []), [(48, .arr 3 1 ((([] : List Int)).map c3))]⟩) ?_ ?_
   ·refine L1 rfl rfl (Y1_nil (e := 3) 1 (by decide) (.inl rfl)) ?_
    exact XE
   refine V_ret ?_
   obtain rfl := zD h
   show Post _ _ _ _ _
   exact ⟨.inr rfl, rfl, rfl, rfl⟩
  ·have h := zI h hc5
   refine V_skip ?_
   show V _ _ _ _
   refine zJ (mb 39 384) [64, 120] (s1 := ⟨bt 7 (.ow 120 :: .ow 64 :: bt 30 []), [(64, .arr 3 1 ((([] : List Int)).map c3)), (120, .arr 9 1 (y4.map c9))]⟩) ?_ ?_
   ·refine L1 rfl rfl (Y1_nil (e := 3) 1 (by decide) (.inl rfl)) ?_
    exact XE
   refine V_seq ?_
   refine zJ (mb 39 7340288) [64, 120] (s1 := ⟨bt 8 (.ow 64 :: bt 11 (.ow 120 :: I ((y4.length : Int)) :: I 0 :: bt 16 [])), [(64, .arr 3 1 ((([] : List Int)).map c3)), (120, .arr 9 1 (y4.map c9))]⟩) ?_ ?_
   ·refine XR 1 ?_
    refine L0 rfl rfl (Y0_lenM (c := c9) (xs := y4) Tryd.underlying36 rfl kk) ?_
    exact XE
   obtain ⟨qo9, hLo9, hko9⟩ := zA h
   refine V_toS (q := qo9) (S := fun o9 => ⟨bt 8 (.ow 64 :: bt 30 []), [(64, .arr 3 1 (o9.map c3))]⟩) (mb 39 256) [64] ?_ ?_
   ·refine V_block (V_loop (fun n s => ∃ (t6 : Int) (l7 : List Int), s.keep (mb 39 7340288) [64, 120] = (⟨bt 8 (.ow 64 :: bt 11 (.ow 120 :: I ((y4.length : Int)) :: I t6 :: bt 16 [])), [(64, .arr 3 1 (l7.map c3)), (120, .arr 9 1 (y4.map c9))]⟩ : St) ∧ r_spec_foInts_L8 y4 n t6 l7 = some qo9) FU ⟨_, _,  by rfl, hLo9⟩ ?_)
    clear hLo9
    rintro n s ⟨t6, l7, hs, h⟩
    refine V_keep _ _ hs ?_
    clear hs
    cases n with
    | zero => cases h
    | succ n =>
     rw [r_spec_foInts_L8] at h
     refine V_e (mb 39 15728896) [64, 120] (s1 := ⟨bt 8 (.ow 64 :: bt 11 (.ow 120 :: I ((y4.length : Int)) :: I t6 :: Bo (ltI t6 ((y4.length : Int))) :: bt 15 [])), [(64, .arr 3 1 (l7.map c3)), (120, .arr 9 1 (y4.map c9))]⟩) ?_
     refine V_seq ?_
     refine V_cond rfl (fun hc10 => ?_) (fun hc10 => ?_)
     ·have h := of_true h hc10
      refine V_skip ?_
      show V _ _ _ _
      refine V_seq ?_
      refine V_block ?_
      obtain ⟨e11, he11, h⟩ := zA h
      obtain ⟨e12, he12, h⟩ := zA h
      refine zJ (mb 39 7341312) [64, 120] (s1 := ⟨bt 8 (.ow 64 :: .bot :: .c (.v (.string e12)) :: bt 9 (.ow 120 :: I ((y4.length : Int)) :: I t6 :: bt 16 [])), [(64, .arr 3 1 (l7.map c3)), (120, .arr 9 1 (y4.map c9))]⟩) ?_ ?_
      ·refine L0 rfl rfl (Y0_idxoM (c := c9) (xs := y4) (v := e11) (id := 120) (T := 9) (sz := 1) (n := t6) Tryd.underlying36 sz9 rfl kk kk kk he11) ?_
       refine L0 rfl rfl (Y0_loado1 (c := c9) (xs := y4) (v := e12) (id := 120) (sz := 1) (T := 9) (off := 0) (n := t6) (d := .v (.string e12)) (ds := []) sc9 rfl kk kk he12 kk) ?_
       exact XE
      obtain ⟨y13, hy13, h⟩ := zA h
      refine zJ (mb 39 7346432) [64, 120] (s1 := ⟨bt 8 (.ow 64 :: .bot :: .bot :: I y13.1 :: Bo y13.2 :: bt 7 (.ow 120 :: I ((y4.length : Int)) :: I t6 :: bt 16 [])), [(64, .arr 3 1 (l7.map c3)), (120, .arr 9 1 (y4.map c9))]⟩) ?_ ?_
      ·refine XR 1 ?_
       refine XC (s_spec_foInt hy13) cf_spec_foInt rfl rfl rfl ?_
       exact XE
      refine V_seq ?_
      refine V_e (mb 39 4302309632) [64, 120] (s1 := ⟨bt 8 (.ow 64 :: .bot :: .bot :: I y13.1 :: bt 8 (.ow 120 :: I ((y4.length : Int)) :: I t6 :: bt 9 (Bo (!y13.2) :: bt 6 []))), [(64, .arr 3 1 (l7.map c3)), (120, .arr 9 1 (y4.map c9))]⟩) ?_
      refine V_cond rfl (fun hc14 => ?_) (fun hc14 => ?_)
      ·have h := of_true h hc14
       refine zJ (mb 39 64) [48] (s1 := ⟨bt 6 (.ow 48 :: bt 32 []), [(48, .arr 3 1 ((([] : List Int)).map c3))]⟩) ?_ ?_
       ·refine L1 rfl rfl (Y1_nil (e := 3) 1 (by decide) (.inl rfl)) ?_
        exact XE
       refine V_ret ?_
       obtain rfl := zD h
       have h := hko9
       obtain rfl := zD h
       show Post _ _ _ _ _
       exact ⟨.inr rfl, rfl, rfl, rfl⟩
      ·have h := zI h hc14
       refine V_skip ?_
       show V _ _ _ _
       obtain ⟨u15, hu15, h⟩ := zA h
       refine V_reg (mb 39 7340288) [64, 120] (s1 := ⟨bt 8 (.ow 64 :: bt 11 (.ow 120 :: I ((y4.length : Int)) :: I t6 :: bt 16 [])), [(64, .arr 3 1 ((l7 ++ ([y13.1])).map c3)), (120, .arr 9 1 (y4.map c9))]⟩) ?_ ?_
       ·refine XR 2 ?_
        refine L1 rfl rfl (Y1_bslice (z := zv3) (els := [y13.1].map c3) Tryd.underlying27 iz3 rfl (by decide) rfl kk rfl (by simp [c3]) (by decide) (by decide)) ?_
        refine zH rfl (X_appendM (c := c3) (xs := l7) (ys := [y13.1]) (id := 64) (z := zv3) rfl rfl Tryd.underlying27 izb3 rfl kk kk kk (fun _ => rfl) (by simp) (room_some hu15) (by decide)) ?_
        exact XE
       show V _ _ _ _
       obtain ⟨t16, ht16, h⟩ := of_sI h
       refine V_reg (mb 39 7340288) [64, 120] (s1 := ⟨bt 8 (.ow 64 :: bt 11 (.ow 120 :: I ((y4.length : Int)) :: I t16 :: bt 16 [])), [(64, .arr 3 1 ((l7 ++ ([y13.1])).map c3)), (120, .arr 9 1 (y4.map c9))]⟩) ?_ ?_
       ·refine XR 2 ?_
        refine zK ?_
        subst ht16
        kernel_rfl
       exact ⟨n, Nat.lt_succ_self n, _, _,  by rfl, h⟩
     ·have h := zI h hc10
      refine V_exit ?_
      obtain rfl := zD h
      exact ⟨_, rfl, by rfl⟩
   rintro o9 rfl
   have h := hko9
   clear hko9
   show V _ _ _ _
   refine V_e (mb 39 64) [64] (s1 := ⟨bt 6 (.ow 64 :: bt 32 []), [(64, .arr 3 1 (o9.map c3))]⟩) ?_
   refine V_ret ?_
   obtain rfl := zD h
   show Post _ _ _ _ _
   exact ⟨.inr rfl, rfl, rfl, rfl⟩
theorem cf_spec_foRead : ∀ args w, (callFunc 10 args).run Tryd.prog w = .ok (.enter 10 args) w := run_callFunc Tryd.func10 kk kk
theorem s_spec_foRead {vs1 : ByteArray} {r : (((Int × Int × Int)) × Bool)} (h : r_spec_foRead vs1 = some r) : CallS Tryd.prog 10 [.c (.v (.string vs1))] (.tc (.ag [Ti r.1.1, Ti r.1.2.1, Ti r.1.2.2]) (.tc (Bo r.2) .tn)) [] := by
  refine CallS_of_text (rs := [.w 2 3, .t 3]) (vs := [.cell 2 40, .tmp 3]) Tryd.func10 rfl rfl (.cons ⟨rfl, wd40⟩ (.cons rfl FitsL.nil)) (by decide) 32 rfl ?_
  unfold r_spec_foRead at h
  show V _ _ ⟨.c (.v (.string vs1)) :: bt 31 [], []⟩ _
  refine V_e (mb 32 5) [16] (s1 := ⟨.c (.v (.string vs1)) :: .bot :: .pt 16 0 :: bt 29 [], [(16, .box [Ti 0, Ti 0, Ti 0])]⟩) ?_
  obtain ⟨y2, hy2, h⟩ := zA h
  refine zJ (mb 32 52) [16] (s1 := ⟨.bot :: .bot :: .pt 16 0 :: .bot :: .c (.v (.string y2.1)) :: Bo y2.2 :: bt 26 [], [(16, .box [Ti 0, Ti 0, Ti 0])]⟩) ?_ ?_
  ·refine XR 1 ?_
   refine XC (s_spec_foInside hy2) cf_spec_foInside rfl rfl rfl ?_
   exact XE
  obtain ⟨y3, hy3, h⟩ := zA h
  refine zJ (mb 32 100) [104, 16] (s1 := ⟨.bot :: .bot :: .pt 16 0 :: .bot :: .bot :: Bo y2.2 :: .ow 104 :: bt 25 [], [(104, .arr 3 1 (y3.map c3)), (16, .box [Ti 0, Ti 0, Ti 0])]⟩) ?_ ?_
  ·refine XR 1 ?_
   refine XC (s_spec_foInts hy3) cf_spec_foInts rfl rfl rfl ?_
   exact XE
  refine V_seq ?_
  refine zJ (mb 32 1048644) [104, 16] (s1 := ⟨.bot :: .bot :: .pt 16 0 :: bt 3 (.ow 104 :: bt 13 (Bo (bif (!y2.2) then true else (!eqI ((y3.length : Int)) 3)) :: bt 11 [])), [(104, .arr 3 1 (y3.map c3)), (16, .box [Ti 0, Ti 0, Ti 0])]⟩) ?_ ?_
  ·refine XR 3 ?_
   refine XL_split (!y2.2) (fun hc4 => ?_) (fun hc4 => ?_)
   ·refine zF _ rfl rfl kk hc4 rfl ?_
    refine zF _ rfl rfl kk hc4 rfl ?_
    refine zF _ rfl rfl kk hc4 rfl ?_
    refine zH rfl (zB rfl (Y0_pick1 (b := !y2.2) (p := true) (q := !eqI ((y3.length : Int)) 3) rfl kk hc4 kk)) ?_
    exact XE
   ·refine zE _ rfl rfl kk hc4 (zB rfl (E_move (.ow 104) rfl kk)) ?_
    refine zE _ rfl rfl kk hc4 (zB rfl (Y0_lenM (c := c3) (xs := y3) Tryd.underlying27 rfl kk)) ?_
    refine zE _ rfl rfl kk hc4 (zB rfl (Y0_new (k := .i64) (a := (y3.length : Int)) (b := 3) rfl kk kk)) ?_
    refine zH rfl (zB rfl (Y0_pick0 (b := !y2.2) (p := true) (q := !eqI ((y3.length : Int)) 3) rfl kk hc4 kk)) ?_
    exact XE
  refine V_cond rfl (fun hc5 => ?_) (fun hc5 => ?_)
  ·have h := of_true h hc5
   refine zJ (mb 32 12) [16] (s1 := ⟨.bot :: .bot :: .pt 16 0 :: Bo false :: bt 28 [], [(16, .box [Ti 0, Ti 0, Ti 0])]⟩) ?_ ?_
   ·refine L0 rfl rfl (Y0_build (cs := [Ti 0, Ti 0, Ti 0]) pl40 bt40 rfl rfl kk) ?_
    exact XE
   refine V_ret ?_
   obtain rfl := zD h
   show Post _ _ _ _ _
   exact ⟨.inr rfl, rfl, rfl, rfl⟩
  ·have h := zI h hc5
   refine V_skip ?_
   show V _ _ _ _
   obtain ⟨e6, he6, h⟩ := zA h
   obtain ⟨e7, he7, h⟩ := zA h
   obtain ⟨e8, he8, h⟩ := zA h
   obtain ⟨e9, he9, h⟩ := zA h
   obtain ⟨e10, he10, h⟩ := zA h
   obtain ⟨e11, he11, h⟩ := zA h
   refine V_sdreg [0, 1, 3, 0, 8, 24, 0, 64, 192, 511, 1023, 2047] 10 (cdm 10 [174720, 174721, 174725, 172074, 172138, 172394, 2730, 6826, 23210, 87381]) (mb 32 12) [16] (s1 := ⟨.bot :: .bot :: .pt 16 0 :: Bo true :: bt 28 [], [(16, .box [Ti e7, Ti e9, Ti e11])]⟩) kk kk ?_ ?_
   ·refine DR 1 ?_
    refine DE_0 1 (.po 104 1 (Int.toNat (0)) 0) kk rfl rfl rfl (zG rfl) kk (Y0_idxoM (c := c3) (xs := y3) (v := e6) (id := 104) (T := 3) (sz := 1) (n := 0) Tryd.underlying27 sz3 rfl kk kk kk he6) 23 rfl ?_
    refine DE_0 2 (I e7) kk rfl rfl rfl (zG rfl) kk (Y0_loado1 (c := c3) (xs := y3) (v := e7) (id := 104) (sz := 1) (T := 3) (off := 0) (n := 0) (d := Ti e7) (ds := []) sc3 rfl kk kk he7 kk) 24 rfl ?_
    refine DR 1 ?_
    refine DE_0 4 (.po 104 1 (Int.toNat (1)) 0) kk rfl rfl rfl (zG rfl) kk (Y0_idxoM (c := c3) (xs := y3) (v := e8) (id := 104) (T := 3) (sz := 1) (n := 1) Tryd.underlying27 sz3 rfl kk kk kk he8) 26 rfl ?_
    refine DE_0 5 (I e9) kk rfl rfl rfl (zG rfl) kk (Y0_loado1 (c := c3) (xs := y3) (v := e9) (id := 104) (sz := 1) (T := 3) (off := 0) (n := 1) (d := Ti e9) (ds := []) sc3 rfl kk kk he9 kk) 27 rfl ?_
    refine DR 1 ?_
    refine DE_0 7 (.po 104 1 (Int.toNat (2)) 0) kk rfl rfl rfl (zG rfl) kk (Y0_idxoM (c := c3) (xs := y3) (v := e10) (id := 104) (T := 3) (sz := 1) (n := 2) Tryd.underlying27 sz3 rfl kk kk kk he10) 29 rfl ?_
    refine DE_0 8 (I e11) kk rfl rfl rfl (zG rfl) kk (Y0_loado1 (c := c3) (xs := y3) (v := e11) (id := 104) (sz := 1) (T := 3) (off := 0) (n := 2) (d := Ti e11) (ds := []) sc3 rfl kk kk he11 kk) 30 rfl ?_
    refine DE_0 9 (.ag [Ti e7, Ti e9, Ti e11]) kk rfl rfl rfl (zG rfl) kk (Y0_build (cs := [Ti e7, Ti e9, Ti e11]) pl40 bt40 rfl rfl kk) 31 rfl ?_
    refine DA 0 ?_
    exact XE
   refine V_ret ?_
   obtain rfl := zD h
   show Post _ _ _ _ _
   exact ⟨.inr rfl, rfl, rfl, rfl⟩
theorem cf_spec_foReadMatrix : ∀ args w, (callFunc 11 args).run Tryd.prog w = .ok (.enter 11 args) w := run_callFunc Tryd.func11 kk kk
theorem s_spec_foReadMatrix {vs1 : ByteArray} {r : (((Int × Int × Int × Int)) × Bool)} (h : r_spec_foReadMatrix vs1 = some r) : CallS Tryd.prog 11 [.c (.v (.string vs1))] (.tc (.ag [Ti r.1.1, Ti r.1.2.1, Ti r.1.2.2.1, Ti r.1.2.2.2]) (.tc (Bo r.2) .tn)) [] := by
  refine CallS_of_text (rs := [.w 2 4, .t 3]) (vs := [.cell 2 44, .tmp 3]) Tryd.func11 rfl rfl (.cons ⟨rfl, wd44⟩ (.cons rfl FitsL.nil)) (by decide) 54 rfl ?_
  unfold r_spec_foReadMatrix at h
  show V _ _ ⟨.c (.v (.string vs1)) :: bt 53 [], []⟩ _
  refine V_e (mb 54 5) [16] (s1 := ⟨.c (.v (.string vs1)) :: .bot :: .pt 16 0 :: bt 51 [], [(16, .box [Ti 0, Ti 0, Ti 0, Ti 0])]⟩) ?_
  obtain ⟨y2, hy2, h⟩ := zA h
  refine zJ (mb 54 52) [16] (s1 := ⟨.bot :: .bot :: .pt 16 0 :: .bot :: .c (.v (.string y2.1)) :: Bo y2.2 :: bt 48 [], [(16, .box [Ti 0, Ti 0, Ti 0, Ti 0])]⟩) ?_ ?_
  ·refine XR 1 ?_
   refine XC (s_spec_foInside hy2) cf_spec_foInside rfl rfl rfl ?_
   exact XE
  obtain ⟨y3, hy3, h⟩ := zA h
  refine zJ (mb 54 100) [120, 16] (s1 := ⟨.bot :: .bot :: .pt 16 0 :: .bot :: .bot :: Bo y2.2 :: .ow 120 :: bt 47 [], [(120, .arr 9 1 (y3.map c9)), (16, .box [Ti 0, Ti 0, Ti 0, Ti 0])]⟩) ?_ ?_
  ·refine XR 1 ?_
   refine XC (s_spec_l1Split hy3) cf_spec_l1Split rfl rfl rfl ?_
   exact XE
  refine V_seq ?_
  refine zJ (mb 54 4194372) [120, 16] (s1 := ⟨.bot :: .bot :: .pt 16 0 :: bt 3 (.ow 120 :: bt 15 (Bo (bif (!y2.2) then true else (!eqI ((y3.length : Int)) 2)) :: bt 31 [])), [(120, .arr 9 1 (y3.map c9)), (16, .box [Ti 0, Ti 0, Ti 0, Ti 0])]⟩) ?_ ?_
  ·refine XR 3 ?_
   refine XL_split (!y2.2) (fun hc4 => ?_) (fun hc4 => ?_)
   ·refine zF _ rfl rfl kk hc4 rfl ?_
    refine zF _ rfl rfl kk hc4 rfl ?_
    refine zF _ rfl rfl kk hc4 rfl ?_
    refine zH rfl (zB rfl (Y0_pick1 (b := !y2.2) (p := true) (q := !eqI ((y3.length : Int)) 2) rfl kk hc4 kk)) ?_
    exact XE
   ·refine zE _ rfl rfl kk hc4 (zB rfl (E_move (.ow 120) rfl kk)) ?_
    refine zE _ rfl rfl kk hc4 (zB rfl (Y0_lenM (c := c9) (xs := y3) Tryd.underlying36 rfl kk)) ?_
    refine zE _ rfl rfl kk hc4 (zB rfl (Y0_new (k := .i64) (a := (y3.length : Int)) (b := 2) rfl kk kk)) ?_
    refine zH rfl (zB rfl (Y0_pick0 (b := !y2.2) (p := true) (q := !eqI ((y3.length : Int)) 2) rfl kk hc4 kk)) ?_
    exact XE
  refine V_cond rfl (fun hc5 => ?_) (fun hc5 => ?_)
  ·have h := of_true h hc5
   refine zJ (mb 54 12) [16] (s1 := ⟨.bot :: .bot :: .pt 16 0 :: Bo false :: bt 50 [], [(16, .box [Ti 0, Ti 0, Ti 0, Ti 0])]⟩) ?_ ?_
   ·refine L0 rfl rfl (Y0_build (cs := [Ti 0, Ti 0, Ti 0, Ti 0]) pl44 bt44 rfl rfl kk) ?_
    exact XE
   refine V_ret ?_
   obtain rfl := zD h
   show Post _ _ _ _ _
   exact ⟨.inr rfl, rfl, rfl, rfl⟩
  ·have h := zI h hc5
   refine V_skip ?_
   show V _ _ _ _
   obtain ⟨e6, he6, h⟩ := zA h
   obtain ⟨e7, he7, h⟩ := zA h
   obtain ⟨y8, hy8, h⟩ := zA h
   obtain ⟨e9, he9, h⟩ := zA h
   obtain ⟨e10, he10, h⟩ := zA h
   obtain ⟨y11, hy11, h⟩ := zA h
   refine V_sdreg [0, 1, 3, 7, 0, 16, 48, 127, 255, 511] 10 (cdm 10 [10752, 10753, 10757, 10773, 170, 426, 1450, 5461, 21845, 87381]) (mb 54 388) [248, 216, 16] (s1 := ⟨.bot :: .bot :: .pt 16 0 :: bt 4 (.ow 216 :: .ow 248 :: bt 45 []), [(248, .arr 3 1 (y11.map c3)), (216, .arr 3 1 (y8.map c3)), (16, .box [Ti 0, Ti 0, Ti 0, Ti 0])]⟩) kk kk ?_ ?_
   ·refine DR 1 ?_
    refine DE_0 1 (.po 120 1 (Int.toNat (0)) 0) kk rfl rfl rfl (zG rfl) kk (Y0_idxoM (c := c9) (xs := y3) (v := e6) (id := 120) (T := 9) (sz := 1) (n := 0) Tryd.underlying36 sz9 rfl kk kk kk he6) 25 rfl ?_
    refine DE_0 2 (.c (.v (.string e7))) kk rfl rfl rfl (zG rfl) kk (Y0_loado1 (c := c9) (xs := y3) (v := e7) (id := 120) (sz := 1) (T := 9) (off := 0) (n := 0) (d := .v (.string e7)) (ds := []) sc9 rfl kk kk he7 kk) 26 rfl ?_
    refine DC 3 (s_spec_foInts hy8) cf_spec_foInts rfl rfl rfl rfl 27 rfl ?_
    refine DR 1 ?_
    refine DE_0 5 (.po 120 1 (Int.toNat (1)) 0) kk rfl rfl rfl (zG rfl) kk (Y0_idxoM (c := c9) (xs := y3) (v := e9) (id := 120) (T := 9) (sz := 1) (n := 1) Tryd.underlying36 sz9 rfl kk kk kk he9) 29 rfl ?_
    refine DE_0 6 (.c (.v (.string e10))) kk rfl rfl rfl (zG rfl) kk (Y0_loado1 (c := c9) (xs := y3) (v := e10) (id := 120) (sz := 1) (T := 9) (off := 0) (n := 1) (d := .v (.string e10)) (ds := []) sc9 rfl kk kk he10 kk) 30 rfl ?_
    refine DC 7 (s_spec_foInts hy11) cf_spec_foInts rfl rfl rfl rfl 31 rfl ?_
    refine DA 2 ?_
    exact XE
   refine V_seq ?_
   obtain ⟨t13, ht13, h⟩ := zA h
   have ht13 := zD ht13
   refine zJ (mb 54 549755814276) [248, 216, 16] (s1 := ⟨.bot :: .bot :: .pt 16 0 :: bt 4 (.ow 216 :: .ow 248 :: bt 30 (Bo t13 :: bt 14 [])), [(248, .arr 3 1 (y11.map c3)), (216, .arr 3 1 (y8.map c3)), (16, .box [Ti 0, Ti 0, Ti 0, Ti 0])]⟩) ?_ ?_
   ·refine XR 1 ?_
    refine L0 rfl rfl (Y0_lenM (c := c3) (xs := y8) Tryd.underlying27 rfl kk) ?_
    refine XR 2 ?_
    refine XL_split (!eqI ((y8.length : Int)) 2) (fun hc12 => ?_) (fun hc12 => ?_)
    ·refine zF _ rfl rfl kk hc12 rfl ?_
     refine zF _ rfl rfl kk hc12 rfl ?_
     refine zF _ rfl rfl kk hc12 rfl ?_
     refine zH rfl (zB rfl (Y0_pick1 (b := !eqI ((y8.length : Int)) 2) (p := true) (q := !eqI ((y11.length : Int)) 2) rfl kk hc12 kk)) ?_
     refine zK ?_
     subst ht13
     kernel_rfl
    ·refine zE _ rfl rfl kk hc12 (zB rfl (E_move (.ow 248) rfl kk)) ?_
     refine zE _ rfl rfl kk hc12 (zB rfl (Y0_lenM (c := c3) (xs := y11) Tryd.underlying27 rfl kk)) ?_
     refine zE _ rfl rfl kk hc12 (zB rfl (Y0_new (k := .i64) (a := (y11.length : Int)) (b := 2) rfl kk kk)) ?_
     refine zH rfl (zB rfl (Y0_pick0 (b := !eqI ((y8.length : Int)) 2) (p := true) (q := !eqI ((y11.length : Int)) 2) rfl kk hc12 kk)) ?_
     refine zK ?_
     subst ht13
     kernel_rfl
   refine V_cond rfl (fun hc14 => ?_) (fun hc14 => ?_)
   ·have h := of_true h hc14
    refine zJ (mb 54 12) [16] (s1 := ⟨.bot :: .bot :: .pt 16 0 :: Bo false :: bt 50 [], [(16, .box [Ti 0, Ti 0, Ti 0, Ti 0])]⟩) ?_ ?_
    ·refine L0 rfl rfl (Y0_build (cs := [Ti 0, Ti 0, Ti 0, Ti 0]) pl44 bt44 rfl rfl kk) ?_
     exact XE
    refine V_ret ?_
    obtain rfl := zD h
    show Post _ _ _ _ _
    exact ⟨.inr rfl, rfl, rfl, rfl⟩
   ·have h := zI h hc14
    refine V_skip ?_
    show V _ _ _ _
    obtain ⟨e15, he15, h⟩ := zA h
    obtain ⟨e16, he16, h⟩ := zA h
    obtain ⟨e17, he17, h⟩ := zA h
    obtain ⟨e18, he18, h⟩ := zA h
    obtain ⟨e19, he19, h⟩ := zA h
    obtain ⟨e20, he20, h⟩ := zA h
    obtain ⟨e21, he21, h⟩ := zA h
    obtain ⟨e22, he22, h⟩ := zA h
    refine V_sdreg [0, 1, 3, 0, 8, 24, 0, 64, 192, 0, 512, 1536, 4095, 8191, 16383] 13 (cdm 13 [11184768, 11184769, 11184773, 11182122, 11182186, 11182442, 11012778, 11016874, 11033258, 174762, 436906, 1485482, 5592405]) (mb 54 12) [16] (s1 := ⟨.bot :: .bot :: .pt 16 0 :: Bo true :: bt 50 [], [(16, .box [Ti e16, Ti e18, Ti e20, Ti e22])]⟩) kk kk ?_ ?_
    ·refine DR 1 ?_
     refine DE_0 1 (.po 216 1 (Int.toNat (0)) 0) kk rfl rfl rfl (zG rfl) kk (Y0_idxoM (c := c3) (xs := y8) (v := e15) (id := 216) (T := 3) (sz := 1) (n := 0) Tryd.underlying27 sz3 rfl kk kk kk he15) 42 rfl ?_
     refine DE_0 2 (I e16) kk rfl rfl rfl (zG rfl) kk (Y0_loado1 (c := c3) (xs := y8) (v := e16) (id := 216) (sz := 1) (T := 3) (off := 0) (n := 0) (d := Ti e16) (ds := []) sc3 rfl kk kk he16 kk) 43 rfl ?_
     refine DR 1 ?_
     refine DE_0 4 (.po 216 1 (Int.toNat (1)) 0) kk rfl rfl rfl (zG rfl) kk (Y0_idxoM (c := c3) (xs := y8) (v := e17) (id := 216) (T := 3) (sz := 1) (n := 1) Tryd.underlying27 sz3 rfl kk kk kk he17) 45 rfl ?_
     refine DE_0 5 (I e18) kk rfl rfl rfl (zG rfl) kk (Y0_loado1 (c := c3) (xs := y8) (v := e18) (id := 216) (sz := 1) (T := 3) (off := 0) (n := 1) (d := Ti e18) (ds := []) sc3 rfl kk kk he18 kk) 46 rfl ?_
     refine DR 1 ?_
     refine DE_0 7 (.po 248 1 (Int.toNat (0)) 0) kk rfl rfl rfl (zG rfl) kk (Y0_idxoM (c := c3) (xs := y11) (v := e19) (id := 248) (T := 3) (sz := 1) (n := 0) Tryd.underlying27 sz3 rfl kk kk kk he19) 48 rfl ?_
     refine DE_0 8 (I e20) kk rfl rfl rfl (zG rfl) kk (Y0_loado1 (c := c3) (xs := y11) (v := e20) (id := 248) (sz := 1) (T := 3) (off := 0) (n := 0) (d := Ti e20) (ds := []) sc3 rfl kk kk he20 kk) 49 rfl ?_
     refine DR 1 ?_
     refine DE_0 10 (.po 248 1 (Int.toNat (1)) 0) kk rfl rfl rfl (zG rfl) kk (Y0_idxoM (c := c3) (xs := y11) (v := e21) (id := 248) (T := 3) (sz := 1) (n := 1) Tryd.underlying27 sz3 rfl kk kk kk he21) 51 rfl ?_
     refine DE_0 11 (I e22) kk rfl rfl rfl (zG rfl) kk (Y0_loado1 (c := c3) (xs := y11) (v := e22) (id := 248) (sz := 1) (T := 3) (off := 0) (n := 1) (d := Ti e22) (ds := []) sc3 rfl kk kk he22 kk) 52 rfl ?_
     refine DE_0 12 (.ag [Ti e16, Ti e18, Ti e20, Ti e22]) kk rfl rfl rfl (zG rfl) kk (Y0_build (cs := [Ti e16, Ti e18, Ti e20, Ti e22]) pl44 bt44 rfl rfl kk) 53 rfl ?_
     refine DA 0 ?_
     exact XE
    refine V_ret ?_
    obtain rfl := zD h
    show Post _ _ _ _ _
    exact ⟨.inr rfl, rfl, rfl, rfl⟩
theorem cf_spec_prParse : ∀ args w, (callFunc 6 args).run Tryd.prog w = .ok (.enter 6 args) w := run_callFunc Tryd.func6 kk kk
theorem s_spec_prParse {vs1 : ByteArray} {r : (ByteArray × (((List ((Int × Int × Int))) × (List ((Int × Int × Int × Int))) × (List Int))) × Bool)} (h : r_spec_prParse vs1 = some r) : CallS Tryd.prog 6 [.c (.v (.string vs1))] (.tc (.c (.v (.string r.1))) (.tc (.ag [.sl (r.2.1.1.map c40), .sl (r.2.1.2.1.map c44), .sl (r.2.1.2.2.map c3)]) (.tc (Bo r.2.2) .tn))) [] := by
  refine CallS_of_text (rs := [.t 2, .w 3 3, .t 4]) (vs := [.tmp 2, .cell 3 29, .tmp 4]) Tryd.func6 rfl rfl (.cons rfl (.cons ⟨rfl, wd29⟩ (.cons rfl FitsL.nil))) (by decide) 102 rfl ?_
  unfold r_spec_prParse at h
  show V _ _ ⟨.c (.v (.string vs1)) :: bt 101 [], []⟩ _
  refine V_e (mb 102 9) [24] (s1 := ⟨.c (.v (.string vs1)) :: .bot :: .bot :: .pt 24 0 :: bt 98 [], [(24, .box [.v (.slice none 0 0), .v (.slice none 0 0), .v (.slice none 0 0)])]⟩) ?_
  obtain ⟨y2, hy2, h⟩ := zA h
  refine zJ (mb 102 40) [144, 24] (s1 := ⟨bt 3 (.pt 24 0 :: .bot :: .ow 144 :: bt 96 []), [(144, .arr 9 1 (y2.map c9)), (24, .box [.v (.slice none 0 0), .v (.slice none 0 0), .v (.slice none 0 0)])]⟩) ?_ ?_
  ·refine XR 1 ?_
   refine XC (s_spec_l1Split hy2) cf_spec_l1Split rfl rfl rfl ?_
   exact XE
  refine V_e (mb 102 104) [48, 144, 24] (s1 := ⟨bt 3 (.pt 24 0 :: .bot :: .ow 144 :: .pt 48 0 :: bt 95 []), [(48, .box [.v (.slice none 0 0), .v (.slice none 0 0), .v (.slice none 0 0)]), (144, .arr 9 1 (y2.map c9)), (24, .box [.v (.slice none 0 0), .v (.slice none 0 0), .v (.slice none 0 0)])]⟩) ?_
  obtain ⟨e3, he3, h⟩ := zA h
  obtain ⟨e4, he4, h⟩ := zA h
  obtain ⟨y5, hy5, h⟩ := zA h
  refine zJ (mb 102 232) [48, 144, 24] (s1 := ⟨bt 3 (.pt 24 0 :: .bot :: .ow 144 :: .pt 48 0 :: .c (.v (.string y5)) :: bt 94 []), [(48, .box [.v (.slice none 0 0), .v (.slice none 0 0), .v (.slice none 0 0)]), (144, .arr 9 1 (y2.map c9)), (24, .box [.v (.slice none 0 0), .v (.slice none 0 0), .v (.slice none 0 0)])]⟩) ?_ ?_
  ·refine XR 1 ?_
   refine L0 rfl rfl (Y0_idxoM (c := c9) (xs := y2) (v := e3) (id := 144) (T := 9) (sz := 1) (n := 0) Tryd.underlying36 sz9 rfl kk kk kk he3) ?_
   refine L0 rfl rfl (Y0_loado1 (c := c9) (xs := y2) (v := e4) (id := 144) (sz := 1) (T := 9) (off := 0) (n := 0) (d := .v (.string e4)) (ds := []) sc9 rfl kk kk he4 kk) ?_
   refine XC (s_spec_prWords hy5) cf_spec_prWords rfl rfl rfl ?_
   exact XE
  refine V_seq ?_
  obtain ⟨t7, ht7, h⟩ := zA h
  have ht7 := zD ht7
  refine zJ (mb 102 4294967528) [48, 144, 24] (s1 := ⟨bt 3 (.pt 24 0 :: .bot :: .ow 144 :: .pt 48 0 :: .c (.v (.string y5)) :: bt 24 (Bo t7 :: bt 69 [])), [(48, .box [.v (.slice none 0 0), .v (.slice none 0 0), .v (.slice none 0 0)]), (144, .arr 9 1 (y2.map c9)), (24, .box [.v (.slice none 0 0), .v (.slice none 0 0), .v (.slice none 0 0)])]⟩) ?_ ?_
  ·refine XR 1 ?_
   refine L0 rfl rfl (Y0_eqs (a := y5) (b := ((⟨#[]⟩ : ByteArray))) rfl kk kk) ?_
   refine XR 1 ?_
   refine XL_split (y5.toList == ((⟨#[]⟩ : ByteArray)).toList) (fun hc6 => ?_) (fun hc6 => ?_)
   ·refine zF _ rfl rfl kk hc6 rfl ?_
    refine zF _ rfl rfl kk hc6 rfl ?_
    refine zF _ rfl rfl kk hc6 rfl ?_
    refine zF _ rfl rfl kk hc6 rfl ?_
    refine zF _ rfl rfl kk hc6 rfl ?_
    refine zF _ rfl rfl kk hc6 rfl ?_
    refine zH rfl (zB rfl (Y0_pick1 (b := y5.toList == ((⟨#[]⟩ : ByteArray)).toList) (p := true) (q := !eqI ((y2.length : Int)) (w64 (((y5.size : Int)) + 1))) rfl kk hc6 kk)) ?_
    refine zK ?_
    subst ht7
    kernel_rfl
   ·refine zE _ rfl rfl kk hc6 (zB rfl (E_move (.ow 144) rfl kk)) ?_
    refine zE _ rfl rfl kk hc6 (zB rfl (Y0_lenM (c := c9) (xs := y2) Tryd.underlying36 rfl kk)) ?_
    refine zE _ rfl rfl kk hc6 (zB rfl (E_move (.c (.v (.string y5))) rfl kk)) ?_
    refine zE _ rfl rfl kk hc6 (zB rfl (Y0_lens (b := y5) Tryd.underlying9 rfl kk)) ?_
    refine zE _ rfl rfl kk hc6 (zB rfl (Y0_add64 (a := (y5.size : Int)) (b := 1) rfl kk kk)) ?_
    refine zE _ rfl rfl kk hc6 (zB rfl (Y0_new (k := .i64) (a := (y2.length : Int)) (b := w64 (((y5.size : Int)) + 1)) rfl kk kk)) ?_
    refine zH rfl (zB rfl (Y0_pick0 (b := y5.toList == ((⟨#[]⟩ : ByteArray)).toList) (p := true) (q := !eqI ((y2.length : Int)) (w64 (((y5.size : Int)) + 1))) rfl kk hc6 kk)) ?_
    refine zK ?_
    subst ht7
    kernel_rfl
  refine V_cond rfl (fun hc8 => ?_) (fun hc8 => ?_)
  ·have h := of_true h hc8
   refine V_sdreg [0, 0, 3, 7] 2 (cdm 2 [8, 2]) (mb 102 28) [24] (s1 := ⟨.bot :: .bot :: .c (.v (.string ((⟨#[]⟩ : ByteArray)))) :: .pt 24 0 :: Bo false :: bt 97 [], [(24, .box [.v (.slice none 0 0), .v (.slice none 0 0), .v (.slice none 0 0)])]⟩) kk kk ?_ ?_
   ·refine DA 2 ?_
    exact XE
   refine V_nilSl 24 0 (cs := [.v (.slice none 0 0), .v (.slice none 0 0), .v (.slice none 0 0)]) (s1 := ⟨.bot :: .bot :: .c (.v (.string ((⟨#[]⟩ : ByteArray)))) :: .pt 24 0 :: Bo false :: bt 97 [], [(24, .box [.sl ((([] : List ((Int × Int × Int)))).map c40), .v (.slice none 0 0), .v (.slice none 0 0)])]⟩) kk kk kk ?_
   refine V_nilSl 24 1 (cs := [.sl ((([] : List ((Int × Int × Int)))).map c40), .v (.slice none 0 0), .v (.slice none 0 0)]) (s1 := ⟨.bot :: .bot :: .c (.v (.string ((⟨#[]⟩ : ByteArray)))) :: .pt 24 0 :: Bo false :: bt 97 [], [(24, .box [.sl ((([] : List ((Int × Int × Int)))).map c40), .sl ((([] : List ((Int × Int × Int × Int)))).map c44), .v (.slice none 0 0)])]⟩) kk kk kk ?_
   refine V_nilSl 24 2 (cs := [.sl ((([] : List ((Int × Int × Int)))).map c40), .sl ((([] : List ((Int × Int × Int × Int)))).map c44), .v (.slice none 0 0)]) (s1 := ⟨.bot :: .bot :: .c (.v (.string ((⟨#[]⟩ : ByteArray)))) :: .pt 24 0 :: Bo false :: bt 97 [], [(24, .box [.sl ((([] : List ((Int × Int × Int)))).map c40), .sl ((([] : List ((Int × Int × Int × Int)))).map c44), .sl ((([] : List Int)).map c3)])]⟩) kk kk kk ?_
   refine V_ret ?_
   obtain rfl := zD h
   show Post _ _ _ _ _
   exact ⟨.inr rfl, rfl, rfl, rfl⟩
  ·have h := zI h hc8
   refine V_skip ?_
   show V _ _ _ _
   refine V_e (mb 102 488) [48, 144, 24] (s1 := ⟨bt 3 (.pt 24 0 :: .bot :: .ow 144 :: .pt 48 0 :: .c (.v (.string y5)) :: Bo true :: bt 93 []), [(48, .box [.v (.slice none 0 0), .v (.slice none 0 0), .v (.slice none 0 0)]), (144, .arr 9 1 (y2.map c9)), (24, .box [.v (.slice none 0 0), .v (.slice none 0 0), .v (.slice none 0 0)])]⟩) ?_
   refine V_seq ?_
   refine V_e (mb 102 1000) [48, 144, 24] (s1 := ⟨bt 3 (.pt 24 0 :: .bot :: .ow 144 :: .pt 48 0 :: .c (.v (.string y5)) :: Bo true :: I 0 :: bt 92 []), [(48, .box [.v (.slice none 0 0), .v (.slice none 0 0), .v (.slice none 0 0)]), (144, .arr 9 1 (y2.map c9)), (24, .box [.v (.slice none 0 0), .v (.slice none 0 0), .v (.slice none 0 0)])]⟩) ?_
   refine V_nilrow 49 40 3 kk (by decide) ?_
   refine V_nilrow 50 44 4 kk (by decide) ?_
   refine V_nilrow 51 3 1 kk (by decide) ?_
   refine V_gen (fun γ : Nat → Loc => ⟨bt 3 (.pt 24 0 :: .bot :: .ow 144 :: .pt 48 0 :: .c (.v (.string y5)) :: Bo true :: I 0 :: bt 92 []), [(51, .qarr (γ 51) 3 1 ((([] : List Int)).map c3)), (50, .qarr (γ 50) 44 4 ((([] : List ((Int × Int × Int × Int)))).map c44)), (49, .qarr (γ 49) 40 3 ((([] : List ((Int × Int × Int)))).map c40)), (48, .box [.v (zC (γ 49)), .v (zC (γ 50)), .v (zC (γ 51))]), (144, .arr 9 1 (y2.map c9)), (24, .box [.v (.slice none 0 0), .v (.slice none 0 0), .v (.slice none 0 0)])]⟩) (fun _ => loc0) kk fun γ => ?_
   obtain ⟨o15, hLo15, h⟩ := zA h
   refine V_toKQ (S := fun γ : Nat → Loc => ⟨bt 3 (.pt 24 0 :: .bot :: .ow 144 :: .pt 48 0 :: .bot :: Bo o15.1 :: bt 93 []), [(51, .qarr (γ 51) 3 1 (o15.2.1.map c3)), (50, .qarr (γ 50) 44 4 (o15.2.2.1.map c44)), (49, .qarr (γ 49) 40 3 (o15.2.2.2.map c40)), (48, .box [.v (zC (γ 49)), .v (zC (γ 50)), .v (zC (γ 51))]), (144, .arr 9 1 (y2.map c9)), (24, .box [.v (.slice none 0 0), .v (.slice none 0 0), .v (.slice none 0 0)])]⟩) (mb 102 360) [51, 50, 49, 48, 144, 24] ?_ ?_
   ·clear h
    refine V_block (V_loop (fun n s => ∃ (ok9 : Bool) (i10 : Int) (l11 : List ((Int × Int × Int))) (l12 : List ((Int × Int × Int × Int))) (l13 : List Int), ∃ γ : Nat → Loc, s.keep (mb 102 1000) [51, 50, 49, 48, 144, 24] = (⟨bt 3 (.pt 24 0 :: .bot :: .ow 144 :: .pt 48 0 :: .c (.v (.string y5)) :: Bo ok9 :: I i10 :: bt 92 []), [(51, .qarr (γ 51) 3 1 (l13.map c3)), (50, .qarr (γ 50) 44 4 (l12.map c44)), (49, .qarr (γ 49) 40 3 (l11.map c40)), (48, .box [.v (zC (γ 49)), .v (zC (γ 50)), .v (zC (γ 51))]), (144, .arr 9 1 (y2.map c9)), (24, .box [.v (.slice none 0 0), .v (.slice none 0 0), .v (.slice none 0 0)])]⟩ : St) ∧ r_spec_prParse_L14 y2 y5 n ok9 i10 l11 l12 l13 = some o15) FU ⟨_, _, _, _, _, γ,  by rfl, hLo15⟩ ?_)
    clear hLo15
    rintro n s ⟨ok9, i10, l11, l12, l13, γ, hs, h⟩
    refine V_keep _ _ hs ?_
    clear hs
    cases n with
    | zero => cases h
    | succ n =>
     rw [r_spec_prParse_L14] at h
     refine V_seq ?_
     refine V_sregQ (fun γ : Nat → Loc => ⟨bt 3 (.pt 24 0 :: .bot :: .ow 144 :: .pt 48 0 :: .c (.v (.string y5)) :: Bo ok9 :: I i10 :: bt 27 (Bo (ltI i10 ((y5.size : Int))) :: bt 64 [])), [(51, .qarr (γ 51) 3 1 (l13.map c3)), (50, .qarr (γ 50) 44 4 (l12.map c44)), (49, .qarr (γ 49) 40 3 (l11.map c40)), (48, .box [.v (zC (γ 49)), .v (zC (γ 50)), .v (zC (γ 51))]), (144, .arr 9 1 (y2.map c9)), (24, .box [.v (.slice none 0 0), .v (.slice none 0 0), .v (.slice none 0 0)])]⟩) (mb 102 137438954472) [51, 50, 49, 48, 144, 24] ?_ ?_
     ·refine XR 2 ?_
      refine L0 rfl rfl (Y0_lens (b := y5) Tryd.underlying9 rfl kk) ?_
      refine XR 1 ?_
      refine zK ?_
      exact ⟨γ, by kernel_rfl⟩
     intro γ
     refine V_cond rfl (fun hc16 => ?_) (fun hc16 => ?_)
     ·have h := of_true h hc16
      refine V_skip ?_
      show V _ _ _ _
      refine V_seq ?_
      refine V_block ?_
      obtain ⟨e17, he17, h⟩ := zA h
      obtain ⟨e18, he18, h⟩ := zA h
      refine V_sregQ (fun γ : Nat → Loc => ⟨bt 3 (.pt 24 0 :: .bot :: .ow 144 :: .pt 48 0 :: .c (.v (.string y5)) :: Bo ok9 :: I i10 :: .c (.v (.string e18)) :: bt 91 []), [(51, .qarr (γ 51) 3 1 (l13.map c3)), (50, .qarr (γ 50) 44 4 (l12.map c44)), (49, .qarr (γ 49) 40 3 (l11.map c40)), (48, .box [.v (zC (γ 49)), .v (zC (γ 50)), .v (zC (γ 51))]), (144, .arr 9 1 (y2.map c9)), (24, .box [.v (.slice none 0 0), .v (.slice none 0 0), .v (.slice none 0 0)])]⟩) (mb 102 2024) [51, 50, 49, 48, 144, 24] ?_ ?_
      ·refine XR 3 ?_
       refine L0 rfl rfl (Y0_idxoM (c := c9) (xs := y2) (v := e17) (id := 144) (T := 9) (sz := 1) (n := w64 (i10 + 1)) Tryd.underlying36 sz9 rfl kk kk kk he17) ?_
       refine L0 rfl rfl (Y0_loado1 (c := c9) (xs := y2) (v := e18) (id := 144) (sz := 1) (T := 9) (off := 0) (n := w64 (i10 + 1)) (d := .v (.string e18)) (ds := []) sc9 rfl kk kk he18 kk) ?_
       refine XR 1 ?_
       refine zK ?_
       exact ⟨γ, by kernel_rfl⟩
      intro γ
      obtain ⟨e19, he19, h⟩ := zA h
      refine V_sregQ (fun γ : Nat → Loc => ⟨bt 3 (.pt 24 0 :: .bot :: .ow 144 :: .pt 48 0 :: .c (.v (.string y5)) :: Bo ok9 :: I i10 :: .c (.v (.string e18)) :: bt 36 (.c (.v (.int .u8 e19)) :: bt 54 [])), [(51, .qarr (γ 51) 3 1 (l13.map c3)), (50, .qarr (γ 50) 44 4 (l12.map c44)), (49, .qarr (γ 49) 40 3 (l11.map c40)), (48, .box [.v (zC (γ 49)), .v (zC (γ 50)), .v (zC (γ 51))]), (144, .arr 9 1 (y2.map c9)), (24, .box [.v (.slice none 0 0), .v (.slice none 0 0), .v (.slice none 0 0)])]⟩) (mb 102 140737488357352) [51, 50, 49, 48, 144, 24] ?_ ?_
      ·refine XR 2 ?_
       refine L0 rfl rfl (Y0_idxs (b := y5) (k := .i64) (n := i10) (v := e19) Tryd.underlying9 rfl kk kk he19) ?_
       refine zK ?_
       exact ⟨γ, by kernel_rfl⟩
      intro γ
      refine V_block ?_
      refine V_sregQ (fun γ : Nat → Loc => ⟨bt 3 (.pt 24 0 :: .bot :: .ow 144 :: .pt 48 0 :: .c (.v (.string y5)) :: Bo ok9 :: I i10 :: .c (.v (.string e18)) :: bt 36 (.c (.v (.int .u8 e19)) :: bt 15 (Bo (eqI e19 102) :: bt 38 []))), [(51, .qarr (γ 51) 3 1 (l13.map c3)), (50, .qarr (γ 50) 44 4 (l12.map c44)), (49, .qarr (γ 49) 40 3 (l11.map c40)), (48, .box [.v (zC (γ 49)), .v (zC (γ 50)), .v (zC (γ 51))]), (144, .arr 9 1 (y2.map c9)), (24, .box [.v (.slice none 0 0), .v (.slice none 0 0), .v (.slice none 0 0)])]⟩) (mb 102 9223512774343133160) [51, 50, 49, 48, 144, 24] ?_ ?_
      ·refine L0 rfl rfl (Y0_eqw (k := .u8) (a := e19) (b := 102) rfl kk kk) ?_
       refine XR 1 ?_
       refine zK ?_
       exact ⟨γ, by kernel_rfl⟩
      intro γ
      refine V_cond rfl (fun hc20 => ?_) (fun hc20 => ?_)
      ·have h := of_true h hc20
       obtain ⟨y21, hy21, h⟩ := zA h
       refine V_sregQ (fun γ : Nat → Loc => ⟨bt 3 (.pt 24 0 :: .bot :: .ow 144 :: .pt 48 0 :: .c (.v (.string y5)) :: Bo ok9 :: I i10 :: .bot :: .pt 88 0 :: Bo y21.2 :: bt 89 []), [(88, .box [Ti y21.1.1, Ti y21.1.2.1, Ti y21.1.2.2]), (51, .qarr (γ 51) 3 1 (l13.map c3)), (50, .qarr (γ 50) 44 4 (l12.map c44)), (49, .qarr (γ 49) 40 3 (l11.map c40)), (48, .box [.v (zC (γ 49)), .v (zC (γ 50)), .v (zC (γ 51))]), (144, .arr 9 1 (y2.map c9)), (24, .box [.v (.slice none 0 0), .v (.slice none 0 0), .v (.slice none 0 0)])]⟩) (mb 102 7144) [88, 51, 50, 49, 48, 144, 24] ?_ ?_
       ·refine XR 1 ?_
        refine XC (s_spec_foRead hy21) cf_spec_foRead rfl rfl rfl ?_
        refine XR 6 ?_
        refine zK ?_
        exact ⟨γ, by kernel_rfl⟩
       intro γ
       obtain ⟨u22, hu22, h⟩ := zA h
       refine V_sregQ (fun γ : Nat → Loc => ⟨bt 3 (.pt 24 0 :: .bot :: .ow 144 :: .pt 48 0 :: .c (.v (.string y5)) :: Bo ok9 :: I i10 :: .bot :: .bot :: Bo y21.2 :: bt 89 []), [(51, .qarr (γ 51) 3 1 (l13.map c3)), (50, .qarr (γ 50) 44 4 (l12.map c44)), (49, .qarr (γ 49) 40 3 ((l11 ++ ([y21.1])).map c40)), (48, .box [.v (zC (γ 49)), .v (zC (γ 50)), .v (zC (γ 51))]), (144, .arr 9 1 (y2.map c9)), (24, .box [.v (.slice none 0 0), .v (.slice none 0 0), .v (.slice none 0 0)])]⟩) (mb 102 5096) [51, 50, 49, 48, 144, 24] ?_ ?_
       ·refine XR 3 ?_
        refine L1 rfl rfl (Y1_bslice (z := zv40) (els := [y21.1].map c40) Tryd.underlying25 iz40 rfl (by decide) rfl kk rfl (by simp [c40]) (by decide) (by decide)) ?_
        refine XL_unpinQ 71 49 (l := γ 49) (T := 40) (sz := 3) (els := l11.map c40) kk kk ?_
        refine zH rfl (X_appendM (c := c40) (xs := l11) (ys := [y21.1]) (id := 49) (z := zv40) rfl rfl Tryd.underlying25 izb40 rfl kk kk kk (fun _ => rfl) (by simp) (room_some hu22) (by decide)) ?_
        refine XR 1 ?_
        refine XL_pinQ 74 49 (T := 40) (sz := 3) (els := (l11 ++ ([y21.1])).map c40) kk kk fun lq1 => ?_
        refine XR 1 ?_
        refine zK ?_
        exact ⟨(fun i => if i = 49 then lq1 else γ i), by kernel_rfl⟩
       intro γ
       refine V_regQ (fun γ : Nat → Loc => ⟨bt 3 (.pt 24 0 :: .bot :: .ow 144 :: .pt 48 0 :: .c (.v (.string y5)) :: Bo (bif ok9 then y21.2 else false) :: I i10 :: bt 92 []), [(51, .qarr (γ 51) 3 1 (l13.map c3)), (50, .qarr (γ 50) 44 4 (l12.map c44)), (49, .qarr (γ 49) 40 3 ((l11 ++ ([y21.1])).map c40)), (48, .box [.v (zC (γ 49)), .v (zC (γ 50)), .v (zC (γ 51))]), (144, .arr 9 1 (y2.map c9)), (24, .box [.v (.slice none 0 0), .v (.slice none 0 0), .v (.slice none 0 0)])]⟩) (mb 102 1000) [51, 50, 49, 48, 144, 24] ?_ ?_
       ·refine XR 2 ?_
        refine XL_split ok9 (fun hc23 => ?_) (fun hc23 => ?_)
        ·refine zE _ rfl rfl kk hc23 (zB rfl (E_move (Bo y21.2) rfl kk)) ?_
         refine zH rfl (zB rfl (Y0_pick1 (b := ok9) (p := y21.2) (q := false) rfl kk hc23 kk)) ?_
         refine XR 1 ?_
         refine zK ?_
         exact ⟨γ, by kernel_rfl⟩
        ·refine XL_skipT _ rfl rfl kk hc23 rfl ?_
         refine zH rfl (zB rfl (Y0_pick0 (b := ok9) (p := y21.2) (q := false) rfl kk hc23 kk)) ?_
         refine XR 1 ?_
         refine zK ?_
         exact ⟨γ, by kernel_rfl⟩
       intro γ
       show V _ _ _ _
       obtain ⟨i24, hi24, h⟩ := of_sI h
       refine V_regQ (fun γ : Nat → Loc => ⟨bt 3 (.pt 24 0 :: .bot :: .ow 144 :: .pt 48 0 :: .c (.v (.string y5)) :: Bo (bif ok9 then y21.2 else false) :: I i24 :: bt 92 []), [(51, .qarr (γ 51) 3 1 (l13.map c3)), (50, .qarr (γ 50) 44 4 (l12.map c44)), (49, .qarr (γ 49) 40 3 ((l11 ++ ([y21.1])).map c40)), (48, .box [.v (zC (γ 49)), .v (zC (γ 50)), .v (zC (γ 51))]), (144, .arr 9 1 (y2.map c9)), (24, .box [.v (.slice none 0 0), .v (.slice none 0 0), .v (.slice none 0 0)])]⟩) (mb 102 1000) [51, 50, 49, 48, 144, 24] ?_ ?_
       ·refine XR 3 ?_
        refine zK ?_
        subst hi24
        exact ⟨γ, by kernel_rfl⟩
       intro γ
       exact ⟨n, Nat.lt_succ_self n, _, _, _, _, _, γ,  by rfl, h⟩
      ·have h := zI h hc20
       refine V_sregQ (fun γ : Nat → Loc => ⟨bt 3 (.pt 24 0 :: .bot :: .ow 144 :: .pt 48 0 :: .c (.v (.string y5)) :: Bo ok9 :: I i10 :: .c (.v (.string e18)) :: bt 69 (Bo (eqI e19 109) :: bt 21 [])), [(51, .qarr (γ 51) 3 1 (l13.map c3)), (50, .qarr (γ 50) 44 4 (l12.map c44)), (49, .qarr (γ 49) 40 3 (l11.map c40)), (48, .box [.v (zC (γ 49)), .v (zC (γ 50)), .v (zC (γ 51))]), (144, .arr 9 1 (y2.map c9)), (24, .box [.v (.slice none 0 0), .v (.slice none 0 0), .v (.slice none 0 0)])]⟩) (mb 102 1208925819614629174708200) [51, 50, 49, 48, 144, 24] ?_ ?_
       ·refine L0 rfl rfl (Y0_eqw (k := .u8) (a := e19) (b := 109) rfl kk kk) ?_
        refine XR 1 ?_
        refine zK ?_
        exact ⟨γ, by kernel_rfl⟩
       intro γ
       refine V_cond rfl (fun hc25 => ?_) (fun hc25 => ?_)
       ·have h := of_true h hc25
        obtain ⟨y26, hy26, h⟩ := zA h
        refine V_sregQ (fun γ : Nat → Loc => ⟨bt 3 (.pt 24 0 :: .bot :: .ow 144 :: .pt 48 0 :: .c (.v (.string y5)) :: Bo ok9 :: I i10 :: bt 3 (.pt 104 0 :: Bo y26.2 :: bt 87 [])), [(104, .box [Ti y26.1.1, Ti y26.1.2.1, Ti y26.1.2.2.1, Ti y26.1.2.2.2]), (51, .qarr (γ 51) 3 1 (l13.map c3)), (50, .qarr (γ 50) 44 4 (l12.map c44)), (49, .qarr (γ 49) 40 3 (l11.map c40)), (48, .box [.v (zC (γ 49)), .v (zC (γ 50)), .v (zC (γ 51))]), (144, .arr 9 1 (y2.map c9)), (24, .box [.v (.slice none 0 0), .v (.slice none 0 0), .v (.slice none 0 0)])]⟩) (mb 102 25576) [104, 51, 50, 49, 48, 144, 24] ?_ ?_
        ·refine XR 1 ?_
         refine XC (s_spec_foReadMatrix hy26) cf_spec_foReadMatrix rfl rfl rfl ?_
         refine XR 6 ?_
         refine zK ?_
         exact ⟨γ, by kernel_rfl⟩
        intro γ
        obtain ⟨u27, hu27, h⟩ := zA h
        refine V_sregQ (fun γ : Nat → Loc => ⟨bt 3 (.pt 24 0 :: .bot :: .ow 144 :: .pt 48 0 :: .c (.v (.string y5)) :: Bo ok9 :: I i10 :: bt 4 (Bo y26.2 :: bt 87 [])), [(51, .qarr (γ 51) 3 1 (l13.map c3)), (50, .qarr (γ 50) 44 4 ((l12 ++ ([y26.1])).map c44)), (49, .qarr (γ 49) 40 3 (l11.map c40)), (48, .box [.v (zC (γ 49)), .v (zC (γ 50)), .v (zC (γ 51))]), (144, .arr 9 1 (y2.map c9)), (24, .box [.v (.slice none 0 0), .v (.slice none 0 0), .v (.slice none 0 0)])]⟩) (mb 102 17384) [51, 50, 49, 48, 144, 24] ?_ ?_
        ·refine XR 3 ?_
         refine L1 rfl rfl (Y1_bslice (z := zv44) (els := [y26.1].map c44) Tryd.underlying26 iz44 rfl (by decide) rfl kk rfl (by simp [c44]) (by decide) (by decide)) ?_
         refine XL_unpinQ 88 50 (l := γ 50) (T := 44) (sz := 4) (els := l12.map c44) kk kk ?_
         refine zH rfl (X_appendM (c := c44) (xs := l12) (ys := [y26.1]) (id := 50) (z := zv44) rfl rfl Tryd.underlying26 izb44 rfl kk kk kk (fun _ => rfl) (by simp) (room_some hu27) (by decide)) ?_
         refine XR 1 ?_
         refine XL_pinQ 91 50 (T := 44) (sz := 4) (els := (l12 ++ ([y26.1])).map c44) kk kk fun lq1 => ?_
         refine XR 1 ?_
         refine zK ?_
         exact ⟨(fun i => if i = 50 then lq1 else γ i), by kernel_rfl⟩
        intro γ
        refine V_regQ (fun γ : Nat → Loc => ⟨bt 3 (.pt 24 0 :: .bot :: .ow 144 :: .pt 48 0 :: .c (.v (.string y5)) :: Bo (bif ok9 then y26.2 else false) :: I i10 :: bt 92 []), [(51, .qarr (γ 51) 3 1 (l13.map c3)), (50, .qarr (γ 50) 44 4 ((l12 ++ ([y26.1])).map c44)), (49, .qarr (γ 49) 40 3 (l11.map c40)), (48, .box [.v (zC (γ 49)), .v (zC (γ 50)), .v (zC (γ 51))]), (144, .arr 9 1 (y2.map c9)), (24, .box [.v (.slice none 0 0), .v (.slice none 0 0), .v (.slice none 0 0)])]⟩) (mb 102 1000) [51, 50, 49, 48, 144, 24] ?_ ?_
        ·refine XR 2 ?_
         refine XL_split ok9 (fun hc28 => ?_) (fun hc28 => ?_)
         ·refine zE _ rfl rfl kk hc28 (zB rfl (E_move (Bo y26.2) rfl kk)) ?_
          refine zH rfl (zB rfl (Y0_pick1 (b := ok9) (p := y26.2) (q := false) rfl kk hc28 kk)) ?_
          refine XR 1 ?_
          refine zK ?_
          exact ⟨γ, by kernel_rfl⟩
         ·refine XL_skipT _ rfl rfl kk hc28 rfl ?_
          refine zH rfl (zB rfl (Y0_pick0 (b := ok9) (p := y26.2) (q := false) rfl kk hc28 kk)) ?_
          refine XR 1 ?_
          refine zK ?_
          exact ⟨γ, by kernel_rfl⟩
        intro γ
        show V _ _ _ _
        obtain ⟨i29, hi29, h⟩ := of_sI h
        refine V_regQ (fun γ : Nat → Loc => ⟨bt 3 (.pt 24 0 :: .bot :: .ow 144 :: .pt 48 0 :: .c (.v (.string y5)) :: Bo (bif ok9 then y26.2 else false) :: I i29 :: bt 92 []), [(51, .qarr (γ 51) 3 1 (l13.map c3)), (50, .qarr (γ 50) 44 4 ((l12 ++ ([y26.1])).map c44)), (49, .qarr (γ 49) 40 3 (l11.map c40)), (48, .box [.v (zC (γ 49)), .v (zC (γ 50)), .v (zC (γ 51))]), (144, .arr 9 1 (y2.map c9)), (24, .box [.v (.slice none 0 0), .v (.slice none 0 0), .v (.slice none 0 0)])]⟩) (mb 102 1000) [51, 50, 49, 48, 144, 24] ?_ ?_
        ·refine XR 3 ?_
         refine zK ?_
         subst hi29
         exact ⟨γ, by kernel_rfl⟩
        intro γ
        exact ⟨n, Nat.lt_succ_self n, _, _, _, _, _, γ,  by rfl, h⟩
       ·have h := zI h hc25
        obtain ⟨y30, hy30, h⟩ := zA h
        refine V_sregQ (fun γ : Nat → Loc => ⟨bt 3 (.pt 24 0 :: .bot :: .ow 144 :: .pt 48 0 :: .c (.v (.string y5)) :: Bo ok9 :: I i10 :: bt 5 (I y30.1 :: Bo y30.2 :: bt 85 [])), [(51, .qarr (γ 51) 3 1 (l13.map c3)), (50, .qarr (γ 50) 44 4 (l12.map c44)), (49, .qarr (γ 49) 40 3 (l11.map c40)), (48, .box [.v (zC (γ 49)), .v (zC (γ 50)), .v (zC (γ 51))]), (144, .arr 9 1 (y2.map c9)), (24, .box [.v (.slice none 0 0), .v (.slice none 0 0), .v (.slice none 0 0)])]⟩) (mb 102 99304) [51, 50, 49, 48, 144, 24] ?_ ?_
        ·refine XR 1 ?_
         refine XC (s_spec_foInt hy30) cf_spec_foInt rfl rfl rfl ?_
         refine XR 5 ?_
         refine zK ?_
         exact ⟨γ, by kernel_rfl⟩
        intro γ
        obtain ⟨u31, hu31, h⟩ := zA h
        refine V_sregQ (fun γ : Nat → Loc => ⟨bt 3 (.pt 24 0 :: .bot :: .ow 144 :: .pt 48 0 :: .c (.v (.string y5)) :: Bo ok9 :: I i10 :: bt 6 (Bo y30.2 :: bt 85 [])), [(51, .qarr (γ 51) 3 1 ((l13 ++ ([y30.1])).map c3)), (50, .qarr (γ 50) 44 4 (l12.map c44)), (49, .qarr (γ 49) 40 3 (l11.map c40)), (48, .box [.v (zC (γ 49)), .v (zC (γ 50)), .v (zC (γ 51))]), (144, .arr 9 1 (y2.map c9)), (24, .box [.v (.slice none 0 0), .v (.slice none 0 0), .v (.slice none 0 0)])]⟩) (mb 102 66536) [51, 50, 49, 48, 144, 24] ?_ ?_
        ·refine XR 3 ?_
         refine L1 rfl rfl (Y1_bslice (z := zv3) (els := [y30.1].map c3) Tryd.underlying27 iz3 rfl (by decide) rfl kk rfl (by simp [c3]) (by decide) (by decide)) ?_
         refine XL_unpinQ 54 51 (l := γ 51) (T := 3) (sz := 1) (els := l13.map c3) kk kk ?_
         refine zH rfl (X_appendM (c := c3) (xs := l13) (ys := [y30.1]) (id := 51) (z := zv3) rfl rfl Tryd.underlying27 izb3 rfl kk kk kk (fun _ => rfl) (by simp) (room_some hu31) (by decide)) ?_
         refine XR 1 ?_
         refine XL_pinQ 57 51 (T := 3) (sz := 1) (els := (l13 ++ ([y30.1])).map c3) kk kk fun lq1 => ?_
         refine XR 1 ?_
         refine zK ?_
         exact ⟨(fun i => if i = 51 then lq1 else γ i), by kernel_rfl⟩
        intro γ
        refine V_regQ (fun γ : Nat → Loc => ⟨bt 3 (.pt 24 0 :: .bot :: .ow 144 :: .pt 48 0 :: .c (.v (.string y5)) :: Bo (bif ok9 then y30.2 else false) :: I i10 :: bt 92 []), [(51, .qarr (γ 51) 3 1 ((l13 ++ ([y30.1])).map c3)), (50, .qarr (γ 50) 44 4 (l12.map c44)), (49, .qarr (γ 49) 40 3 (l11.map c40)), (48, .box [.v (zC (γ 49)), .v (zC (γ 50)), .v (zC (γ 51))]), (144, .arr 9 1 (y2.map c9)), (24, .box [.v (.slice none 0 0), .v (.slice none 0 0), .v (.slice none 0 0)])]⟩) (mb 102 1000) [51, 50, 49, 48, 144, 24] ?_ ?_
        ·refine XR 2 ?_
         refine XL_split ok9 (fun hc32 => ?_) (fun hc32 => ?_)
         ·refine zE _ rfl rfl kk hc32 (zB rfl (E_move (Bo y30.2) rfl kk)) ?_
          refine zH rfl (zB rfl (Y0_pick1 (b := ok9) (p := y30.2) (q := false) rfl kk hc32 kk)) ?_
          refine XR 1 ?_
          refine zK ?_
          exact ⟨γ, by kernel_rfl⟩
         ·refine XL_skipT _ rfl rfl kk hc32 rfl ?_
          refine zH rfl (zB rfl (Y0_pick0 (b := ok9) (p := y30.2) (q := false) rfl kk hc32 kk)) ?_
          refine XR 1 ?_
          refine zK ?_
          exact ⟨γ, by kernel_rfl⟩
        intro γ
        show V _ _ _ _
        obtain ⟨i33, hi33, h⟩ := of_sI h
        refine V_regQ (fun γ : Nat → Loc => ⟨bt 3 (.pt 24 0 :: .bot :: .ow 144 :: .pt 48 0 :: .c (.v (.string y5)) :: Bo (bif ok9 then y30.2 else false) :: I i33 :: bt 92 []), [(51, .qarr (γ 51) 3 1 ((l13 ++ ([y30.1])).map c3)), (50, .qarr (γ 50) 44 4 (l12.map c44)), (49, .qarr (γ 49) 40 3 (l11.map c40)), (48, .box [.v (zC (γ 49)), .v (zC (γ 50)), .v (zC (γ 51))]), (144, .arr 9 1 (y2.map c9)), (24, .box [.v (.slice none 0 0), .v (.slice none 0 0), .v (.slice none 0 0)])]⟩) (mb 102 1000) [51, 50, 49, 48, 144, 24] ?_ ?_
        ·refine XR 3 ?_
         refine zK ?_
         subst hi33
         exact ⟨γ, by kernel_rfl⟩
        intro γ
        exact ⟨n, Nat.lt_succ_self n, _, _, _, _, _, γ,  by rfl, h⟩
     ·have h := zI h hc16
      refine V_exit ?_
      obtain rfl := zD h
      exact ⟨γ, by rfl⟩
   intro γ
   show V _ _ _ _
   refine V_frzQ 49 48 0 (l := γ 49) (T := 40) (sz := 3) (els := o15.2.2.2.map c40) (cs := [.v (zC (γ 49)), .v (zC (γ 50)), .v (zC (γ 51))]) (s1 := ⟨bt 3 (.pt 24 0 :: .bot :: .ow 144 :: .pt 48 0 :: .bot :: Bo o15.1 :: bt 93 []), [(51, .qarr (γ 51) 3 1 (o15.2.1.map c3)), (50, .qarr (γ 50) 44 4 (o15.2.2.1.map c44)), (48, .box [.sl (o15.2.2.2.map c40), .v (zC (γ 50)), .v (zC (γ 51))]), (144, .arr 9 1 (y2.map c9)), (24, .box [.v (.slice none 0 0), .v (.slice none 0 0), .v (.slice none 0 0)])]⟩) kk kk kk kk ?_
   refine V_frzQ 50 48 1 (l := γ 50) (T := 44) (sz := 4) (els := o15.2.2.1.map c44) (cs := [.sl (o15.2.2.2.map c40), .v (zC (γ 50)), .v (zC (γ 51))]) (s1 := ⟨bt 3 (.pt 24 0 :: .bot :: .ow 144 :: .pt 48 0 :: .bot :: Bo o15.1 :: bt 93 []), [(51, .qarr (γ 51) 3 1 (o15.2.1.map c3)), (48, .box [.sl (o15.2.2.2.map c40), .sl (o15.2.2.1.map c44), .v (zC (γ 51))]), (144, .arr 9 1 (y2.map c9)), (24, .box [.v (.slice none 0 0), .v (.slice none 0 0), .v (.slice none 0 0)])]⟩) kk kk kk kk ?_
   refine V_frzQ 51 48 2 (l := γ 51) (T := 3) (sz := 1) (els := o15.2.1.map c3) (cs := [.sl (o15.2.2.2.map c40), .sl (o15.2.2.1.map c44), .v (zC (γ 51))]) (s1 := ⟨bt 3 (.pt 24 0 :: .bot :: .ow 144 :: .pt 48 0 :: .bot :: Bo o15.1 :: bt 93 []), [(48, .box [.sl (o15.2.2.2.map c40), .sl (o15.2.2.1.map c44), .sl (o15.2.1.map c3)]), (144, .arr 9 1 (y2.map c9)), (24, .box [.v (.slice none 0 0), .v (.slice none 0 0), .v (.slice none 0 0)])]⟩) kk kk kk kk ?_
   obtain ⟨e34, he34, h⟩ := zA h
   obtain ⟨e35, he35, h⟩ := zA h
   refine V_sdreg [0, 1, 3, 0, 0, 7, 47, 127] 7 [[.z, .z, .z, .b, .b, .z, .z], [.a, .z, .z, .b, .b, .z, .z], [.a, .a, .z, .b, .b, .z, .z], [.b, .b, .b, .z, .b, .b, .z], [.b, .b, .b, .b, .z, .b, .r 24], [.a, .a, .a, .b, .b, .z, .z], [.a, .a, .a, .a, .b, .a, .z]] (mb 102 28) [24] (s1 := ⟨.bot :: .bot :: .c (.v (.string e35)) :: .pt 24 0 :: Bo o15.1 :: bt 97 [], [(24, .box [.sl (o15.2.2.2.map c40), .sl (o15.2.2.1.map c44), .sl (o15.2.1.map c3)])]⟩) kk kk ?_ ?_
   ·refine DR 1 ?_
    refine DE_0 1 (.po 144 1 (Int.toNat (0)) 0) kk rfl rfl rfl (zG rfl) kk (Y0_idxoM (c := c9) (xs := y2) (v := e34) (id := 144) (T := 9) (sz := 1) (n := 0) Tryd.underlying36 sz9 rfl kk kk kk he34) 98 rfl ?_
    refine DE_0 2 (.c (.v (.string e35))) kk rfl rfl rfl (zG rfl) kk (Y0_loado1 (c := c9) (xs := y2) (v := e35) (id := 144) (sz := 1) (T := 9) (off := 0) (n := 0) (d := .v (.string e35)) (ds := []) sc9 rfl kk kk he35 kk) 99 rfl ?_
    refine DA 4 ?_
    exact XE
   refine V_ret ?_
   obtain rfl := zD h
   show Post _ _ _ _ _
   exact ⟨.inr rfl, rfl, rfl, rfl⟩
theorem cf_spec_CertificateKind : ∀ args w, (callFunc 4 args).run Tryd.prog w = .ok (.enter 4 args) w := run_callFunc Tryd.func4 kk kk
theorem s_spec_CertificateKind {vs1 : ByteArray} {r : (ByteArray × Bool)} (h : r_spec_CertificateKind vs1 = some r) : CallS Tryd.prog 4 [.c (.v (.string vs1))] (.tc (.c (.v (.string r.1))) (.tc (Bo r.2) .tn)) [] := by
  refine CallS_of_text (rs := [.t 2, .t 3]) (vs := [.tmp 2, .tmp 3]) Tryd.func4 rfl rfl (.cons rfl (.cons rfl FitsL.nil)) (by decide) 16 rfl ?_
  unfold r_spec_CertificateKind at h
  show V _ _ ⟨.c (.v (.string vs1)) :: bt 15 [], []⟩ _
  refine V_e (mb 16 1) [] (s1 := ⟨.c (.v (.string vs1)) :: bt 15 [], []⟩) ?_
  obtain ⟨y2, hy2, h⟩ := zA h
  refine zJ (mb 16 80) [] (s1 := ⟨bt 4 (.c (.v (.string y2.1)) :: .bot :: Bo y2.2.2 :: bt 9 []), []⟩) ?_ ?_
  ·refine XR 1 ?_
   refine XC (s_spec_prParse hy2) cf_spec_prParse rfl rfl rfl ?_
   exact XE
  refine V_seq ?_
  refine V_e (mb 16 16400) [] (s1 := ⟨bt 4 (.c (.v (.string y2.1)) :: bt 9 (Bo (!y2.2.2) :: .bot :: [])), []⟩) ?_
  refine V_cond rfl (fun hc3 => ?_) (fun hc3 => ?_)
  ·have h := of_true h hc3
   refine V_e (mb 16 12) [] (s1 := ⟨.bot :: .bot :: .c (.v (.string ((⟨#[]⟩ : ByteArray)))) :: Bo false :: bt 12 [], []⟩) ?_
   refine V_ret ?_
   obtain rfl := zD h
   show Post _ _ _ _ _
   exact ⟨.inr rfl, rfl, rfl, rfl⟩
  ·have h := zI h hc3
   refine V_skip ?_
   show V _ _ _ _
   refine V_e (mb 16 12) [] (s1 := ⟨.bot :: .bot :: .c (.v (.string y2.1)) :: Bo true :: bt 12 [], []⟩) ?_
   refine V_ret ?_
   obtain rfl := zD h
   show Post _ _ _ _ _
   exact ⟨.inr rfl, rfl, rfl, rfl⟩
theorem cf_impl_shapeOf : ∀ args w, (callFunc 14 args).run Tryd.prog w = .ok (.enter 14 args) w := run_callFunc Tryd.func14 kk kk
theorem s_impl_shapeOf {kind1 : ByteArray} {r : ByteArray} (h : r_impl_shapeOf kind1 = some r) : CallS Tryd.prog 14 [.c (.v (.string kind1))] (.c (.v (.string r))) [] := by
  refine CallS_of_text (rs := [.t 2]) (vs := [.tmp 2]) Tryd.func14 rfl rfl (.cons rfl FitsL.nil) (by decide) 9 rfl ?_
  unfold r_impl_shapeOf at h
  show V _ _ ⟨.c (.v (.string kind1)) :: bt 8 [], []⟩ _
  refine V_e (mb 9 1) [] (s1 := ⟨.c (.v (.string kind1)) :: bt 8 [], []⟩) ?_
  obtain ⟨l2, hl2, h⟩ := zA h
  have hl2 := zD hl2
  refine V_sregM (fun mb4 => ⟨.c (.v (.string kind1)) :: .bot :: .bot :: .c (.v (.map (some mb4))) :: bt 5 [], [(32, .mp mb4 (l2.map kv54))]⟩) (mb 9 9) [32] ?_ ?_
  ·refine XL_mkmap rfl rfl rfl fun mb4 => ?_
   refine zH rfl (X_putM (κ := ByteArray) (ν := ByteArray) (ek := ek54) (ev := ev54) (z := ByteArray.empty) (m := ([] : List ((ByteArray × ByteArray)))) (a := (⟨#[101, 113, 117, 105, 118, 97, 108, 101, 110, 116]⟩ : ByteArray)) (u := (⟨#[102, 102, 109]⟩ : ByteArray)) (id := 32) (b := mb4) mo54 (.inr rfl) rfl kk kk kk kk) ?_
   refine zH rfl (X_putM (κ := ByteArray) (ν := ByteArray) (ek := ek54) (ev := ev54) (z := ByteArray.empty) (m := mPut ((⟨#[101, 113, 117, 105, 118, 97, 108, 101, 110, 116]⟩ : ByteArray)) ((⟨#[102, 102, 109]⟩ : ByteArray)) (([] : List ((ByteArray × ByteArray))))) (a := (⟨#[100, 105, 102, 102, 101, 114, 101, 110, 116]⟩ : ByteArray)) (u := (⟨#[102, 109, 102, 102, 109, 102]⟩ : ByteArray)) (id := 32) (b := mb4) mo54 (.inr rfl) rfl kk kk kk kk) ?_
   refine zH rfl (X_putM (κ := ByteArray) (ν := ByteArray) (ek := ek54) (ev := ev54) (z := ByteArray.empty) (m := mPut ((⟨#[100, 105, 102, 102, 101, 114, 101, 110, 116]⟩ : ByteArray)) ((⟨#[102, 109, 102, 102, 109, 102]⟩ : ByteArray)) (mPut ((⟨#[101, 113, 117, 105, 118, 97, 108, 101, 110, 116]⟩ : ByteArray)) ((⟨#[102, 102, 109]⟩ : ByteArray)) (([] : List ((ByteArray × ByteArray)))))) (a := (⟨#[118, 97, 108, 117, 101]⟩ : ByteArray)) (u := (⟨#[102, 110, 110, 110]⟩ : ByteArray)) (id := 32) (b := mb4) mo54 (.inr rfl) rfl kk kk kk kk) ?_
   refine zH rfl (X_putM (κ := ByteArray) (ν := ByteArray) (ek := ek54) (ev := ev54) (z := ByteArray.empty) (m := mPut ((⟨#[118, 97, 108, 117, 101]⟩ : ByteArray)) ((⟨#[102, 110, 110, 110]⟩ : ByteArray)) (mPut ((⟨#[100, 105, 102, 102, 101, 114, 101, 110, 116]⟩ : ByteArray)) ((⟨#[102, 109, 102, 102, 109, 102]⟩ : ByteArray)) (mPut ((⟨#[101, 113, 117, 105, 118, 97, 108, 101, 110, 116]⟩ : ByteArray)) ((⟨#[102, 102, 109]⟩ : ByteArray)) (([] : List ((ByteArray × ByteArray))))))) (a := (⟨#[111, 98, 115, 116, 114, 117, 99, 116, 105, 111, 110]⟩ : ByteArray)) (u := (⟨#[110, 110, 110]⟩ : ByteArray)) (id := 32) (b := mb4) mo54 (.inr rfl) rfl kk kk kk kk) ?_
   refine zH rfl (X_putM (κ := ByteArray) (ν := ByteArray) (ek := ek54) (ev := ev54) (z := ByteArray.empty) (m := mPut ((⟨#[111, 98, 115, 116, 114, 117, 99, 116, 105, 111, 110]⟩ : ByteArray)) ((⟨#[110, 110, 110]⟩ : ByteArray)) (mPut ((⟨#[118, 97, 108, 117, 101]⟩ : ByteArray)) ((⟨#[102, 110, 110, 110]⟩ : ByteArray)) (mPut ((⟨#[100, 105, 102, 102, 101, 114, 101, 110, 116]⟩ : ByteArray)) ((⟨#[102, 109, 102, 102, 109, 102]⟩ : ByteArray)) (mPut ((⟨#[101, 113, 117, 105, 118, 97, 108, 101, 110, 116]⟩ : ByteArray)) ((⟨#[102, 102, 109]⟩ : ByteArray)) (([] : List ((ByteArray × ByteArray)))))))) (a := (⟨#[99, 111, 109, 112, 111, 115, 105, 116, 101]⟩ : ByteArray)) (u := (⟨#[102, 102, 102, 110, 110, 110, 110, 110, 110, 110, 110]⟩ : ByteArray)) (id := 32) (b := mb4) mo54 (.inr rfl) rfl kk kk kk kk) ?_
   refine zH rfl (X_putM (κ := ByteArray) (ν := ByteArray) (ek := ek54) (ev := ev54) (z := ByteArray.empty) (m := mPut ((⟨#[99, 111, 109, 112, 111, 115, 105, 116, 101]⟩ : ByteArray)) ((⟨#[102, 102, 102, 110, 110, 110, 110, 110, 110, 110, 110]⟩ : ByteArray)) (mPut ((⟨#[111, 98, 115, 116, 114, 117, 99, 116, 105, 111, 110]⟩ : ByteArray)) ((⟨#[110, 110, 110]⟩ : ByteArray)) (mPut ((⟨#[118, 97, 108, 117, 101]⟩ : ByteArray)) ((⟨#[102, 110, 110, 110]⟩ : ByteArray)) (mPut ((⟨#[100, 105, 102, 102, 101, 114, 101, 110, 116]⟩ : ByteArray)) ((⟨#[102, 109, 102, 102, 109, 102]⟩ : ByteArray)) (mPut ((⟨#[101, 113, 117, 105, 118, 97, 108, 101, 110, 116]⟩ : ByteArray)) ((⟨#[102, 102, 109]⟩ : ByteArray)) (([] : List ((ByteArray × ByteArray))))))))) (a := (⟨#[111, 114, 100, 101, 114]⟩ : ByteArray)) (u := (⟨#[102, 110]⟩ : ByteArray)) (id := 32) (b := mb4) mo54 (.inr rfl) rfl kk kk kk kk) ?_
   refine zH rfl (X_putM (κ := ByteArray) (ν := ByteArray) (ek := ek54) (ev := ev54) (z := ByteArray.empty) (m := mPut ((⟨#[111, 114, 100, 101, 114]⟩ : ByteArray)) ((⟨#[102, 110]⟩ : ByteArray)) (mPut ((⟨#[99, 111, 109, 112, 111, 115, 105, 116, 101]⟩ : ByteArray)) ((⟨#[102, 102, 102, 110, 110, 110, 110, 110, 110, 110, 110]⟩ : ByteArray)) (mPut ((⟨#[111, 98, 115, 116, 114, 117, 99, 116, 105, 111, 110]⟩ : ByteArray)) ((⟨#[110, 110, 110]⟩ : ByteArray)) (mPut ((⟨#[118, 97, 108, 117, 101]⟩ : ByteArray)) ((⟨#[102, 110, 110, 110]⟩ : ByteArray)) (mPut ((⟨#[100, 105, 102, 102, 101, 114, 101, 110, 116]⟩ : ByteArray)) ((⟨#[102, 109, 102, 102, 109, 102]⟩ : ByteArray)) (mPut ((⟨#[101, 113, 117, 105, 118, 97, 108, 101, 110, 116]⟩ : ByteArray)) ((⟨#[102, 102, 109]⟩ : ByteArray)) (([] : List ((ByteArray × ByteArray)))))))))) (a := (⟨#[114, 111, 111, 116]⟩ : ByteArray)) (u := (⟨#[110, 110, 110]⟩ : ByteArray)) (id := 32) (b := mb4) mo54 (.inr rfl) rfl kk kk kk kk) ?_
   refine zH rfl (X_putM (κ := ByteArray) (ν := ByteArray) (ek := ek54) (ev := ev54) (z := ByteArray.empty) (m := mPut ((⟨#[114, 111, 111, 116]⟩ : ByteArray)) ((⟨#[110, 110, 110]⟩ : ByteArray)) (mPut ((⟨#[111, 114, 100, 101, 114]⟩ : ByteArray)) ((⟨#[102, 110]⟩ : ByteArray)) (mPut ((⟨#[99, 111, 109, 112, 111, 115, 105, 116, 101]⟩ : ByteArray)) ((⟨#[102, 102, 102, 110, 110, 110, 110, 110, 110, 110, 110]⟩ : ByteArray)) (mPut ((⟨#[111, 98, 115, 116, 114, 117, 99, 116, 105, 111, 110]⟩ : ByteArray)) ((⟨#[110, 110, 110]⟩ : ByteArray)) (mPut ((⟨#[118, 97, 108, 117, 101]⟩ : ByteArray)) ((⟨#[102, 110, 110, 110]⟩ : ByteArray)) (mPut ((⟨#[100, 105, 102, 102, 101, 114, 101, 110, 116]⟩ : ByteArray)) ((⟨#[102, 109, 102, 102, 109, 102]⟩ : ByteArray)) (mPut ((⟨#[101, 113, 117, 105, 118, 97, 108, 101, 110, 116]⟩ : ByteArray)) ((⟨#[102, 102, 109]⟩ : ByteArray)) (([] : List ((ByteArray × ByteArray))))))))))) (a := (⟨#[97, 117, 116, 111, 109, 111, 114, 112, 104]⟩ : ByteArray)) (u := (⟨#[102, 109]⟩ : ByteArray)) (id := 32) (b := mb4) mo54 (.inr rfl) rfl kk kk kk kk) ?_
   refine zH rfl (X_putM (κ := ByteArray) (ν := ByteArray) (ek := ek54) (ev := ev54) (z := ByteArray.empty) (m := mPut ((⟨#[97, 117, 116, 111, 109, 111, 114, 112, 104]⟩ : ByteArray)) ((⟨#[102, 109]⟩ : ByteArray)) (mPut ((⟨#[114, 111, 111, 116]⟩ : ByteArray)) ((⟨#[110, 110, 110]⟩ : ByteArray)) (mPut ((⟨#[111, 114, 100, 101, 114]⟩ : ByteArray)) ((⟨#[102, 110]⟩ : ByteArray)) (mPut ((⟨#[99, 111, 109, 112, 111, 115, 105, 116, 101]⟩ : ByteArray)) ((⟨#[102, 102, 102, 110, 110, 110, 110, 110, 110, 110, 110]⟩ : ByteArray)) (mPut ((⟨#[111, 98, 115, 116, 114, 117, 99, 116, 105, 111, 110]⟩ : ByteArray)) ((⟨#[110, 110, 110]⟩ : ByteArray)) (mPut ((⟨#[118, 97, 108, 117, 101]⟩ : ByteArray)) ((⟨#[102, 110, 110, 110]⟩ : ByteArray)) (mPut ((⟨#[100, 105, 102, 102, 101, 114, 101, 110, 116]⟩ : ByteArray)) ((⟨#[102, 109, 102, 102, 109, 102]⟩ : ByteArray)) (mPut ((⟨#[101, 113, 117, 105, 118, 97, 108, 101, 110, 116]⟩ : ByteArray)) ((⟨#[102, 102, 109]⟩ : ByteArray)) (([] : List ((ByteArray × ByteArray)))))))))))) (a := (⟨#[115, 111, 108, 117, 116, 105, 111, 110]⟩ : ByteArray)) (u := (⟨#[110, 110, 110]⟩ : ByteArray)) (id := 32) (b := mb4) mo54 (.inr rfl) rfl kk kk kk kk) ?_
   refine XR 2 ?_
   refine zK ?_
   subst hl2
   exact ⟨mb4, by kernel_rfl⟩
  intro mb4
  refine zJ (mb 9 4) [] (s1 := ⟨.bot :: .bot :: .c (.v (.string (mAt kind1 l2 ByteArray.empty))) :: bt 6 [], []⟩) ?_ ?_
  ·refine XR 2 ?_
   refine L0 rfl rfl (Y0_lookM (κ := ByteArray) (ν := ByteArray) (ek := ek54) (ev := ev54) (z := ByteArray.empty) (m := l2) (a := kind1) (id := 32) (b := mb4) mo54 rfl kk kk kk) ?_
   exact XE
  refine V_ret ?_
  obtain rfl := zD h
  show Post _ _ _ _ _
  exact ⟨.inr rfl, rfl, rfl, rfl⟩
theorem cf_impl_integersIn : ∀ args w, (callFunc 22 args).run Tryd.prog w = .ok (.enter 22 args) w := run_callFunc Tryd.func22 kk kk
theorem s_impl_integersIn {vs1 : ByteArray} {r : List Int} (h : r_impl_integersIn vs1 = some r) : CallS Tryd.prog 22 [.c (.v (.string vs1))] (.ow 0) [(0, .arr 3 1 (r.map c3))] := by
  refine CallS_of_text (rs := [.t 2]) (vs := [.tmp 2]) Tryd.func22 rfl rfl (.cons rfl FitsL.nil) (by decide) 30 rfl ?_
  unfold r_impl_integersIn at h
  show V _ _ ⟨.c (.v (.string vs1)) :: bt 29 [], []⟩ _
  refine zJ (mb 30 1) [] (s1 := ⟨.c (.v (.string vs1)) :: bt 29 [], []⟩) ?_ ?_
  ·refine L1 rfl rfl (Y1_nil (e := 3) 1 (by decide) (.inl rfl)) ?_
   exact XE
  refine zJ (mb 30 9) [64] (s1 := ⟨.c (.v (.string vs1)) :: .bot :: .bot :: .ow 64 :: bt 26 [], [(64, .arr 3 1 ((([] : List Int)).map c3))]⟩) ?_ ?_
  ·refine L1 rfl rfl (Y1_bslice0 Tryd.underlying27 sz3 (by decide) rfl rfl) ?_
   exact XE
  refine V_seq ?_
  obtain ⟨y2, hy2, h⟩ := zA h
  refine zJ (mb 30 7176) [80, 64] (s1 := ⟨bt 3 (.ow 64 :: bt 6 (.ow 80 :: I ((y2.length : Int)) :: I 0 :: bt 17 [])), [(80, .arr 9 1 (y2.map c9)), (64, .arr 3 1 ((([] : List Int)).map c3))]⟩) ?_ ?_
  ·refine XR 1 ?_
   refine XC (s_strings_FieldsFunc_35 hy2) cf_strings_FieldsFunc rfl rfl rfl ?_
   refine L0 rfl rfl (Y0_lenM (c := c9) (xs := y2) Tryd.underlying36 rfl kk) ?_
   exact XE
  obtain ⟨qo6, hLo6, hko6⟩ := zA h
  refine V_toS (q := qo6) (S := fun o6 => ⟨bt 3 (.ow 64 :: bt 26 []), [(64, .arr 3 1 (o6.map c3))]⟩) (mb 30 8) [64] ?_ ?_
  ·refine V_block (V_loop (fun n s => ∃ (t3 : Int) (l4 : List Int), s.keep (mb 30 7176) [80, 64] = (⟨bt 3 (.ow 64 :: bt 6 (.ow 80 :: I ((y2.length : Int)) :: I t3 :: bt 17 [])), [(80, .arr 9 1 (y2.map c9)), (64, .arr 3 1 (l4.map c3))]⟩ : St) ∧ r_impl_integersIn_L5 y2 n t3 l4 = some qo6) FU ⟨_, _,  by rfl, hLo6⟩ ?_)
   clear hLo6
   rintro n s ⟨t3, l4, hs, h⟩
   refine V_keep _ _ hs ?_
   clear hs
   cases n with
   | zero => cases h
   | succ n =>
    rw [r_impl_integersIn_L5] at h
    refine V_e (mb 30 15368) [80, 64] (s1 := ⟨bt 3 (.ow 64 :: bt 6 (.ow 80 :: I ((y2.length : Int)) :: I t3 :: Bo (ltI t3 ((y2.length : Int))) :: bt 16 [])), [(80, .arr 9 1 (y2.map c9)), (64, .arr 3 1 (l4.map c3))]⟩) ?_
    refine V_seq ?_
    refine V_cond rfl (fun hc7 => ?_) (fun hc7 => ?_)
    ·have h := of_true h hc7
     refine V_skip ?_
     show V _ _ _ _
     refine V_seq ?_
     refine V_block ?_
     obtain ⟨e8, he8, h⟩ := zA h
     obtain ⟨e9, he9, h⟩ := zA h
     refine zJ (mb 30 7208) [80, 64] (s1 := ⟨bt 3 (.ow 64 :: .bot :: .c (.v (.string e9)) :: bt 4 (.ow 80 :: I ((y2.length : Int)) :: I t3 :: bt 17 [])), [(80, .arr 9 1 (y2.map c9)), (64, .arr 3 1 (l4.map c3))]⟩) ?_ ?_
     ·refine L0 rfl rfl (Y0_idxoM (c := c9) (xs := y2) (v := e8) (id := 80) (T := 9) (sz := 1) (n := t3) Tryd.underlying36 sz9 rfl kk kk kk he8) ?_
      refine L0 rfl rfl (Y0_loado1 (c := c9) (xs := y2) (v := e9) (id := 80) (sz := 1) (T := 9) (off := 0) (n := t3) (d := .v (.string e9)) (ds := []) sc9 rfl kk kk he9 kk) ?_
      exact XE
     obtain ⟨y10, hy10, h⟩ := zA h
     refine zJ (mb 30 7368) [80, 64] (s1 := ⟨bt 3 (.ow 64 :: .bot :: .bot :: I y10.1 :: .er y10.2 :: .bot :: .bot :: .ow 80 :: I ((y2.length : Int)) :: I t3 :: bt 17 []), [(80, .arr 9 1 (y2.map c9)), (64, .arr 3 1 (l4.map c3))]⟩) ?_ ?_
     ·refine XR 1 ?_
      refine XC (s_strconv_Atoi hy10) cf_strconv_Atoi rfl rfl rfl ?_
      exact XE
     refine V_seq ?_
     refine zJ (mb 30 4201544) [80, 64] (s1 := ⟨bt 3 (.ow 64 :: .bot :: .bot :: I y10.1 :: bt 3 (.ow 80 :: I ((y2.length : Int)) :: I t3 :: bt 9 (Bo (!y10.2) :: bt 7 []))), [(80, .arr 9 1 (y2.map c9)), (64, .arr 3 1 (l4.map c3))]⟩) ?_ ?_
     ·refine XR 1 ?_
      refine L0 rfl rfl (Y0_erne (b := y10.2) Tryd.underlying61 rfl kk) ?_
      exact XE
     refine V_cond rfl (fun hc11 => ?_) (fun hc11 => ?_)
     ·have h := of_true h hc11
      refine zJ (mb 30 4) [184] (s1 := ⟨.bot :: .bot :: .ow 184 :: bt 27 [], [(184, .arr 3 1 ((([] : List Int)).map c3))]⟩) ?_ ?_
      ·refine L1 rfl rfl (Y1_bslice0 Tryd.underlying27 sz3 (by decide) rfl rfl) ?_
       exact XE
      refine V_ret ?_
      obtain rfl := zD h
      have h := hko6
      obtain rfl := zD h
      show Post _ _ _ _ _
      exact ⟨.inr rfl, rfl, rfl, rfl⟩
     ·have h := zI h hc11
      refine V_skip ?_
      show V _ _ _ _
      obtain ⟨u12, hu12, h⟩ := zA h
      refine V_reg (mb 30 7176) [80, 64] (s1 := ⟨bt 3 (.ow 64 :: bt 6 (.ow 80 :: I ((y2.length : Int)) :: I t3 :: bt 17 [])), [(80, .arr 9 1 (y2.map c9)), (64, .arr 3 1 ((l4 ++ ([y10.1])).map c3))]⟩) ?_ ?_
      ·refine XR 2 ?_
       refine L1 rfl rfl (Y1_bslice (z := zv3) (els := [y10.1].map c3) Tryd.underlying27 iz3 rfl (by decide) rfl kk rfl (by simp [c3]) (by decide) (by decide)) ?_
       refine zH rfl (X_appendM (c := c3) (xs := l4) (ys := [y10.1]) (id := 64) (z := zv3) rfl rfl Tryd.underlying27 izb3 rfl kk kk kk (fun _ => rfl) (by simp) (room_some hu12) (by decide)) ?_
       exact XE
      show V _ _ _ _
      obtain ⟨t13, ht13, h⟩ := of_sI h
      refine V_reg (mb 30 7176) [80, 64] (s1 := ⟨bt 3 (.ow 64 :: bt 6 (.ow 80 :: I ((y2.length : Int)) :: I t13 :: bt 17 [])), [(80, .arr 9 1 (y2.map c9)), (64, .arr 3 1 ((l4 ++ ([y10.1])).map c3))]⟩) ?_ ?_
      ·refine XR 2 ?_
       refine zK ?_
       subst ht13
       kernel_rfl
      exact ⟨n, Nat.lt_succ_self n, _, _,  by rfl, h⟩
    ·have h := zI h hc7
     refine V_exit ?_
     obtain rfl := zD h
     exact ⟨_, rfl, by rfl⟩
  rintro o6 rfl
  have h := hko6
  clear hko6
  show V _ _ _ _
  refine V_e (mb 30 4) [64] (s1 := ⟨.bot :: .bot :: .ow 64 :: bt 27 [], [(64, .arr 3 1 (o6.map c3))]⟩) ?_
  refine V_ret ?_
  obtain rfl := zD h
  show Post _ _ _ _ _
  exact ⟨.inr rfl, rfl, rfl, rfl⟩
theorem cf_impl_areNumbers : ∀ args w, (callFunc 28 args).run Tryd.prog w = .ok (.enter 28 args) w := run_callFunc Tryd.func28 kk kk
theorem s_impl_areNumbers {list1 : List Int} {r : Bool} (h : r_impl_areNumbers list1 = some r) : CallS Tryd.prog 28 [.c (.sl (list1.map c3))] (Bo r) [] := by
  refine CallS_of_text (rs := [.t 2]) (vs := [.tmp 2]) Tryd.func28 rfl rfl (.cons rfl FitsL.nil) (by decide) 18 rfl ?_
  unfold r_impl_areNumbers at h
  show V _ _ ⟨.c (.sl (list1.map c3)) :: bt 17 [], []⟩ _
  refine V_e (mb 18 1) [] (s1 := ⟨.c (.sl (list1.map c3)) :: bt 17 [], []⟩) ?_
  refine V_seq ?_
  refine zJ (mb 18 224) [] (s1 := ⟨bt 5 (.c (.sl (list1.map c3)) :: I ((list1.length : Int)) :: I 0 :: bt 10 []), []⟩) ?_ ?_
  ·refine XR 1 ?_
   refine L0 rfl rfl (Y0_lenM (c := c3) (xs := list1) Tryd.underlying27 rfl kk) ?_
   exact XE
  obtain ⟨qo4, hLo4, hko4⟩ := zA h
  refine V_toS (q := qo4) (S := fun o4 => ⟨bt 18 [], []⟩) (mb 18 0) [] ?_ ?_
  ·refine V_block (V_loop (fun n s => ∃ (t2 : Int), s.keep (mb 18 224) [] = (⟨bt 5 (.c (.sl (list1.map c3)) :: I ((list1.length : Int)) :: I t2 :: bt 10 []), []⟩ : St) ∧ r_impl_areNumbers_L3 list1 n t2 = some qo4) FU ⟨_,  by rfl, hLo4⟩ ?_)
   clear hLo4
   rintro n s ⟨t2, hs, h⟩
   refine V_keep _ _ hs ?_
   clear hs
   cases n with
   | zero => cases h
   | succ n =>
    rw [r_impl_areNumbers_L3] at h
    refine V_e (mb 18 480) [] (s1 := ⟨bt 5 (.c (.sl (list1.map c3)) :: I ((list1.length : Int)) :: I t2 :: Bo (ltI t2 ((list1.length : Int))) :: bt 9 []), []⟩) ?_
    refine V_seq ?_
    refine V_cond rfl (fun hc5 => ?_) (fun hc5 => ?_)
    ·have h := of_true h hc5
     refine V_skip ?_
     show V _ _ _ _
     refine V_seq ?_
     refine V_block ?_
     obtain ⟨e6, he6, h⟩ := zA h
     refine zJ (mb 18 240) [] (s1 := ⟨bt 4 (I e6 :: .c (.sl (list1.map c3)) :: I ((list1.length : Int)) :: I t2 :: bt 10 []), []⟩) ?_ ?_
     ·refine L0 rfl rfl (Y0_idxM (c := c3) (xs := list1) (v := e6) (n := t2) Tryd.underlying27 sz3 rfl kk kk he6) ?_
      exact XE
     refine zJ (mb 18 65760) [] (s1 := ⟨bt 5 (.c (.sl (list1.map c3)) :: I ((list1.length : Int)) :: I t2 :: bt 8 (Bo (bif (ltI e6 (-1000000)) then true else (ltI 1000000 e6)) :: .bot :: [])), []⟩) ?_ ?_
     ·refine XR 3 ?_
      refine XL_split (ltI e6 (-1000000)) (fun hc7 => ?_) (fun hc7 => ?_)
      ·refine zF _ rfl rfl kk hc7 rfl ?_
       refine zF _ rfl rfl kk hc7 rfl ?_
       refine zH rfl (zB rfl (Y0_pick1 (b := ltI e6 (-1000000)) (p := true) (q := ltI 1000000 e6) rfl kk hc7 kk)) ?_
       exact XE
      ·refine zE _ rfl rfl kk hc7 (zB rfl (E_move (I e6) rfl kk)) ?_
       refine zE _ rfl rfl kk hc7 (zB rfl (Y0_gtw (k := .i64) (a := e6) (b := 1000000) rfl kk kk)) ?_
       refine zH rfl (zB rfl (Y0_pick0 (b := ltI e6 (-1000000)) (p := true) (q := ltI 1000000 e6) rfl kk hc7 kk)) ?_
       exact XE
     refine V_cond rfl (fun hc8 => ?_) (fun hc8 => ?_)
     ·have h := of_true h hc8
      refine V_e (mb 18 4) [] (s1 := ⟨.bot :: .bot :: Bo false :: bt 15 [], []⟩) ?_
      refine V_ret ?_
      obtain rfl := zD h
      have h := hko4
      obtain rfl := zD h
      show Post _ _ _ _ _
      exact ⟨.inr rfl, rfl, rfl, rfl⟩
     ·have h := zI h hc8
      refine V_skip ?_
      show V _ _ _ _
      obtain ⟨t9, ht9, h⟩ := of_sI h
      refine V_reg (mb 18 224) [] (s1 := ⟨bt 5 (.c (.sl (list1.map c3)) :: I ((list1.length : Int)) :: I t9 :: bt 10 []), []⟩) ?_ ?_
      ·refine XR 2 ?_
       refine zK ?_
       subst ht9
       kernel_rfl
      exact ⟨n, Nat.lt_succ_self n, _,  by rfl, h⟩
    ·have h := zI h hc5
     refine V_exit ?_
     obtain rfl := zD h
     exact ⟨_, rfl, by rfl⟩
  rintro o4 rfl
  have h := hko4
  clear hko4
  show V _ _ _ _
  refine V_e (mb 18 4) [] (s1 := ⟨.bot :: .bot :: Bo true :: bt 15 [], []⟩) ?_
  refine V_ret ?_
  obtain rfl := zD h
  show Post _ _ _ _ _
  exact ⟨.inr rfl, rfl, rfl, rfl⟩
theorem cf_impl_IsForm : ∀ args w, (callFunc 23 args).run Tryd.prog w = .ok (.enter 23 args) w := run_callFunc Tryd.func23 kk kk
theorem s_impl_IsForm {f1 : (Int × Int × Int)} {r : Bool} (h : r_impl_IsForm f1 = some r) : CallS Tryd.prog 23 [.ag [Ti f1.1, Ti f1.2.1, Ti f1.2.2]] (Bo r) [] := by
  refine CallS_of_text (rs := [.t 2]) (vs := [.tmp 2]) Tryd.func23 rfl rfl (.cons rfl FitsL.nil) (by decide) 11 rfl ?_
  unfold r_impl_IsForm at h
  show V _ _ ⟨.ag [Ti f1.1, Ti f1.2.1, Ti f1.2.2] :: bt 10 [], []⟩ _
  refine V_e (mb 11 2) [8] (s1 := ⟨.bot :: .pt 8 0 :: bt 9 [], [(8, .box [Ti f1.1, Ti f1.2.1, Ti f1.2.2])]⟩) ?_
  obtain ⟨y2, hy2, h⟩ := zA h
  refine zJ (mb 11 4) [] (s1 := ⟨.bot :: .bot :: Bo y2 :: bt 8 [], []⟩) ?_ ?_
  ·refine XR 6 ?_
   refine L1 rfl rfl (Y1_bslice (z := zv3) (els := [f1.1, f1.2.1, f1.2.2].map c3) Tryd.underlying27 iz3 rfl (by decide) rfl kk rfl (by simp [c3]) (by decide) (by decide)) ?_
   refine L1 rfl rfl (Y1_callS (s_impl_areNumbers hy2) cf_impl_areNumbers rfl kk rfl rfl) ?_
   exact XE
  refine V_ret ?_
  obtain rfl := zD h
  show Post _ _ _ _ _
  exact ⟨.inr rfl, rfl, rfl, rfl⟩
theorem cf_impl_formText : ∀ args w, (callFunc 24 args).run Tryd.prog w = .ok (.enter 24 args) w := run_callFunc Tryd.func24 kk kk
theorem s_impl_formText {f1 : (Int × Int × Int)} {r : ByteArray} (h : r_impl_formText f1 = some r) : CallS Tryd.prog 24 [.ag [Ti f1.1, Ti f1.2.1, Ti f1.2.2]] (.c (.v (.string r))) [] := by
  refine CallS_of_text (rs := [.t 2]) (vs := [.tmp 2]) Tryd.func24 rfl rfl (.cons rfl FitsL.nil) (by decide) 18 rfl ?_
  unfold r_impl_formText at h
  show V _ _ ⟨.ag [Ti f1.1, Ti f1.2.1, Ti f1.2.2] :: bt 17 [], []⟩ _
  refine V_e (mb 18 2) [8] (s1 := ⟨.bot :: .pt 8 0 :: bt 16 [], [(8, .box [Ti f1.1, Ti f1.2.1, Ti f1.2.2])]⟩) ?_
  obtain ⟨y2, hy2, h⟩ := zA h
  obtain ⟨u3, hu3, h⟩ := zA h
  obtain ⟨u4, hu4, h⟩ := zA h
  obtain ⟨y5, hy5, h⟩ := zA h
  obtain ⟨u6, hu6, h⟩ := zA h
  obtain ⟨u7, hu7, h⟩ := zA h
  obtain ⟨y8, hy8, h⟩ := zA h
  obtain ⟨u9, hu9, h⟩ := zA h
  obtain ⟨u10, hu10, h⟩ := zA h
  refine V_sdreg [0, 1, 3, 7, 15, 0, 32, 103, 255, 511, 0, 1024, 3303, 8191, 16383, 32767] 16 (cdm 16 [10496000, 10496001, 10496005, 44083221, 44083285, 10486442, 10487466, 10491541, 44062037, 44127573, 699050, 1747626, 5920405, 22369621, 89478485, 357913941]) (mb 18 4) [] (s1 := ⟨.bot :: .bot :: .c (.v (.string ((((((((⟨#[40]⟩ : ByteArray)) ++ y2) ++ ((⟨#[44]⟩ : ByteArray))) ++ y5) ++ ((⟨#[44]⟩ : ByteArray))) ++ y8) ++ ((⟨#[41]⟩ : ByteArray))))) :: bt 15 [], []⟩) kk kk ?_ ?_
  ·refine DR 2 ?_
   refine DC 2 (s_strconv_Itoa hy2) cf_strconv_Itoa rfl rfl rfl rfl 5 rfl ?_
   refine DE_0 3 (.c (.v (.string (((⟨#[40]⟩ : ByteArray)) ++ y2)))) kk rfl rfl rfl (zG rfl) kk (Y0_cat (a := (⟨#[40]⟩ : ByteArray)) (b := y2) rfl kk kk (catR_some hu3)) 6 rfl ?_
   refine DE_0 4 (.c (.v (.string ((((⟨#[40]⟩ : ByteArray)) ++ y2) ++ ((⟨#[44]⟩ : ByteArray)))))) kk rfl rfl rfl (zG rfl) kk (Y0_cat (a := ((⟨#[40]⟩ : ByteArray)) ++ y2) (b := (⟨#[44]⟩ : ByteArray)) rfl kk kk (catR_some hu4)) 7 rfl ?_
   refine DR 2 ?_
   refine DC 7 (s_strconv_Itoa hy5) cf_strconv_Itoa rfl rfl rfl rfl 10 rfl ?_
   refine DE_0 8 (.c (.v (.string (((((⟨#[40]⟩ : ByteArray)) ++ y2) ++ ((⟨#[44]⟩ : ByteArray))) ++ y5)))) kk rfl rfl rfl (zG rfl) kk (Y0_cat (a := (((⟨#[40]⟩ : ByteArray)) ++ y2) ++ ((⟨#[44]⟩ : ByteArray))) (b := y5) rfl kk kk (catR_some hu6)) 11 rfl ?_
   refine DE_0 9 (.c (.v (.string ((((((⟨#[40]⟩ : ByteArray)) ++ y2) ++ ((⟨#[44]⟩ : ByteArray))) ++ y5) ++ ((⟨#[44]⟩ : ByteArray)))))) kk rfl rfl rfl (zG rfl) kk (Y0_cat (a := ((((⟨#[40]⟩ : ByteArray)) ++ y2) ++ ((⟨#[44]⟩ : ByteArray))) ++ y5) (b := (⟨#[44]⟩ : ByteArray)) rfl kk kk (catR_some hu7)) 12 rfl ?_
   refine DR 2 ?_
   refine DC 12 (s_strconv_Itoa hy8) cf_strconv_Itoa rfl rfl rfl rfl 15 rfl ?_
   refine DE_0 13 (.c (.v (.string (((((((⟨#[40]⟩ : ByteArray)) ++ y2) ++ ((⟨#[44]⟩ : ByteArray))) ++ y5) ++ ((⟨#[44]⟩ : ByteArray))) ++ y8)))) kk rfl rfl rfl (zG rfl) kk (Y0_cat (a := (((((⟨#[40]⟩ : ByteArray)) ++ y2) ++ ((⟨#[44]⟩ : ByteArray))) ++ y5) ++ ((⟨#[44]⟩ : ByteArray))) (b := y8) rfl kk kk (catR_some hu9)) 16 rfl ?_
   refine DE_0 14 (.c (.v (.string ((((((((⟨#[40]⟩ : ByteArray)) ++ y2) ++ ((⟨#[44]⟩ : ByteArray))) ++ y5) ++ ((⟨#[44]⟩ : ByteArray))) ++ y8) ++ ((⟨#[41]⟩ : ByteArray)))))) kk rfl rfl rfl (zG rfl) kk (Y0_cat (a := ((((((⟨#[40]⟩ : ByteArray)) ++ y2) ++ ((⟨#[44]⟩ : ByteArray))) ++ y5) ++ ((⟨#[44]⟩ : ByteArray))) ++ y8) (b := (⟨#[41]⟩ : ByteArray)) rfl kk kk (catR_some hu10)) 17 rfl ?_
   refine DA 1 ?_
   exact XE
  refine V_ret ?_
  obtain rfl := zD h
  show Post _ _ _ _ _
  exact ⟨.inr rfl, rfl, rfl, rfl⟩
theorem cf_impl_ParseForm : ∀ args w, (callFunc 15 args).run Tryd.prog w = .ok (.enter 15 args) w := run_callFunc Tryd.func15 kk kk
theorem s_impl_ParseForm {vs1 : ByteArray} {r : (((Int × Int × Int)) × Bool)} (h : r_impl_ParseForm vs1 = some r) : CallS Tryd.prog 15 [.c (.v (.string vs1))] (.tc (.ag [Ti r.1.1, Ti r.1.2.1, Ti r.1.2.2]) (.tc (Bo r.2) .tn)) [] := by
  refine CallS_of_text (rs := [.w 2 3, .t 3]) (vs := [.cell 2 40, .tmp 3]) Tryd.func15 rfl rfl (.cons ⟨rfl, wd40⟩ (.cons rfl FitsL.nil)) (by decide) 33 rfl ?_
  unfold r_impl_ParseForm at h
  show V _ _ ⟨.c (.v (.string vs1)) :: bt 32 [], []⟩ _
  refine V_e (mb 33 5) [16] (s1 := ⟨.c (.v (.string vs1)) :: .bot :: .pt 16 0 :: bt 30 [], [(16, .box [Ti 0, Ti 0, Ti 0])]⟩) ?_
  obtain ⟨y2, hy2, h⟩ := zA h
  refine zJ (mb 33 21) [56, 16] (s1 := ⟨.c (.v (.string vs1)) :: .bot :: .pt 16 0 :: .bot :: .ow 56 :: bt 28 [], [(56, .arr 3 1 (y2.map c3)), (16, .box [Ti 0, Ti 0, Ti 0])]⟩) ?_ ?_
  ·refine XR 1 ?_
   refine XC (s_impl_integersIn hy2) cf_impl_integersIn rfl rfl rfl ?_
   exact XE
  refine V_seq ?_
  refine zJ (mb 33 1045) [56, 16] (s1 := ⟨.c (.v (.string vs1)) :: .bot :: .pt 16 0 :: .bot :: .ow 56 :: bt 5 (Bo (!eqI ((y2.length : Int)) 3) :: bt 22 []), [(56, .arr 3 1 (y2.map c3)), (16, .box [Ti 0, Ti 0, Ti 0])]⟩) ?_ ?_
  ·refine XR 1 ?_
   refine L0 rfl rfl (Y0_lenM (c := c3) (xs := y2) Tryd.underlying27 rfl kk) ?_
   exact XE
  refine V_cond rfl (fun hc3 => ?_) (fun hc3 => ?_)
  ·have h := of_true h hc3
   refine zJ (mb 33 12) [16] (s1 := ⟨.bot :: .bot :: .pt 16 0 :: Bo false :: bt 29 [], [(16, .box [Ti 0, Ti 0, Ti 0])]⟩) ?_ ?_
   ·refine L0 rfl rfl (Y0_build (cs := [Ti 0, Ti 0, Ti 0]) pl40 bt40 rfl rfl kk) ?_
    exact XE
   refine V_ret ?_
   obtain rfl := zD h
   show Post _ _ _ _ _
   exact ⟨.inr rfl, rfl, rfl, rfl⟩
  ·have h := zI h hc3
   refine V_skip ?_
   show V _ _ _ _
   obtain ⟨e4, he4, h⟩ := zA h
   obtain ⟨e5, he5, h⟩ := zA h
   obtain ⟨e6, he6, h⟩ := zA h
   obtain ⟨e7, he7, h⟩ := zA h
   obtain ⟨e8, he8, h⟩ := zA h
   obtain ⟨e9, he9, h⟩ := zA h
   refine V_sdreg [0, 1, 3, 0, 8, 24, 0, 64, 192, 511, 0, 2047] 11 (cdm 11 [2271872, 2271873, 2271877, 2269226, 2269290, 2269546, 2099882, 2103978, 2120362, 2184533, 699050]) (mb 33 37) [40, 16] (s1 := ⟨.c (.v (.string vs1)) :: .bot :: .pt 16 0 :: .bot :: .bot :: .pt 40 0 :: bt 27 [], [(40, .box [Ti e5, Ti e7, Ti e9]), (16, .box [Ti 0, Ti 0, Ti 0])]⟩) kk kk ?_ ?_
   ·refine DR 1 ?_
    refine DE_0 1 (.po 56 1 (Int.toNat (0)) 0) kk rfl rfl rfl (zG rfl) kk (Y0_idxoM (c := c3) (xs := y2) (v := e4) (id := 56) (T := 3) (sz := 1) (n := 0) Tryd.underlying27 sz3 rfl kk kk kk he4) 13 rfl ?_
    refine DE_0 2 (I e5) kk rfl rfl rfl (zG rfl) kk (Y0_loado1 (c := c3) (xs := y2) (v := e5) (id := 56) (sz := 1) (T := 3) (off := 0) (n := 0) (d := Ti e5) (ds := []) sc3 rfl kk kk he5 kk) 14 rfl ?_
    refine DR 1 ?_
    refine DE_0 4 (.po 56 1 (Int.toNat (1)) 0) kk rfl rfl rfl (zG rfl) kk (Y0_idxoM (c := c3) (xs := y2) (v := e6) (id := 56) (T := 3) (sz := 1) (n := 1) Tryd.underlying27 sz3 rfl kk kk kk he6) 16 rfl ?_
    refine DE_0 5 (I e7) kk rfl rfl rfl (zG rfl) kk (Y0_loado1 (c := c3) (xs := y2) (v := e7) (id := 56) (sz := 1) (T := 3) (off := 0) (n := 1) (d := Ti e7) (ds := []) sc3 rfl kk kk he7 kk) 17 rfl ?_
    refine DR 1 ?_
    refine DE_0 7 (.po 56 1 (Int.toNat (2)) 0) kk rfl rfl rfl (zG rfl) kk (Y0_idxoM (c := c3) (xs := y2) (v := e8) (id := 56) (T := 3) (sz := 1) (n := 2) Tryd.underlying27 sz3 rfl kk kk kk he8) 19 rfl ?_
    refine DE_0 8 (I e9) kk rfl rfl rfl (zG rfl) kk (Y0_loado1 (c := c3) (xs := y2) (v := e9) (id := 56) (sz := 1) (T := 3) (off := 0) (n := 2) (d := Ti e9) (ds := []) sc3 rfl kk kk he9 kk) 20 rfl ?_
    refine DE_0 9 (.ag [Ti e5, Ti e7, Ti e9]) kk rfl rfl rfl (zG rfl) kk (Y0_build (cs := [Ti e5, Ti e7, Ti e9]) pl40 bt40 rfl rfl kk) 21 rfl ?_
    refine DA 1 ?_
    exact XE
   refine V_seq ?_
   obtain ⟨y10, hy10, h⟩ := zA h
   obtain ⟨b13, hb13, h⟩ := zA h
   refine zJ (mb 33 1073741860) [40, 16] (s1 := ⟨.bot :: .bot :: .pt 16 0 :: .bot :: .bot :: .pt 40 0 :: bt 24 (Bo b13 :: .bot :: .bot :: []), [(40, .box [Ti e5, Ti e7, Ti e9]), (16, .box [Ti 0, Ti 0, Ti 0])]⟩) ?_ ?_
   ·refine XR 1 ?_
    refine XC (s_impl_IsForm hy10) cf_impl_IsForm rfl rfl rfl ?_
    refine XR 2 ?_
    refine XL_split (!y10) (fun hc11 => ?_) (fun hc11 => ?_)
    ·have hb13 := zD (of_true hb13 hc11)
     refine zF _ rfl rfl kk hc11 rfl ?_
     refine zF _ rfl rfl kk hc11 rfl ?_
     refine zF _ rfl rfl kk hc11 rfl ?_
     refine zF _ rfl rfl kk hc11 rfl ?_
     refine zH rfl (zB rfl (Y0_pickTe (b := !y10) (p := true) rfl kk hc11 kk hb13)) ?_
     exact XE
    ·have hb13 := zI hb13 hc11
     obtain ⟨y12, hy12, hb13⟩ := zA hb13
     have hb13 := zD hb13
     refine zE _ rfl rfl kk hc11 (zB rfl (E_loadn (cs := [Ti e5, Ti e7, Ti e9]) [Ti e5, Ti e7, Ti e9] wd40 rfl kk (Nat.le_of_ble_eq_true rfl) kk)) ?_
     refine zE _ rfl rfl kk hc11 (X_of_Y1 rfl (Y1_call (s_impl_formText hy12) cf_impl_formText rfl kk)) ?_
     refine zE _ rfl rfl kk hc11 (zB rfl (E_move (.c (.v (.string vs1))) rfl kk)) ?_
     refine zE _ rfl rfl kk hc11 (zB rfl (Y0_nes (a := y12) (b := vs1) rfl kk kk)) ?_
     refine zH rfl (zB rfl (Y0_pickFe (b := !y10) (p := !(y12.toList == vs1.toList)) rfl kk hc11 kk hb13)) ?_
     exact XE
   refine V_cond rfl (fun hc14 => ?_) (fun hc14 => ?_)
   ·have h := of_true h hc14
    refine zJ (mb 33 12) [16] (s1 := ⟨.bot :: .bot :: .pt 16 0 :: Bo false :: bt 29 [], [(16, .box [Ti 0, Ti 0, Ti 0])]⟩) ?_ ?_
    ·refine L0 rfl rfl (Y0_build (cs := [Ti 0, Ti 0, Ti 0]) pl40 bt40 rfl rfl kk) ?_
     exact XE
    refine V_ret ?_
    obtain rfl := zD h
    show Post _ _ _ _ _
    exact ⟨.inr rfl, rfl, rfl, rfl⟩
   ·have h := zI h hc14
    refine V_skip ?_
    show V _ _ _ _
    refine V_e (mb 33 12) [16] (s1 := ⟨.bot :: .bot :: .pt 16 0 :: Bo true :: bt 29 [], [(16, .box [Ti e5, Ti e7, Ti e9])]⟩) ?_
    refine V_ret ?_
    obtain rfl := zD h
    show Post _ _ _ _ _
    exact ⟨.inr rfl, rfl, rfl, rfl⟩
theorem cf_impl_IsMatrix : ∀ args w, (callFunc 25 args).run Tryd.prog w = .ok (.enter 25 args) w := run_callFunc Tryd.func25 kk kk
theorem s_impl_IsMatrix {vm1 : (Int × Int × Int × Int)} {r : Bool} (h : r_impl_IsMatrix vm1 = some r) : CallS Tryd.prog 25 [.ag [Ti vm1.1, Ti vm1.2.1, Ti vm1.2.2.1, Ti vm1.2.2.2]] (Bo r) [] := by
  refine CallS_of_text (rs := [.t 2]) (vs := [.tmp 2]) Tryd.func25 rfl rfl (.cons rfl FitsL.nil) (by decide) 13 rfl ?_
  unfold r_impl_IsMatrix at h
  show V _ _ ⟨.ag [Ti vm1.1, Ti vm1.2.1, Ti vm1.2.2.1, Ti vm1.2.2.2] :: bt 12 [], []⟩ _
  refine V_e (mb 13 2) [8] (s1 := ⟨.bot :: .pt 8 0 :: bt 11 [], [(8, .box [Ti vm1.1, Ti vm1.2.1, Ti vm1.2.2.1, Ti vm1.2.2.2])]⟩) ?_
  obtain ⟨y2, hy2, h⟩ := zA h
  refine zJ (mb 13 4) [] (s1 := ⟨.bot :: .bot :: Bo y2 :: bt 10 [], []⟩) ?_ ?_
  ·refine XR 8 ?_
   refine L1 rfl rfl (Y1_bslice (z := zv3) (els := [vm1.1, vm1.2.1, vm1.2.2.1, vm1.2.2.2].map c3) Tryd.underlying27 iz3 rfl (by decide) rfl kk rfl (by simp [c3]) (by decide) (by decide)) ?_
   refine L1 rfl rfl (Y1_callS (s_impl_areNumbers hy2) cf_impl_areNumbers rfl kk rfl rfl) ?_
   exact XE
  refine V_ret ?_
  obtain rfl := zD h
  show Post _ _ _ _ _
  exact ⟨.inr rfl, rfl, rfl, rfl⟩
theorem cf_impl_matrixText : ∀ args w, (callFunc 26 args).run Tryd.prog w = .ok (.enter 26 args) w := run_callFunc Tryd.func26 kk kk
theorem s_impl_matrixText {vm1 : (Int × Int × Int × Int)} {r : ByteArray} (h : r_impl_matrixText vm1 = some r) : CallS Tryd.prog 26 [.ag [Ti vm1.1, Ti vm1.2.1, Ti vm1.2.2.1, Ti vm1.2.2.2]] (.c (.v (.string r))) [] := by
  refine CallS_of_text (rs := [.t 2]) (vs := [.tmp 2]) Tryd.func26 rfl rfl (.cons rfl FitsL.nil) (by decide) 23 rfl ?_
  unfold r_impl_matrixText at h
  show V _ _ ⟨.ag [Ti vm1.1, Ti vm1.2.1, Ti vm1.2.2.1, Ti vm1.2.2.2] :: bt 22 [], []⟩ _
  refine V_e (mb 23 2) [8] (s1 := ⟨.bot :: .pt 8 0 :: bt 21 [], [(8, .box [Ti vm1.1, Ti vm1.2.1, Ti vm1.2.2.1, Ti vm1.2.2.2])]⟩) ?_
  obtain ⟨y2, hy2, h⟩ := zA h
  obtain ⟨u3, hu3, h⟩ := zA h
  obtain ⟨u4, hu4, h⟩ := zA h
  obtain ⟨y5, hy5, h⟩ := zA h
  obtain ⟨u6, hu6, h⟩ := zA h
  obtain ⟨u7, hu7, h⟩ := zA h
  obtain ⟨y8, hy8, h⟩ := zA h
  obtain ⟨u9, hu9, h⟩ := zA h
  obtain ⟨u10, hu10, h⟩ := zA h
  obtain ⟨y11, hy11, h⟩ := zA h
  obtain ⟨u12, hu12, h⟩ := zA h
  obtain ⟨u13, hu13, h⟩ := zA h
  refine V_sdreg [0, 1, 3, 7, 15, 0, 32, 103, 255, 511, 0, 1024, 3303, 8191, 16383, 0, 32768, 105703, 262143, 524287, 1048575] 21 (cdm 21 [10747914240, 10747914241, 10747914245, 45141239829, 45141239893, 10747904682, 10747905706, 10747909781, 45141218645, 45141284181, 10738117290, 10739165866, 10743338645, 45119526229, 45186635093, 715827882, 1789569706, 6062495381, 22906492245, 91625968981, 366503875925]) (mb 23 4) [] (s1 := ⟨.bot :: .bot :: .c (.v (.string ((((((((((⟨#[91]⟩ : ByteArray)) ++ y2) ++ ((⟨#[44]⟩ : ByteArray))) ++ y5) ++ ((⟨#[59]⟩ : ByteArray))) ++ y8) ++ ((⟨#[44]⟩ : ByteArray))) ++ y11) ++ ((⟨#[93]⟩ : ByteArray))))) :: bt 20 [], []⟩) kk kk ?_ ?_
  ·refine DR 2 ?_
   refine DC 2 (s_strconv_Itoa hy2) cf_strconv_Itoa rfl rfl rfl rfl 5 rfl ?_
   refine DE_0 3 (.c (.v (.string (((⟨#[91]⟩ : ByteArray)) ++ y2)))) kk rfl rfl rfl (zG rfl) kk (Y0_cat (a := (⟨#[91]⟩ : ByteArray)) (b := y2) rfl kk kk (catR_some hu3)) 6 rfl ?_
   refine DE_0 4 (.c (.v (.string ((((⟨#[91]⟩ : ByteArray)) ++ y2) ++ ((⟨#[44]⟩ : ByteArray)))))) kk rfl rfl rfl (zG rfl) kk (Y0_cat (a := ((⟨#[91]⟩ : ByteArray)) ++ y2) (b := (⟨#[44]⟩ : ByteArray)) rfl kk kk (catR_some hu4)) 7 rfl ?_
   refine DR 2 ?_
   refine DC 7 (s_strconv_Itoa hy5) cf_strconv_Itoa rfl rfl rfl rfl 10 rfl ?_
   refine DE_0 8 (.c (.v (.string (((((⟨#[91]⟩ : ByteArray)) ++ y2) ++ ((⟨#[44]⟩ : ByteArray))) ++ y5)))) kk rfl rfl rfl (zG rfl) kk (Y0_cat (a := (((⟨#[91]⟩ : ByteArray)) ++ y2) ++ ((⟨#[44]⟩ : ByteArray))) (b := y5) rfl kk kk (catR_some hu6)) 11 rfl ?_
   refine DE_0 9 (.c (.v (.string ((((((⟨#[91]⟩ : ByteArray)) ++ y2) ++ ((⟨#[44]⟩ : ByteArray))) ++ y5) ++ ((⟨#[59]⟩ : ByteArray)))))) kk rfl rfl rfl (zG rfl) kk (Y0_cat (a := ((((⟨#[91]⟩ : ByteArray)) ++ y2) ++ ((⟨#[44]⟩ : ByteArray))) ++ y5) (b := (⟨#[59]⟩ : ByteArray)) rfl kk kk (catR_some hu7)) 12 rfl ?_
   refine DR 2 ?_
   refine DC 12 (s_strconv_Itoa hy8) cf_strconv_Itoa rfl rfl rfl rfl 15 rfl ?_
   refine DE_0 13 (.c (.v (.string (((((((⟨#[91]⟩ : ByteArray)) ++ y2) ++ ((⟨#[44]⟩ : ByteArray))) ++ y5) ++ ((⟨#[59]⟩ : ByteArray))) ++ y8)))) kk rfl rfl rfl (zG rfl) kk (Y0_cat (a := (((((⟨#[91]⟩ : ByteArray)) ++ y2) ++ ((⟨#[44]⟩ : ByteArray))) ++ y5) ++ ((⟨#[59]⟩ : ByteArray))) (b := y8) rfl kk kk (catR_some hu9)) 16 rfl ?_
   refine DE_0 14 (.c (.v (.string ((((((((⟨#[91]⟩ : ByteArray)) ++ y2) ++ ((⟨#[44]⟩ : ByteArray))) ++ y5) ++ ((⟨#[59]⟩ : ByteArray))) ++ y8) ++ ((⟨#[44]⟩ : ByteArray)))))) kk rfl rfl rfl (zG rfl) kk (Y0_cat (a := ((((((⟨#[91]⟩ : ByteArray)) ++ y2) ++ ((⟨#[44]⟩ : ByteArray))) ++ y5) ++ ((⟨#[59]⟩ : ByteArray))) ++ y8) (b := (⟨#[44]⟩ : ByteArray)) rfl kk kk (catR_some hu10)) 17 rfl ?_
   refine DR 2 ?_
   refine DC 17 (s_strconv_Itoa hy11) cf_strconv_Itoa rfl rfl rfl rfl 20 rfl ?_
   refine DE_0 18 (.c (.v (.string (((((((((⟨#[91]⟩ : ByteArray)) ++ y2) ++ ((⟨#[44]⟩ : ByteArray))) ++ y5) ++ ((⟨#[59]⟩ : ByteArray))) ++ y8) ++ ((⟨#[44]⟩ : ByteArray))) ++ y11)))) kk rfl rfl rfl (zG rfl) kk (Y0_cat (a := (((((((⟨#[91]⟩ : ByteArray)) ++ y2) ++ ((⟨#[44]⟩ : ByteArray))) ++ y5) ++ ((⟨#[59]⟩ : ByteArray))) ++ y8) ++ ((⟨#[44]⟩ : ByteArray))) (b := y11) rfl kk kk (catR_some hu12)) 21 rfl ?_
   refine DE_0 19 (.c (.v (.string ((((((((((⟨#[91]⟩ : ByteArray)) ++ y2) ++ ((⟨#[44]⟩ : ByteArray))) ++ y5) ++ ((⟨#[59]⟩ : ByteArray))) ++ y8) ++ ((⟨#[44]⟩ : ByteArray))) ++ y11) ++ ((⟨#[93]⟩ : ByteArray)))))) kk rfl rfl rfl (zG rfl) kk (Y0_cat (a := ((((((((⟨#[91]⟩ : ByteArray)) ++ y2) ++ ((⟨#[44]⟩ : ByteArray))) ++ y5) ++ ((⟨#[59]⟩ : ByteArray))) ++ y8) ++ ((⟨#[44]⟩ : ByteArray))) ++ y11) (b := (⟨#[93]⟩ : ByteArray)) rfl kk kk (catR_some hu13)) 22 rfl ?_
   refine DA 1 ?_
   exact XE
  refine V_ret ?_
  obtain rfl := zD h
  show Post _ _ _ _ _
  exact ⟨.inr rfl, rfl, rfl, rfl⟩
theorem cf_impl_ParseMatrix : ∀ args w, (callFunc 16 args).run Tryd.prog w = .ok (.enter 16 args) w := run_callFunc Tryd.func16 kk kk
theorem s_impl_ParseMatrix {vs1 : ByteArray} {r : (((Int × Int × Int × Int)) × Bool)} (h : r_impl_ParseMatrix vs1 = some r) : CallS Tryd.prog 16 [.c (.v (.string vs1))] (.tc (.ag [Ti r.1.1, Ti r.1.2.1, Ti r.1.2.2.1, Ti r.1.2.2.2]) (.tc (Bo r.2) .tn)) [] := by
  refine CallS_of_text (rs := [.w 2 4, .t 3]) (vs := [.cell 2 44, .tmp 3]) Tryd.func16 rfl rfl (.cons ⟨rfl, wd44⟩ (.cons rfl FitsL.nil)) (by decide) 36 rfl ?_
  unfold r_impl_ParseMatrix at h
  show V _ _ ⟨.c (.v (.string vs1)) :: bt 35 [], []⟩ _
  refine V_e (mb 36 5) [16] (s1 := ⟨.c (.v (.string vs1)) :: .bot :: .pt 16 0 :: bt 33 [], [(16, .box [Ti 0, Ti 0, Ti 0, Ti 0])]⟩) ?_
  obtain ⟨y2, hy2, h⟩ := zA h
  refine zJ (mb 36 21) [56, 16] (s1 := ⟨.c (.v (.string vs1)) :: .bot :: .pt 16 0 :: .bot :: .ow 56 :: bt 31 [], [(56, .arr 3 1 (y2.map c3)), (16, .box [Ti 0, Ti 0, Ti 0, Ti 0])]⟩) ?_ ?_
  ·refine XR 1 ?_
   refine XC (s_impl_integersIn hy2) cf_impl_integersIn rfl rfl rfl ?_
   exact XE
  refine V_seq ?_
  refine zJ (mb 36 1045) [56, 16] (s1 := ⟨.c (.v (.string vs1)) :: .bot :: .pt 16 0 :: .bot :: .ow 56 :: bt 5 (Bo (!eqI ((y2.length : Int)) 4) :: bt 25 []), [(56, .arr 3 1 (y2.map c3)), (16, .box [Ti 0, Ti 0, Ti 0, Ti 0])]⟩) ?_ ?_
  ·refine XR 1 ?_
   refine L0 rfl rfl (Y0_lenM (c := c3) (xs := y2) Tryd.underlying27 rfl kk) ?_
   exact XE
  refine V_cond rfl (fun hc3 => ?_) (fun hc3 => ?_)
  ·have h := of_true h hc3
   refine zJ (mb 36 12) [16] (s1 := ⟨.bot :: .bot :: .pt 16 0 :: Bo false :: bt 32 [], [(16, .box [Ti 0, Ti 0, Ti 0, Ti 0])]⟩) ?_ ?_
   ·refine L0 rfl rfl (Y0_build (cs := [Ti 0, Ti 0, Ti 0, Ti 0]) pl44 bt44 rfl rfl kk) ?_
    exact XE
   refine V_ret ?_
   obtain rfl := zD h
   show Post _ _ _ _ _
   exact ⟨.inr rfl, rfl, rfl, rfl⟩
  ·have h := zI h hc3
   refine V_skip ?_
   show V _ _ _ _
   obtain ⟨e4, he4, h⟩ := zA h
   obtain ⟨e5, he5, h⟩ := zA h
   obtain ⟨e6, he6, h⟩ := zA h
   obtain ⟨e7, he7, h⟩ := zA h
   obtain ⟨e8, he8, h⟩ := zA h
   obtain ⟨e9, he9, h⟩ := zA h
   obtain ⟨e10, he10, h⟩ := zA h
   obtain ⟨e11, he11, h⟩ := zA h
   refine V_sdreg [0, 1, 3, 0, 8, 24, 0, 64, 192, 0, 512, 1536, 4095, 0, 16383] 14 (cdm 14 [145402496, 145402497, 145402501, 145399850, 145399914, 145400170, 145230506, 145234602, 145250986, 134392490, 134654634, 135703210, 139810133, 44739242]) (mb 36 37) [40, 16] (s1 := ⟨.c (.v (.string vs1)) :: .bot :: .pt 16 0 :: .bot :: .bot :: .pt 40 0 :: bt 30 [], [(40, .box [Ti e5, Ti e7, Ti e9, Ti e11]), (16, .box [Ti 0, Ti 0, Ti 0, Ti 0])]⟩) kk kk ?_ ?_
   ·refine DR 1 ?_
    refine DE_0 1 (.po 56 1 (Int.toNat (0)) 0) kk rfl rfl rfl (zG rfl) kk (Y0_idxoM (c := c3) (xs := y2) (v := e4) (id := 56) (T := 3) (sz := 1) (n := 0) Tryd.underlying27 sz3 rfl kk kk kk he4) 13 rfl ?_
    refine DE_0 2 (I e5) kk rfl rfl rfl (zG rfl) kk (Y0_loado1 (c := c3) (xs := y2) (v := e5) (id := 56) (sz := 1) (T := 3) (off := 0) (n := 0) (d := Ti e5) (ds := []) sc3 rfl kk kk he5 kk) 14 rfl ?_
    refine DR 1 ?_
    refine DE_0 4 (.po 56 1 (Int.toNat (1)) 0) kk rfl rfl rfl (zG rfl) kk (Y0_idxoM (c := c3) (xs := y2) (v := e6) (id := 56) (T := 3) (sz := 1) (n := 1) Tryd.underlying27 sz3 rfl kk kk kk he6) 16 rfl ?_
    refine DE_0 5 (I e7) kk rfl rfl rfl (zG rfl) kk (Y0_loado1 (c := c3) (xs := y2) (v := e7) (id := 56) (sz := 1) (T := 3) (off := 0) (n := 1) (d := Ti e7) (ds := []) sc3 rfl kk kk he7 kk) 17 rfl ?_
    refine DR 1 ?_
    refine DE_0 7 (.po 56 1 (Int.toNat (2)) 0) kk rfl rfl rfl (zG rfl) kk (Y0_idxoM (c := c3) (xs := y2) (v := e8) (id := 56) (T := 3) (sz := 1) (n := 2) Tryd.underlying27 sz3 rfl kk kk kk he8) 19 rfl ?_
    refine DE_0 8 (I e9) kk rfl rfl rfl (zG rfl) kk (Y0_loado1 (c := c3) (xs := y2) (v := e9) (id := 56) (sz := 1) (T := 3) (off := 0) (n := 2) (d := Ti e9) (ds := []) sc3 rfl kk kk he9 kk) 20 rfl ?_
    refine DR 1 ?_
    refine DE_0 10 (.po 56 1 (Int.toNat (3)) 0) kk rfl rfl rfl (zG rfl) kk (Y0_idxoM (c := c3) (xs := y2) (v := e10) (id := 56) (T := 3) (sz := 1) (n := 3) Tryd.underlying27 sz3 rfl kk kk kk he10) 22 rfl ?_
    refine DE_0 11 (I e11) kk rfl rfl rfl (zG rfl) kk (Y0_loado1 (c := c3) (xs := y2) (v := e11) (id := 56) (sz := 1) (T := 3) (off := 0) (n := 3) (d := Ti e11) (ds := []) sc3 rfl kk kk he11 kk) 23 rfl ?_
    refine DE_0 12 (.ag [Ti e5, Ti e7, Ti e9, Ti e11]) kk rfl rfl rfl (zG rfl) kk (Y0_build (cs := [Ti e5, Ti e7, Ti e9, Ti e11]) pl44 bt44 rfl rfl kk) 24 rfl ?_
    refine DA 1 ?_
    exact XE
   refine V_seq ?_
   obtain ⟨y12, hy12, h⟩ := zA h
   obtain ⟨b15, hb15, h⟩ := zA h
   refine zJ (mb 36 8589934628) [40, 16] (s1 := ⟨.bot :: .bot :: .pt 16 0 :: .bot :: .bot :: .pt 40 0 :: bt 27 (Bo b15 :: .bot :: .bot :: []), [(40, .box [Ti e5, Ti e7, Ti e9, Ti e11]), (16, .box [Ti 0, Ti 0, Ti 0, Ti 0])]⟩) ?_ ?_
   ·refine XR 1 ?_
    refine XC (s_impl_IsMatrix hy12) cf_impl_IsMatrix rfl rfl rfl ?_
    refine XR 2 ?_
    refine XL_split (!y12) (fun hc13 => ?_) (fun hc13 => ?_)
    ·have hb15 := zD (of_true hb15 hc13)
     refine zF _ rfl rfl kk hc13 rfl ?_
     refine zF _ rfl rfl kk hc13 rfl ?_
     refine zF _ rfl rfl kk hc13 rfl ?_
     refine zF _ rfl rfl kk hc13 rfl ?_
     refine zH rfl (zB rfl (Y0_pickTe (b := !y12) (p := true) rfl kk hc13 kk hb15)) ?_
     exact XE
    ·have hb15 := zI hb15 hc13
     obtain ⟨y14, hy14, hb15⟩ := zA hb15
     have hb15 := zD hb15
     refine zE _ rfl rfl kk hc13 (zB rfl (E_loadn (cs := [Ti e5, Ti e7, Ti e9, Ti e11]) [Ti e5, Ti e7, Ti e9, Ti e11] wd44 rfl kk (Nat.le_of_ble_eq_true rfl) kk)) ?_
     refine zE _ rfl rfl kk hc13 (X_of_Y1 rfl (Y1_call (s_impl_matrixText hy14) cf_impl_matrixText rfl kk)) ?_
     refine zE _ rfl rfl kk hc13 (zB rfl (E_move (.c (.v (.string vs1))) rfl kk)) ?_
     refine zE _ rfl rfl kk hc13 (zB rfl (Y0_nes (a := y14) (b := vs1) rfl kk kk)) ?_
     refine zH rfl (zB rfl (Y0_pickFe (b := !y12) (p := !(y14.toList == vs1.toList)) rfl kk hc13 kk hb15)) ?_
     exact XE
   refine V_cond rfl (fun hc16 => ?_) (fun hc16 => ?_)
   ·have h := of_true h hc16
    refine zJ (mb 36 12) [16] (s1 := ⟨.bot :: .bot :: .pt 16 0 :: Bo false :: bt 32 [], [(16, .box [Ti 0, Ti 0, Ti 0, Ti 0])]⟩) ?_ ?_
    ·refine L0 rfl rfl (Y0_build (cs := [Ti 0, Ti 0, Ti 0, Ti 0]) pl44 bt44 rfl rfl kk) ?_
     exact XE
    refine V_ret ?_
    obtain rfl := zD h
    show Post _ _ _ _ _
    exact ⟨.inr rfl, rfl, rfl, rfl⟩
   ·have h := zI h hc16
    refine V_skip ?_
    show V _ _ _ _
    refine V_e (mb 36 12) [16] (s1 := ⟨.bot :: .bot :: .pt 16 0 :: Bo true :: bt 32 [], [(16, .box [Ti e5, Ti e7, Ti e9, Ti e11])]⟩) ?_
    refine V_ret ?_
    obtain rfl := zD h
    show Post _ _ _ _ _
    exact ⟨.inr rfl, rfl, rfl, rfl⟩
theorem cf_impl_numberOf : ∀ args w, (callFunc 17 args).run Tryd.prog w = .ok (.enter 17 args) w := run_callFunc Tryd.func17 kk kk
theorem s_impl_numberOf {w1 : ByteArray} {r : (Int × Bool)} (h : r_impl_numberOf w1 = some r) : CallS Tryd.prog 17 [.c (.v (.string w1))] (.tc (I r.1) (.tc (Bo r.2) .tn)) [] := by
  refine CallS_of_text (rs := [.t 2, .t 3]) (vs := [.tmp 2, .tmp 3]) Tryd.func17 rfl rfl (.cons rfl (.cons rfl FitsL.nil)) (by decide) 25 rfl ?_
  unfold r_impl_numberOf at h
  show V _ _ ⟨.c (.v (.string w1)) :: bt 24 [], []⟩ _
  refine V_e (mb 25 1) [] (s1 := ⟨.c (.v (.string w1)) :: bt 24 [], []⟩) ?_
  obtain ⟨y2, hy2, h⟩ := zA h
  refine zJ (mb 25 49) [] (s1 := ⟨.c (.v (.string w1)) :: bt 3 (I y2.1 :: .er y2.2 :: bt 19 []), []⟩) ?_ ?_
  ·refine XR 1 ?_
   refine XC (s_strconv_Atoi hy2) cf_strconv_Atoi rfl rfl rfl ?_
   exact XE
  obtain ⟨b5, hb5, h⟩ := zA h
  obtain ⟨b8, hb8, h⟩ := zA h
  refine zJ (mb 25 12) [] (s1 := ⟨.bot :: .bot :: I y2.1 :: Bo b8 :: bt 21 [], []⟩) ?_ ?_
  ·refine XR 2 ?_
   refine L0 rfl rfl (Y0_ereq (b := y2.2) Tryd.underlying61 rfl kk) ?_
   refine XR 1 ?_
   refine XL_split y2.2 (fun hc3 => ?_) (fun hc3 => ?_)
   ·have hb5 := of_true hb5 hc3
    obtain ⟨y4, hy4, hb5⟩ := zA hb5
    have hb5 := zD hb5
    refine zE _ rfl rfl kk hc3 (zB rfl (E_move (I y2.1) rfl kk)) ?_
    refine zE _ rfl rfl kk hc3 (X_of_Y1 rfl (Y1_bslice (z := zv3) (els := [y2.1].map c3) Tryd.underlying27 iz3 rfl (by decide) rfl kk rfl (by simp [c3]) (by decide) (by decide))) ?_
    refine zE _ rfl rfl kk hc3 (X_of_Y1 rfl (Y1_callS (s_impl_areNumbers hy4) cf_impl_areNumbers rfl kk rfl rfl)) ?_
    refine zH rfl (zB rfl (Y0_pickTe (b := y2.2) (p := y4) rfl kk hc3 kk hb5)) ?_
    refine XR 1 ?_
    refine XL_split b5 (fun hc6 => ?_) (fun hc6 => ?_)
    ·have hb8 := of_true hb8 hc6
     obtain ⟨y7, hy7, hb8⟩ := zA hb8
     have hb8 := zD hb8
     refine zE _ rfl rfl kk hc6 (zB rfl (E_move (I y2.1) rfl kk)) ?_
     refine zE _ rfl rfl kk hc6 (X_of_Y1 rfl (Y1_call (s_strconv_Itoa hy7) cf_strconv_Itoa rfl kk)) ?_
     refine zE _ rfl rfl kk hc6 (zB rfl (E_move (.c (.v (.string w1))) rfl kk)) ?_
     refine zE _ rfl rfl kk hc6 (zB rfl (Y0_eqs (a := y7) (b := w1) rfl kk kk)) ?_
     refine zH rfl (zB rfl (Y0_pickTe (b := b5) (p := y7.toList == w1.toList) rfl kk hc6 kk hb8)) ?_
     exact XE
    ·have hb8 := zD (zI hb8 hc6)
     refine XL_skipT _ rfl rfl kk hc6 rfl ?_
     refine XL_skipT _ rfl rfl kk hc6 rfl ?_
     refine XL_skipT _ rfl rfl kk hc6 rfl ?_
     refine XL_skipT _ rfl rfl kk hc6 rfl ?_
     refine zH rfl (zB rfl (Y0_pickFe (b := b5) (p := false) rfl kk hc6 kk hb8)) ?_
     exact XE
   ·have hb5 := zD (zI hb5 hc3)
    refine XL_skipT _ rfl rfl kk hc3 rfl ?_
    refine XL_skipT _ rfl rfl kk hc3 rfl ?_
    refine XL_skipT _ rfl rfl kk hc3 rfl ?_
    refine zH rfl (zB rfl (Y0_pickFe (b := y2.2) (p := false) rfl kk hc3 kk hb5)) ?_
    refine XR 1 ?_
    refine XL_split b5 (fun hc6 => ?_) (fun hc6 => ?_)
    ·have hb8 := of_true hb8 hc6
     obtain ⟨y7, hy7, hb8⟩ := zA hb8
     have hb8 := zD hb8
     refine zE _ rfl rfl kk hc6 (zB rfl (E_move (I y2.1) rfl kk)) ?_
     refine zE _ rfl rfl kk hc6 (X_of_Y1 rfl (Y1_call (s_strconv_Itoa hy7) cf_strconv_Itoa rfl kk)) ?_
     refine zE _ rfl rfl kk hc6 (zB rfl (E_move (.c (.v (.string w1))) rfl kk)) ?_
     refine zE _ rfl rfl kk hc6 (zB rfl (Y0_eqs (a := y7) (b := w1) rfl kk kk)) ?_
     refine zH rfl (zB rfl (Y0_pickTe (b := b5) (p := y7.toList == w1.toList) rfl kk hc6 kk hb8)) ?_
     exact XE
    ·have hb8 := zD (zI hb8 hc6)
     refine XL_skipT _ rfl rfl kk hc6 rfl ?_
     refine XL_skipT _ rfl rfl kk hc6 rfl ?_
     refine XL_skipT _ rfl rfl kk hc6 rfl ?_
     refine XL_skipT _ rfl rfl kk hc6 rfl ?_
     refine zH rfl (zB rfl (Y0_pickFe (b := b5) (p := false) rfl kk hc6 kk hb8)) ?_
     exact XE
  refine V_ret ?_
  obtain rfl := zD h
  show Post _ _ _ _ _
  exact ⟨.inr rfl, rfl, rfl, rfl⟩
theorem cf_impl_partsOf : ∀ args w, (callFunc 7 args).run Tryd.prog w = .ok (.enter 7 args) w := run_callFunc Tryd.func7 kk kk
theorem s_impl_partsOf {vs1 : ByteArray} {r : (((ByteArray × (List ((Int × Int × Int))) × (List ((Int × Int × Int × Int))) × (List Int))) × Bool)} (h : r_impl_partsOf vs1 = some r) : CallS Tryd.prog 7 [.c (.v (.string vs1))] (.tc (.ag [.v (.string r.1.1), .sl (r.1.2.1.map c40), .sl (r.1.2.2.1.map c44), .sl (r.1.2.2.2.map c3)]) (.tc (Bo r.2) .tn)) [] := by
  refine CallS_of_text (rs := [.w 2 4, .t 3]) (vs := [.cell 2 33, .tmp 3]) Tryd.func7 rfl rfl (.cons ⟨rfl, wd33⟩ (.cons rfl FitsL.nil)) (by decide) 92 rfl ?_
  unfold r_impl_partsOf at h
  show V _ _ ⟨.c (.v (.string vs1)) :: bt 91 [], []⟩ _
  refine V_e (mb 92 5) [16] (s1 := ⟨.c (.v (.string vs1)) :: .bot :: .pt 16 0 :: bt 89 [], [(16, .box [.v (.string ByteArray.empty), .v (.slice none 0 0), .v (.slice none 0 0), .v (.slice none 0 0)])]⟩) ?_
  obtain ⟨y2, hy2, h⟩ := zA h
  refine zJ (mb 92 20) [136, 16] (s1 := ⟨.bot :: .bot :: .pt 16 0 :: .bot :: .ow 136 :: bt 87 [], [(136, .arr 9 1 (y2.map c9)), (16, .box [.v (.string ByteArray.empty), .v (.slice none 0 0), .v (.slice none 0 0), .v (.slice none 0 0)])]⟩) ?_ ?_
  ·refine XR 1 ?_
   refine XC (s_strings_Split hy2) cf_strings_Split rfl rfl rfl ?_
   exact XE
  obtain ⟨e3, he3, h⟩ := zA h
  obtain ⟨e4, he4, h⟩ := zA h
  refine zJ (mb 92 52) [40, 136, 16] (s1 := ⟨.bot :: .bot :: .pt 16 0 :: .bot :: .ow 136 :: .pt 40 0 :: bt 86 [], [(40, .box [.v (.string e4), .v (.slice none 0 0), .v (.slice none 0 0), .v (.slice none 0 0)]), (136, .arr 9 1 (y2.map c9)), (16, .box [.v (.string ByteArray.empty), .v (.slice none 0 0), .v (.slice none 0 0), .v (.slice none 0 0)])]⟩) ?_ ?_
  ·refine XR 1 ?_
   refine L0 rfl rfl (Y0_idxoM (c := c9) (xs := y2) (v := e3) (id := 136) (T := 9) (sz := 1) (n := 0) Tryd.underlying36 sz9 rfl kk kk kk he3) ?_
   refine L0 rfl rfl (Y0_loado1 (c := c9) (xs := y2) (v := e4) (id := 136) (sz := 1) (T := 9) (off := 0) (n := 0) (d := .v (.string e4)) (ds := []) sc9 rfl kk kk he4 kk) ?_
   refine L0 rfl rfl (Y0_build (cs := [.v (.string e4), .v (.slice none 0 0), .v (.slice none 0 0), .v (.slice none 0 0)]) pl33 bt33 rfl rfl kk) ?_
   exact XE
  obtain ⟨y5, hy5, h⟩ := zA h
  refine zJ (mb 92 116) [40, 136, 16] (s1 := ⟨.bot :: .bot :: .pt 16 0 :: .bot :: .ow 136 :: .pt 40 0 :: .c (.v (.string y5)) :: bt 85 [], [(40, .box [.v (.string e4), .v (.slice none 0 0), .v (.slice none 0 0), .v (.slice none 0 0)]), (136, .arr 9 1 (y2.map c9)), (16, .box [.v (.string ByteArray.empty), .v (.slice none 0 0), .v (.slice none 0 0), .v (.slice none 0 0)])]⟩) ?_ ?_
  ·refine XR 2 ?_
   refine XC (s_impl_shapeOf hy5) cf_impl_shapeOf rfl rfl rfl ?_
   exact XE
  refine V_seq ?_
  obtain ⟨t7, ht7, h⟩ := zA h
  have ht7 := zD ht7
  refine zJ (mb 92 17179869300) [40, 136, 16] (s1 := ⟨.bot :: .bot :: .pt 16 0 :: .bot :: .ow 136 :: .pt 40 0 :: .c (.v (.string y5)) :: bt 27 (Bo t7 :: bt 57 []), [(40, .box [.v (.string e4), .v (.slice none 0 0), .v (.slice none 0 0), .v (.slice none 0 0)]), (136, .arr 9 1 (y2.map c9)), (16, .box [.v (.string ByteArray.empty), .v (.slice none 0 0), .v (.slice none 0 0), .v (.slice none 0 0)])]⟩) ?_ ?_
  ·refine XR 1 ?_
   refine L0 rfl rfl (Y0_eqs (a := y5) (b := ((⟨#[]⟩ : ByteArray))) rfl kk kk) ?_
   refine XR 1 ?_
   refine XL_split (y5.toList == ((⟨#[]⟩ : ByteArray)).toList) (fun hc6 => ?_) (fun hc6 => ?_)
   ·refine zF _ rfl rfl kk hc6 rfl ?_
    refine zF _ rfl rfl kk hc6 rfl ?_
    refine zF _ rfl rfl kk hc6 rfl ?_
    refine zF _ rfl rfl kk hc6 rfl ?_
    refine zF _ rfl rfl kk hc6 rfl ?_
    refine zF _ rfl rfl kk hc6 rfl ?_
    refine zH rfl (zB rfl (Y0_pick1 (b := y5.toList == ((⟨#[]⟩ : ByteArray)).toList) (p := true) (q := !eqI ((y2.length : Int)) (w64 (((y5.size : Int)) + 1))) rfl kk hc6 kk)) ?_
    refine zK ?_
    subst ht7
    kernel_rfl
   ·refine zE _ rfl rfl kk hc6 (zB rfl (E_move (.ow 136) rfl kk)) ?_
    refine zE _ rfl rfl kk hc6 (zB rfl (Y0_lenM (c := c9) (xs := y2) Tryd.underlying36 rfl kk)) ?_
    refine zE _ rfl rfl kk hc6 (zB rfl (E_move (.c (.v (.string y5))) rfl kk)) ?_
    refine zE _ rfl rfl kk hc6 (zB rfl (Y0_lens (b := y5) Tryd.underlying9 rfl kk)) ?_
    refine zE _ rfl rfl kk hc6 (zB rfl (Y0_add64 (a := (y5.size : Int)) (b := 1) rfl kk kk)) ?_
    refine zE _ rfl rfl kk hc6 (zB rfl (Y0_new (k := .i64) (a := (y2.length : Int)) (b := w64 (((y5.size : Int)) + 1)) rfl kk kk)) ?_
    refine zH rfl (zB rfl (Y0_pick0 (b := y5.toList == ((⟨#[]⟩ : ByteArray)).toList) (p := true) (q := !eqI ((y2.length : Int)) (w64 (((y5.size : Int)) + 1))) rfl kk hc6 kk)) ?_
    refine zK ?_
    subst ht7
    kernel_rfl
  refine V_cond rfl (fun hc8 => ?_) (fun hc8 => ?_)
  ·have h := of_true h hc8
   refine zJ (mb 92 12) [16] (s1 := ⟨.bot :: .bot :: .pt 16 0 :: Bo false :: bt 88 [], [(16, .box [.v (.string ByteArray.empty), .v (.slice none 0 0), .v (.slice none 0 0), .v (.slice none 0 0)])]⟩) ?_ ?_
   ·refine L0 rfl rfl (Y0_build (cs := [.v (.string ByteArray.empty), .v (.slice none 0 0), .v (.slice none 0 0), .v (.slice none 0 0)]) pl33 bt33 rfl rfl kk) ?_
    exact XE
   refine V_nilSl 16 1 (cs := [.v (.string ByteArray.empty), .v (.slice none 0 0), .v (.slice none 0 0), .v (.slice none 0 0)]) (s1 := ⟨.bot :: .bot :: .pt 16 0 :: Bo false :: bt 88 [], [(16, .box [.v (.string ByteArray.empty), .sl ((([] : List ((Int × Int × Int)))).map c40), .v (.slice none 0 0), .v (.slice none 0 0)])]⟩) kk kk kk ?_
   refine V_nilSl 16 2 (cs := [.v (.string ByteArray.empty), .sl ((([] : List ((Int × Int × Int)))).map c40), .v (.slice none 0 0), .v (.slice none 0 0)]) (s1 := ⟨.bot :: .bot :: .pt 16 0 :: Bo false :: bt 88 [], [(16, .box [.v (.string ByteArray.empty), .sl ((([] : List ((Int × Int × Int)))).map c40), .sl ((([] : List ((Int × Int × Int × Int)))).map c44), .v (.slice none 0 0)])]⟩) kk kk kk ?_
   refine V_nilSl 16 3 (cs := [.v (.string ByteArray.empty), .sl ((([] : List ((Int × Int × Int)))).map c40), .sl ((([] : List ((Int × Int × Int × Int)))).map c44), .v (.slice none 0 0)]) (s1 := ⟨.bot :: .bot :: .pt 16 0 :: Bo false :: bt 88 [], [(16, .box [.v (.string ByteArray.empty), .sl ((([] : List ((Int × Int × Int)))).map c40), .sl ((([] : List ((Int × Int × Int × Int)))).map c44), .sl ((([] : List Int)).map c3)])]⟩) kk kk kk ?_
   refine V_ret ?_
   obtain rfl := zD h
   show Post _ _ _ _ _
   exact ⟨.inr rfl, rfl, rfl, rfl⟩
  ·have h := zI h hc8
   refine V_skip ?_
   show V _ _ _ _
   refine V_seq ?_
   obtain ⟨u9, hu9, h⟩ := zA h
   obtain ⟨t10, ht10, h⟩ := of_sI h
   refine zJ (mb 92 962072674404) [40, 16] (s1 := ⟨.bot :: .bot :: .pt 16 0 :: .bot :: .bot :: .pt 40 0 :: .c (.v (.string y5)) :: bt 30 (.c (.sl ((subl y2 1 ((y2.length : Int))).map c9)) :: I t10 :: I 0 :: bt 52 []), [(40, .box [.v (.string e4), .v (.slice none 0 0), .v (.slice none 0 0), .v (.slice none 0 0)]), (16, .box [.v (.string ByteArray.empty), .v (.slice none 0 0), .v (.slice none 0 0), .v (.slice none 0 0)])]⟩) ?_ ?_
   ·refine XR 1 ?_
    refine XL_freeze 136 (T := 9) (sz := 1) (els := y2.map c9) (s1 := ⟨.bot :: .bot :: .pt 16 0 :: .bot :: .c (.sl (y2.map c9)) :: .pt 40 0 :: .c (.v (.string y5)) :: bt 27 (Bo t7 :: .bot :: .c (.sl (y2.map c9)) :: bt 55 []), [(40, .box [.v (.string e4), .v (.slice none 0 0), .v (.slice none 0 0), .v (.slice none 0 0)]), (16, .box [.v (.string ByteArray.empty), .v (.slice none 0 0), .v (.slice none 0 0), .v (.slice none 0 0)])]⟩) kk kk ?_
    refine L0 rfl rfl (Y0_slice (c := c9) (xs := y2) (l := 1) (h := (y2.length : Int)) Tryd.underlying36 sz9 (fun _ => rfl) rfl kk (fun y hy => by cases hy; exact ⟨.i64, kk⟩) (fun hh => by cases hh) (fun y hy => by cases hy) (fun _ => rfl) (slc_some hu9)) ?_
    refine L0 rfl rfl (Y0_lenM (c := c9) (xs := subl y2 1 ((y2.length : Int))) Tryd.underlying36 rfl kk) ?_
    refine XR 1 ?_
    refine zK ?_
    subst ht10
    kernel_rfl
   refine V_nilrow 42 40 3 kk (by decide) ?_
   refine V_nilrow 43 44 4 kk (by decide) ?_
   refine V_nilrow 44 3 1 kk (by decide) ?_
   refine V_gen (fun γ : Nat → Loc => ⟨.bot :: .bot :: .pt 16 0 :: .bot :: .bot :: .pt 40 0 :: .c (.v (.string y5)) :: bt 30 (.c (.sl ((subl y2 1 ((y2.length : Int))).map c9)) :: I t10 :: I 0 :: bt 52 []), [(44, .qarr (γ 44) 3 1 ((([] : List Int)).map c3)), (43, .qarr (γ 43) 44 4 ((([] : List ((Int × Int × Int × Int)))).map c44)), (42, .qarr (γ 42) 40 3 ((([] : List ((Int × Int × Int)))).map c40)), (40, .box [.v (.string e4), .v (zC (γ 42)), .v (zC (γ 43)), .v (zC (γ 44))]), (16, .box [.v (.string ByteArray.empty), .v (.slice none 0 0), .v (.slice none 0 0), .v (.slice none 0 0)])]⟩) (fun _ => loc0) kk fun γ => ?_
   obtain ⟨qo16, hLo16, hko16⟩ := zA h
   refine V_toSQ (q := qo16) (S := fun o16 (γ : Nat → Loc) => ⟨.bot :: .bot :: .pt 16 0 :: .bot :: .bot :: .pt 40 0 :: bt 86 [], [(44, .qarr (γ 44) 3 1 (o16.1.map c3)), (43, .qarr (γ 43) 44 4 (o16.2.1.map c44)), (42, .qarr (γ 42) 40 3 (o16.2.2.map c40)), (40, .box [.v (.string e4), .v (zC (γ 42)), .v (zC (γ 43)), .v (zC (γ 44))]), (16, .box [.v (.string ByteArray.empty), .v (.slice none 0 0), .v (.slice none 0 0), .v (.slice none 0 0)])]⟩) (mb 92 36) [44, 43, 42, 40, 16] ?_ ?_
   ·refine V_block (V_loop (fun n s => ∃ (t11 : Int) (l12 : List ((Int × Int × Int))) (l13 : List ((Int × Int × Int × Int))) (l14 : List Int), ∃ γ : Nat → Loc, s.keep (mb 92 962072674404) [44, 43, 42, 40, 16] = (⟨.bot :: .bot :: .pt 16 0 :: .bot :: .bot :: .pt 40 0 :: .c (.v (.string y5)) :: bt 30 (.c (.sl ((subl y2 1 ((y2.length : Int))).map c9)) :: I t10 :: I t11 :: bt 52 []), [(44, .qarr (γ 44) 3 1 (l14.map c3)), (43, .qarr (γ 43) 44 4 (l13.map c44)), (42, .qarr (γ 42) 40 3 (l12.map c40)), (40, .box [.v (.string e4), .v (zC (γ 42)), .v (zC (γ 43)), .v (zC (γ 44))]), (16, .box [.v (.string ByteArray.empty), .v (.slice none 0 0), .v (.slice none 0 0), .v (.slice none 0 0)])]⟩ : St) ∧ r_impl_partsOf_L15 e4 t10 y2 y5 n t11 l12 l13 l14 = some qo16) FU ⟨_, _, _, _, γ,  by rfl, hLo16⟩ ?_)
    clear hLo16
    rintro n s ⟨t11, l12, l13, l14, γ, hs, h⟩
    refine V_keep _ _ hs ?_
    clear hs
    cases n with
    | zero => cases h
    | succ n =>
     rw [r_impl_partsOf_L15] at h
     refine V_sregQ (fun γ : Nat → Loc => ⟨.bot :: .bot :: .pt 16 0 :: .bot :: .bot :: .pt 40 0 :: .c (.v (.string y5)) :: bt 30 (.c (.sl ((subl y2 1 ((y2.length : Int))).map c9)) :: I t10 :: I t11 :: Bo (ltI t11 t10) :: bt 51 []), [(44, .qarr (γ 44) 3 1 (l14.map c3)), (43, .qarr (γ 43) 44 4 (l13.map c44)), (42, .qarr (γ 42) 40 3 (l12.map c40)), (40, .box [.v (.string e4), .v (zC (γ 42)), .v (zC (γ 43)), .v (zC (γ 44))]), (16, .box [.v (.string ByteArray.empty), .v (.slice none 0 0), .v (.slice none 0 0), .v (.slice none 0 0)])]⟩) (mb 92 2061584302180) [44, 43, 42, 40, 16] ?_ ?_
     ·refine XR 1 ?_
      refine zK ?_
      exact ⟨γ, by kernel_rfl⟩
     intro γ
     refine V_seq ?_
     refine V_cond rfl (fun hc17 => ?_) (fun hc17 => ?_)
     ·have h := of_true h hc17
      refine V_skip ?_
      show V _ _ _ _
      refine V_seq ?_
      refine V_block ?_
      obtain ⟨e18, he18, h⟩ := zA h
      refine V_sregQ (fun γ : Nat → Loc => ⟨.bot :: .bot :: .pt 16 0 :: .bot :: .bot :: .pt 40 0 :: .c (.v (.string y5)) :: I t11 :: .c (.v (.string e18)) :: bt 28 (.c (.sl ((subl y2 1 ((y2.length : Int))).map c9)) :: I t10 :: I t11 :: bt 52 []), [(44, .qarr (γ 44) 3 1 (l14.map c3)), (43, .qarr (γ 43) 44 4 (l13.map c44)), (42, .qarr (γ 42) 40 3 (l12.map c40)), (40, .box [.v (.string e4), .v (zC (γ 42)), .v (zC (γ 43)), .v (zC (γ 44))]), (16, .box [.v (.string ByteArray.empty), .v (.slice none 0 0), .v (.slice none 0 0), .v (.slice none 0 0)])]⟩) (mb 92 962072674788) [44, 43, 42, 40, 16] ?_ ?_
      ·refine XR 1 ?_
       refine L0 rfl rfl (Y0_idxM (c := c9) (xs := subl y2 1 ((y2.length : Int))) (v := e18) (n := t11) Tryd.underlying36 sz9 rfl kk kk he18) ?_
       refine XR 3 ?_
       refine zK ?_
       exact ⟨γ, by kernel_rfl⟩
      intro γ
      refine V_sregQ (fun γ : Nat → Loc => ⟨.bot :: .bot :: .pt 16 0 :: .bot :: .bot :: .pt 40 0 :: .c (.v (.string y5)) :: I t11 :: .c (.v (.string e18)) :: bt 28 (.c (.sl ((subl y2 1 ((y2.length : Int))).map c9)) :: I t10 :: I t11 :: bt 52 []), [(44, .qarr (γ 44) 3 1 (l14.map c3)), (43, .qarr (γ 43) 44 4 (l13.map c44)), (42, .qarr (γ 42) 40 3 (l12.map c40)), (40, .box [.v (.string e4), .v (zC (γ 42)), .v (zC (γ 43)), .v (zC (γ 44))]), (16, .box [.v (.string ByteArray.empty), .v (.slice none 0 0), .v (.slice none 0 0), .v (.slice none 0 0)])]⟩) (mb 92 962072674788) [44, 43, 42, 40, 16] ?_ ?_
      ·refine XR 1 ?_
       refine zK ?_
       exact ⟨γ, by kernel_rfl⟩
      intro γ
      refine V_seq ?_
      obtain ⟨e19, he19, h⟩ := zA h
      refine V_sregQ (fun γ : Nat → Loc => ⟨.bot :: .bot :: .pt 16 0 :: .bot :: .bot :: .pt 40 0 :: .c (.v (.string y5)) :: .bot :: .c (.v (.string e18)) :: bt 28 (.c (.sl ((subl y2 1 ((y2.length : Int))).map c9)) :: I t10 :: I t11 :: bt 6 (.c (.v (.int .u8 e19)) :: bt 45 [])), [(44, .qarr (γ 44) 3 1 (l14.map c3)), (43, .qarr (γ 43) 44 4 (l13.map c44)), (42, .qarr (γ 42) 40 3 (l12.map c40)), (40, .box [.v (.string e4), .v (zC (γ 42)), .v (zC (γ 43)), .v (zC (γ 44))]), (16, .box [.v (.string ByteArray.empty), .v (.slice none 0 0), .v (.slice none 0 0), .v (.slice none 0 0)])]⟩) (mb 92 71330816852324) [44, 43, 42, 40, 16] ?_ ?_
      ·refine XR 2 ?_
       refine L0 rfl rfl (Y0_idxs (b := y5) (k := .i64) (n := t11) (v := e19) Tryd.underlying9 rfl kk kk he19) ?_
       refine zK ?_
       exact ⟨γ, by kernel_rfl⟩
      intro γ
      refine V_block ?_
      refine V_sregQ (fun γ : Nat → Loc => ⟨.bot :: .bot :: .pt 16 0 :: .bot :: .bot :: .pt 40 0 :: .c (.v (.string y5)) :: .bot :: .c (.v (.string e18)) :: bt 28 (.c (.sl ((subl y2 1 ((y2.length : Int))).map c9)) :: I t10 :: I t11 :: bt 6 (.c (.v (.int .u8 e19)) :: bt 12 (Bo (eqI e19 102) :: bt 32 []))), [(44, .qarr (γ 44) 3 1 (l14.map c3)), (43, .qarr (γ 43) 44 4 (l13.map c44)), (42, .qarr (γ 42) 40 3 (l12.map c40)), (40, .box [.v (.string e4), .v (zC (γ 42)), .v (zC (γ 43)), .v (zC (γ 44))]), (16, .box [.v (.string ByteArray.empty), .v (.slice none 0 0), .v (.slice none 0 0), .v (.slice none 0 0)])]⟩) (mb 92 576532083120275812) [44, 43, 42, 40, 16] ?_ ?_
      ·refine L0 rfl rfl (Y0_eqw (k := .u8) (a := e19) (b := 102) rfl kk kk) ?_
       refine XR 1 ?_
       refine zK ?_
       exact ⟨γ, by kernel_rfl⟩
      intro γ
      refine V_cond rfl (fun hc20 => ?_) (fun hc20 => ?_)
      ·have h := of_true h hc20
       obtain ⟨y21, hy21, h⟩ := zA h
       refine V_sregQ (fun γ : Nat → Loc => ⟨.bot :: .bot :: .pt 16 0 :: .bot :: .bot :: .pt 40 0 :: .c (.v (.string y5)) :: bt 3 (.pt 80 0 :: Bo y21.2 :: bt 25 (.c (.sl ((subl y2 1 ((y2.length : Int))).map c9)) :: I t10 :: I t11 :: bt 52 [])), [(80, .box [Ti y21.1.1, Ti y21.1.2.1, Ti y21.1.2.2]), (44, .qarr (γ 44) 3 1 (l14.map c3)), (43, .qarr (γ 43) 44 4 (l13.map c44)), (42, .qarr (γ 42) 40 3 (l12.map c40)), (40, .box [.v (.string e4), .v (zC (γ 42)), .v (zC (γ 43)), .v (zC (γ 44))]), (16, .box [.v (.string ByteArray.empty), .v (.slice none 0 0), .v (.slice none 0 0), .v (.slice none 0 0)])]⟩) (mb 92 962072677476) [80, 44, 43, 42, 40, 16] ?_ ?_
       ·refine XR 1 ?_
        refine XC (s_impl_ParseForm hy21) cf_impl_ParseForm rfl rfl rfl ?_
        refine XR 6 ?_
        refine zK ?_
        exact ⟨γ, by kernel_rfl⟩
       intro γ
       obtain ⟨u22, hu22, h⟩ := zA h
       refine V_regQ (fun γ : Nat → Loc => ⟨.bot :: .bot :: .pt 16 0 :: .bot :: .bot :: .pt 40 0 :: .c (.v (.string y5)) :: .bot :: .bot :: Bo y21.2 :: bt 27 (.c (.sl ((subl y2 1 ((y2.length : Int))).map c9)) :: I t10 :: I t11 :: bt 52 []), [(44, .qarr (γ 44) 3 1 (l14.map c3)), (43, .qarr (γ 43) 44 4 (l13.map c44)), (42, .qarr (γ 42) 40 3 ((l12 ++ ([y21.1])).map c40)), (40, .box [.v (.string e4), .v (zC (γ 42)), .v (zC (γ 43)), .v (zC (γ 44))]), (16, .box [.v (.string ByteArray.empty), .v (.slice none 0 0), .v (.slice none 0 0), .v (.slice none 0 0)])]⟩) (mb 92 962072674916) [44, 43, 42, 40, 16] ?_ ?_
       ·refine XR 3 ?_
        refine L1 rfl rfl (Y1_bslice (z := zv40) (els := [y21.1].map c40) Tryd.underlying25 iz40 rfl (by decide) rfl kk rfl (by simp [c40]) (by decide) (by decide)) ?_
        refine XL_unpinQ 67 42 (l := γ 42) (T := 40) (sz := 3) (els := l12.map c40) kk kk ?_
        refine zH rfl (X_appendM (c := c40) (xs := l12) (ys := [y21.1]) (id := 42) (z := zv40) rfl rfl Tryd.underlying25 izb40 rfl kk kk kk (fun _ => rfl) (by simp) (room_some hu22) (by decide)) ?_
        refine XR 2 ?_
        refine XL_pinQ 70 42 (T := 40) (sz := 3) (els := (l12 ++ ([y21.1])).map c40) kk kk fun lq1 => ?_
        refine XR 2 ?_
        refine zK ?_
        exact ⟨(fun i => if i = 42 then lq1 else γ i), by kernel_rfl⟩
       intro γ
       show V _ _ _ _
       refine V_sregQ (fun γ : Nat → Loc => ⟨.bot :: .bot :: .pt 16 0 :: .bot :: .bot :: .pt 40 0 :: .c (.v (.string y5)) :: bt 30 (.c (.sl ((subl y2 1 ((y2.length : Int))).map c9)) :: I t10 :: I t11 :: bt 48 (Bo (!y21.2) :: bt 3 [])), [(44, .qarr (γ 44) 3 1 (l14.map c3)), (43, .qarr (γ 43) 44 4 (l13.map c44)), (42, .qarr (γ 42) 40 3 ((l12 ++ ([y21.1])).map c40)), (40, .box [.v (.string e4), .v (zC (γ 42)), .v (zC (γ 43)), .v (zC (γ 44))]), (16, .box [.v (.string ByteArray.empty), .v (.slice none 0 0), .v (.slice none 0 0), .v (.slice none 0 0)])]⟩) (mb 92 309485009821346030797455460) [44, 43, 42, 40, 16] ?_ ?_
       ·refine XR 2 ?_
        refine zK ?_
        exact ⟨γ, by kernel_rfl⟩
       intro γ
       refine V_cond rfl (fun hc23 => ?_) (fun hc23 => ?_)
       ·have h := of_true h hc23
        refine V_sregQ (fun γ : Nat → Loc => ⟨.bot :: .bot :: .pt 16 0 :: Bo false :: bt 88 [], [(44, .qarr (γ 44) 3 1 (l14.map c3)), (43, .qarr (γ 43) 44 4 (l13.map c44)), (42, .qarr (γ 42) 40 3 ((l12 ++ ([y21.1])).map c40)), (16, .box [.v (.string ByteArray.empty), .v (.slice none 0 0), .v (.slice none 0 0), .v (.slice none 0 0)])]⟩) (mb 92 12) [44, 43, 42, 16] ?_ ?_
        ·refine L0 rfl rfl (Y0_build (cs := [.v (.string ByteArray.empty), .v (.slice none 0 0), .v (.slice none 0 0), .v (.slice none 0 0)]) pl33 bt33 rfl rfl kk) ?_
         refine XR 2 ?_
         refine zK ?_
         exact ⟨γ, by kernel_rfl⟩
        intro γ
        refine V_nilSl 16 1 (cs := [.v (.string ByteArray.empty), .v (.slice none 0 0), .v (.slice none 0 0), .v (.slice none 0 0)]) (s1 := ⟨.bot :: .bot :: .pt 16 0 :: Bo false :: bt 88 [], [(44, .qarr (γ 44) 3 1 (l14.map c3)), (43, .qarr (γ 43) 44 4 (l13.map c44)), (42, .qarr (γ 42) 40 3 ((l12 ++ ([y21.1])).map c40)), (16, .box [.v (.string ByteArray.empty), .sl ((([] : List ((Int × Int × Int)))).map c40), .v (.slice none 0 0), .v (.slice none 0 0)])]⟩) kk kk kk ?_
        refine V_nilSl 16 2 (cs := [.v (.string ByteArray.empty), .sl ((([] : List ((Int × Int × Int)))).map c40), .v (.slice none 0 0), .v (.slice none 0 0)]) (s1 := ⟨.bot :: .bot :: .pt 16 0 :: Bo false :: bt 88 [], [(44, .qarr (γ 44) 3 1 (l14.map c3)), (43, .qarr (γ 43) 44 4 (l13.map c44)), (42, .qarr (γ 42) 40 3 ((l12 ++ ([y21.1])).map c40)), (16, .box [.v (.string ByteArray.empty), .sl ((([] : List ((Int × Int × Int)))).map c40), .sl ((([] : List ((Int × Int × Int × Int)))).map c44), .v (.slice none 0 0)])]⟩) kk kk kk ?_
        refine V_nilSl 16 3 (cs := [.v (.string ByteArray.empty), .sl ((([] : List ((Int × Int × Int)))).map c40), .sl ((([] : List ((Int × Int × Int × Int)))).map c44), .v (.slice none 0 0)]) (s1 := ⟨.bot :: .bot :: .pt 16 0 :: Bo false :: bt 88 [], [(44, .qarr (γ 44) 3 1 (l14.map c3)), (43, .qarr (γ 43) 44 4 (l13.map c44)), (42, .qarr (γ 42) 40 3 ((l12 ++ ([y21.1])).map c40)), (16, .box [.v (.string ByteArray.empty), .sl ((([] : List ((Int × Int × Int)))).map c40), .sl ((([] : List ((Int × Int × Int × Int)))).map c44), .sl ((([] : List Int)).map c3)])]⟩) kk kk kk ?_
        refine V_ret ?_
        obtain rfl := zD h
        have h := hko16
        obtain rfl := zD h
        show Post _ _ _ _ _
        exact ⟨.inr rfl, rfl, rfl, rfl⟩
       ·have h := zI h hc23
        refine V_skip ?_
        show V _ _ _ _
        obtain ⟨t24, ht24, h⟩ := of_sI h
        refine V_regQ (fun γ : Nat → Loc => ⟨.bot :: .bot :: .pt 16 0 :: .bot :: .bot :: .pt 40 0 :: .c (.v (.string y5)) :: bt 30 (.c (.sl ((subl y2 1 ((y2.length : Int))).map c9)) :: I t10 :: I t24 :: bt 52 []), [(44, .qarr (γ 44) 3 1 (l14.map c3)), (43, .qarr (γ 43) 44 4 (l13.map c44)), (42, .qarr (γ 42) 40 3 ((l12 ++ ([y21.1])).map c40)), (40, .box [.v (.string e4), .v (zC (γ 42)), .v (zC (γ 43)), .v (zC (γ 44))]), (16, .box [.v (.string ByteArray.empty), .v (.slice none 0 0), .v (.slice none 0 0), .v (.slice none 0 0)])]⟩) (mb 92 962072674404) [44, 43, 42, 40, 16] ?_ ?_
        ·refine XR 2 ?_
         refine zK ?_
         subst ht24
         exact ⟨γ, by kernel_rfl⟩
        intro γ
        exact ⟨n, Nat.lt_succ_self n, _, _, _, _, γ,  by rfl, h⟩
      ·have h := zI h hc20
       refine V_sregQ (fun γ : Nat → Loc => ⟨.bot :: .bot :: .pt 16 0 :: .bot :: .bot :: .pt 40 0 :: .c (.v (.string y5)) :: .bot :: .c (.v (.string e18)) :: bt 28 (.c (.sl ((subl y2 1 ((y2.length : Int))).map c9)) :: I t10 :: I t11 :: bt 33 (Bo (eqI e19 109) :: bt 18 [])), [(44, .qarr (γ 44) 3 1 (l14.map c3)), (43, .qarr (γ 43) 44 4 (l13.map c44)), (42, .qarr (γ 42) 40 3 (l12.map c40)), (40, .box [.v (.string e4), .v (zC (γ 42)), .v (zC (γ 43)), .v (zC (γ 44))]), (16, .box [.v (.string ByteArray.empty), .v (.slice none 0 0), .v (.slice none 0 0), .v (.slice none 0 0)])]⟩) (mb 92 9444732966701363102052) [44, 43, 42, 40, 16] ?_ ?_
       ·refine L0 rfl rfl (Y0_eqw (k := .u8) (a := e19) (b := 109) rfl kk kk) ?_
        refine XR 1 ?_
        refine zK ?_
        exact ⟨γ, by kernel_rfl⟩
       intro γ
       refine V_cond rfl (fun hc25 => ?_) (fun hc25 => ?_)
       ·have h := of_true h hc25
        obtain ⟨y26, hy26, h⟩ := zA h
        refine V_sregQ (fun γ : Nat → Loc => ⟨.bot :: .bot :: .pt 16 0 :: .bot :: .bot :: .pt 40 0 :: .c (.v (.string y5)) :: bt 5 (.pt 96 0 :: Bo y26.2 :: bt 23 (.c (.sl ((subl y2 1 ((y2.length : Int))).map c9)) :: I t10 :: I t11 :: bt 52 [])), [(96, .box [Ti y26.1.1, Ti y26.1.2.1, Ti y26.1.2.2.1, Ti y26.1.2.2.2]), (44, .qarr (γ 44) 3 1 (l14.map c3)), (43, .qarr (γ 43) 44 4 (l13.map c44)), (42, .qarr (γ 42) 40 3 (l12.map c40)), (40, .box [.v (.string e4), .v (zC (γ 42)), .v (zC (γ 43)), .v (zC (γ 44))]), (16, .box [.v (.string ByteArray.empty), .v (.slice none 0 0), .v (.slice none 0 0), .v (.slice none 0 0)])]⟩) (mb 92 962072686692) [96, 44, 43, 42, 40, 16] ?_ ?_
        ·refine XR 1 ?_
         refine XC (s_impl_ParseMatrix hy26) cf_impl_ParseMatrix rfl rfl rfl ?_
         refine XR 6 ?_
         refine zK ?_
         exact ⟨γ, by kernel_rfl⟩
        intro γ
        obtain ⟨u27, hu27, h⟩ := zA h
        refine V_regQ (fun γ : Nat → Loc => ⟨.bot :: .bot :: .pt 16 0 :: .bot :: .bot :: .pt 40 0 :: .c (.v (.string y5)) :: .bot :: .bot :: Bo y26.2 :: bt 27 (.c (.sl ((subl y2 1 ((y2.length : Int))).map c9)) :: I t10 :: I t11 :: bt 52 []), [(44, .qarr (γ 44) 3 1 (l14.map c3)), (43, .qarr (γ 43) 44 4 ((l13 ++ ([y26.1])).map c44)), (42, .qarr (γ 42) 40 3 (l12.map c40)), (40, .box [.v (.string e4), .v (zC (γ 42)), .v (zC (γ 43)), .v (zC (γ 44))]), (16, .box [.v (.string ByteArray.empty), .v (.slice none 0 0), .v (.slice none 0 0), .v (.slice none 0 0)])]⟩) (mb 92 962072674916) [44, 43, 42, 40, 16] ?_ ?_
        ·refine XR 3 ?_
         refine L1 rfl rfl (Y1_bslice (z := zv44) (els := [y26.1].map c44) Tryd.underlying26 iz44 rfl (by decide) rfl kk rfl (by simp [c44]) (by decide) (by decide)) ?_
         refine XL_unpinQ 81 43 (l := γ 43) (T := 44) (sz := 4) (els := l13.map c44) kk kk ?_
         refine zH rfl (X_appendM (c := c44) (xs := l13) (ys := [y26.1]) (id := 43) (z := zv44) rfl rfl Tryd.underlying26 izb44 rfl kk kk kk (fun _ => rfl) (by simp) (room_some hu27) (by decide)) ?_
         refine XR 2 ?_
         refine XL_pinQ 84 43 (T := 44) (sz := 4) (els := (l13 ++ ([y26.1])).map c44) kk kk fun lq1 => ?_
         refine XR 2 ?_
         refine zK ?_
         exact ⟨(fun i => if i = 43 then lq1 else γ i), by kernel_rfl⟩
        intro γ
        show V _ _ _ _
        refine V_sregQ (fun γ : Nat → Loc => ⟨.bot :: .bot :: .pt 16 0 :: .bot :: .bot :: .pt 40 0 :: .c (.v (.string y5)) :: bt 30 (.c (.sl ((subl y2 1 ((y2.length : Int))).map c9)) :: I t10 :: I t11 :: bt 48 (Bo (!y26.2) :: bt 3 [])), [(44, .qarr (γ 44) 3 1 (l14.map c3)), (43, .qarr (γ 43) 44 4 ((l13 ++ ([y26.1])).map c44)), (42, .qarr (γ 42) 40 3 (l12.map c40)), (40, .box [.v (.string e4), .v (zC (γ 42)), .v (zC (γ 43)), .v (zC (γ 44))]), (16, .box [.v (.string ByteArray.empty), .v (.slice none 0 0), .v (.slice none 0 0), .v (.slice none 0 0)])]⟩) (mb 92 309485009821346030797455460) [44, 43, 42, 40, 16] ?_ ?_
        ·refine XR 2 ?_
         refine zK ?_
         exact ⟨γ, by kernel_rfl⟩
        intro γ
        refine V_cond rfl (fun hc28 => ?_) (fun hc28 => ?_)
        ·have h := of_true h hc28
         refine V_sregQ (fun γ : Nat → Loc => ⟨.bot :: .bot :: .pt 16 0 :: Bo false :: bt 88 [], [(44, .qarr (γ 44) 3 1 (l14.map c3)), (43, .qarr (γ 43) 44 4 ((l13 ++ ([y26.1])).map c44)), (42, .qarr (γ 42) 40 3 (l12.map c40)), (16, .box [.v (.string ByteArray.empty), .v (.slice none 0 0), .v (.slice none 0 0), .v (.slice none 0 0)])]⟩) (mb 92 12) [44, 43, 42, 16] ?_ ?_
         ·refine L0 rfl rfl (Y0_build (cs := [.v (.string ByteArray.empty), .v (.slice none 0 0), .v (.slice none 0 0), .v (.slice none 0 0)]) pl33 bt33 rfl rfl kk) ?_
          refine XR 2 ?_
          refine zK ?_
          exact ⟨γ, by kernel_rfl⟩
         intro γ
         refine V_nilSl 16 1 (cs := [.v (.string ByteArray.empty), .v (.slice none 0 0), .v (.slice none 0 0), .v (.slice none 0 0)]) (s1 := ⟨.bot :: .bot :: .pt 16 0 :: Bo false :: bt 88 [], [(44, .qarr (γ 44) 3 1 (l14.map c3)), (43, .qarr (γ 43) 44 4 ((l13 ++ ([y26.1])).map c44)), (42, .qarr (γ 42) 40 3 (l12.map c40)), (16, .box [.v (.string ByteArray.empty), .sl ((([] : List ((Int × Int × Int)))).map c40), .v (.slice none 0 0), .v (.slice none 0 0)])]⟩) kk kk kk ?_
         refine V_nilSl 16 2 (cs := [.v (.string ByteArray.empty), .sl ((([] : List ((Int × Int × Int)))).map c40), .v (.slice none 0 0), .v (.slice none 0 0)]) (s1 := ⟨.bot :: .bot :: .pt 16 0 :: Bo false :: bt 88 [], [(44, .qarr (γ 44) 3 1 (l14.map c3)), (43, .qarr (γ 43) 44 4 ((l13 ++ ([y26.1])).map c44)), (42, .qarr (γ 42) 40 3 (l12.map c40)), (16, .box [.v (.string ByteArray.empty), .sl ((([] : List ((Int × Int × Int)))).map c40), .sl ((([] : List ((Int × Int × Int × Int)))).map c44), .v (.slice none 0 0)])]⟩) kk kk kk ?_
         refine V_nilSl 16 3 (cs := [.v (.string ByteArray.empty), .sl ((([] : List ((Int × Int × Int)))).map c40), .sl ((([] : List ((Int × Int × Int × Int)))).map c44), .v (.slice none 0 0)]) (s1 := ⟨.bot :: .bot :: .pt 16 0 :: Bo false :: bt 88 [], [(44, .qarr (γ 44) 3 1 (l14.map c3)), (43, .qarr (γ 43) 44 4 ((l13 ++ ([y26.1])).map c44)), (42, .qarr (γ 42) 40 3 (l12.map c40)), (16, .box [.v (.string ByteArray.empty), .sl ((([] : List ((Int × Int × Int)))).map c40), .sl ((([] : List ((Int × Int × Int × Int)))).map c44), .sl ((([] : List Int)).map c3)])]⟩) kk kk kk ?_
         refine V_ret ?_
         obtain rfl := zD h
         have h := hko16
         obtain rfl := zD h
         show Post _ _ _ _ _
         exact ⟨.inr rfl, rfl, rfl, rfl⟩
        ·have h := zI h hc28
         refine V_skip ?_
         show V _ _ _ _
         obtain ⟨t29, ht29, h⟩ := of_sI h
         refine V_regQ (fun γ : Nat → Loc => ⟨.bot :: .bot :: .pt 16 0 :: .bot :: .bot :: .pt 40 0 :: .c (.v (.string y5)) :: bt 30 (.c (.sl ((subl y2 1 ((y2.length : Int))).map c9)) :: I t10 :: I t29 :: bt 52 []), [(44, .qarr (γ 44) 3 1 (l14.map c3)), (43, .qarr (γ 43) 44 4 ((l13 ++ ([y26.1])).map c44)), (42, .qarr (γ 42) 40 3 (l12.map c40)), (40, .box [.v (.string e4), .v (zC (γ 42)), .v (zC (γ 43)), .v (zC (γ 44))]), (16, .box [.v (.string ByteArray.empty), .v (.slice none 0 0), .v (.slice none 0 0), .v (.slice none 0 0)])]⟩) (mb 92 962072674404) [44, 43, 42, 40, 16] ?_ ?_
         ·refine XR 2 ?_
          refine zK ?_
          subst ht29
          exact ⟨γ, by kernel_rfl⟩
         intro γ
         exact ⟨n, Nat.lt_succ_self n, _, _, _, _, γ,  by rfl, h⟩
       ·have h := zI h hc25
        obtain ⟨y30, hy30, h⟩ := zA h
        refine V_sregQ (fun γ : Nat → Loc => ⟨.bot :: .bot :: .pt 16 0 :: .bot :: .bot :: .pt 40 0 :: .c (.v (.string y5)) :: bt 7 (I y30.1 :: Bo y30.2 :: bt 21 (.c (.sl ((subl y2 1 ((y2.length : Int))).map c9)) :: I t10 :: I t11 :: bt 52 [])), [(44, .qarr (γ 44) 3 1 (l14.map c3)), (43, .qarr (γ 43) 44 4 (l13.map c44)), (42, .qarr (γ 42) 40 3 (l12.map c40)), (40, .box [.v (.string e4), .v (zC (γ 42)), .v (zC (γ 43)), .v (zC (γ 44))]), (16, .box [.v (.string ByteArray.empty), .v (.slice none 0 0), .v (.slice none 0 0), .v (.slice none 0 0)])]⟩) (mb 92 962072723556) [44, 43, 42, 40, 16] ?_ ?_
        ·refine XR 1 ?_
         refine XC (s_impl_numberOf hy30) cf_impl_numberOf rfl rfl rfl ?_
         refine XR 5 ?_
         refine zK ?_
         exact ⟨γ, by kernel_rfl⟩
        intro γ
        obtain ⟨u31, hu31, h⟩ := zA h
        refine V_regQ (fun γ : Nat → Loc => ⟨.bot :: .bot :: .pt 16 0 :: .bot :: .bot :: .pt 40 0 :: .c (.v (.string y5)) :: .bot :: .bot :: Bo y30.2 :: bt 27 (.c (.sl ((subl y2 1 ((y2.length : Int))).map c9)) :: I t10 :: I t11 :: bt 52 []), [(44, .qarr (γ 44) 3 1 ((l14 ++ ([y30.1])).map c3)), (43, .qarr (γ 43) 44 4 (l13.map c44)), (42, .qarr (γ 42) 40 3 (l12.map c40)), (40, .box [.v (.string e4), .v (zC (γ 42)), .v (zC (γ 43)), .v (zC (γ 44))]), (16, .box [.v (.string ByteArray.empty), .v (.slice none 0 0), .v (.slice none 0 0), .v (.slice none 0 0)])]⟩) (mb 92 962072674916) [44, 43, 42, 40, 16] ?_ ?_
        ·refine XR 3 ?_
         refine L1 rfl rfl (Y1_bslice (z := zv3) (els := [y30.1].map c3) Tryd.underlying27 iz3 rfl (by decide) rfl kk rfl (by simp [c3]) (by decide) (by decide)) ?_
         refine XL_unpinQ 53 44 (l := γ 44) (T := 3) (sz := 1) (els := l14.map c3) kk kk ?_
         refine zH rfl (X_appendM (c := c3) (xs := l14) (ys := [y30.1]) (id := 44) (z := zv3) rfl rfl Tryd.underlying27 izb3 rfl kk kk kk (fun _ => rfl) (by simp) (room_some hu31) (by decide)) ?_
         refine XR 2 ?_
         refine XL_pinQ 56 44 (T := 3) (sz := 1) (els := (l14 ++ ([y30.1])).map c3) kk kk fun lq1 => ?_
         refine XR 2 ?_
         refine zK ?_
         exact ⟨(fun i => if i = 44 then lq1 else γ i), by kernel_rfl⟩
        intro γ
        show V _ _ _ _
        refine V_sregQ (fun γ : Nat → Loc => ⟨.bot :: .bot :: .pt 16 0 :: .bot :: .bot :: .pt 40 0 :: .c (.v (.string y5)) :: bt 30 (.c (.sl ((subl y2 1 ((y2.length : Int))).map c9)) :: I t10 :: I t11 :: bt 48 (Bo (!y30.2) :: bt 3 [])), [(44, .qarr (γ 44) 3 1 ((l14 ++ ([y30.1])).map c3)), (43, .qarr (γ 43) 44 4 (l13.map c44)), (42, .qarr (γ 42) 40 3 (l12.map c40)), (40, .box [.v (.string e4), .v (zC (γ 42)), .v (zC (γ 43)), .v (zC (γ 44))]), (16, .box [.v (.string ByteArray.empty), .v (.slice none 0 0), .v (.slice none 0 0), .v (.slice none 0 0)])]⟩) (mb 92 309485009821346030797455460) [44, 43, 42, 40, 16] ?_ ?_
        ·refine XR 2 ?_
         refine zK ?_
         exact ⟨γ, by kernel_rfl⟩
        intro γ
        refine V_cond rfl (fun hc32 => ?_) (fun hc32 => ?_)
        ·have h := of_true h hc32
         refine V_sregQ (fun γ : Nat → Loc => ⟨.bot :: .bot :: .pt 16 0 :: Bo false :: bt 88 [], [(44, .qarr (γ 44) 3 1 ((l14 ++ ([y30.1])).map c3)), (43, .qarr (γ 43) 44 4 (l13.map c44)), (42, .qarr (γ 42) 40 3 (l12.map c40)), (16, .box [.v (.string ByteArray.empty), .v (.slice none 0 0), .v (.slice none 0 0), .v (.slice none 0 0)])]⟩) (mb 92 12) [44, 43, 42, 16] ?_ ?_
         ·refine L0 rfl rfl (Y0_build (cs := [.v (.string ByteArray.empty), .v (.slice none 0 0), .v (.slice none 0 0), .v (.slice none 0 0)]) pl33 bt33 rfl rfl kk) ?_
          refine XR 2 ?_
          refine zK ?_
          exact ⟨γ, by kernel_rfl⟩
         intro γ
         refine V_nilSl 16 1 (cs := [.v (.string ByteArray.empty), .v (.slice none 0 0), .v (.slice none 0 0), .v (.slice none 0 0)]) (s1 := ⟨.bot :: .bot :: .pt 16 0 :: Bo false :: bt 88 [], [(44, .qarr (γ 44) 3 1 ((l14 ++ ([y30.1])).map c3)), (43, .qarr (γ 43) 44 4 (l13.map c44)), (42, .qarr (γ 42) 40 3 (l12.map c40)), (16, .box [.v (.string ByteArray.empty), .sl ((([] : List ((Int × Int × Int)))).map c40), .v (.slice none 0 0), .v (.slice none 0 0)])]⟩) kk kk kk ?_
         refine V_nilSl 16 2 (cs := [.v (.string ByteArray.empty), .sl ((([] : List ((Int × Int × Int)))).map c40), .v (.slice none 0 0), .v (.slice none 0 0)]) (s1 := ⟨.bot :: .bot :: .pt 16 0 :: Bo false :: bt 88 [], [(44, .qarr (γ 44) 3 1 ((l14 ++ ([y30.1])).map c3)), (43, .qarr (γ 43) 44 4 (l13.map c44)), (42, .qarr (γ 42) 40 3 (l12.map c40)), (16, .box [.v (.string ByteArray.empty), .sl ((([] : List ((Int × Int × Int)))).map c40), .sl ((([] : List ((Int × Int × Int × Int)))).map c44), .v (.slice none 0 0)])]⟩) kk kk kk ?_
         refine V_nilSl 16 3 (cs := [.v (.string ByteArray.empty), .sl ((([] : List ((Int × Int × Int)))).map c40), .sl ((([] : List ((Int × Int × Int × Int)))).map c44), .v (.slice none 0 0)]) (s1 := ⟨.bot :: .bot :: .pt 16 0 :: Bo false :: bt 88 [], [(44, .qarr (γ 44) 3 1 ((l14 ++ ([y30.1])).map c3)), (43, .qarr (γ 43) 44 4 (l13.map c44)), (42, .qarr (γ 42) 40 3 (l12.map c40)), (16, .box [.v (.string ByteArray.empty), .sl ((([] : List ((Int × Int × Int)))).map c40), .sl ((([] : List ((Int × Int × Int × Int)))).map c44), .sl ((([] : List Int)).map c3)])]⟩) kk kk kk ?_
         refine V_ret ?_
         obtain rfl := zD h
         have h := hko16
         obtain rfl := zD h
         show Post _ _ _ _ _
         exact ⟨.inr rfl, rfl, rfl, rfl⟩
        ·have h := zI h hc32
         refine V_skip ?_
         show V _ _ _ _
         obtain ⟨t33, ht33, h⟩ := of_sI h
         refine V_regQ (fun γ : Nat → Loc => ⟨.bot :: .bot :: .pt 16 0 :: .bot :: .bot :: .pt 40 0 :: .c (.v (.string y5)) :: bt 30 (.c (.sl ((subl y2 1 ((y2.length : Int))).map c9)) :: I t10 :: I t33 :: bt 52 []), [(44, .qarr (γ 44) 3 1 ((l14 ++ ([y30.1])).map c3)), (43, .qarr (γ 43) 44 4 (l13.map c44)), (42, .qarr (γ 42) 40 3 (l12.map c40)), (40, .box [.v (.string e4), .v (zC (γ 42)), .v (zC (γ 43)), .v (zC (γ 44))]), (16, .box [.v (.string ByteArray.empty), .v (.slice none 0 0), .v (.slice none 0 0), .v (.slice none 0 0)])]⟩) (mb 92 962072674404) [44, 43, 42, 40, 16] ?_ ?_
         ·refine XR 2 ?_
          refine zK ?_
          subst ht33
          exact ⟨γ, by kernel_rfl⟩
         intro γ
         exact ⟨n, Nat.lt_succ_self n, _, _, _, _, γ,  by rfl, h⟩
     ·have h := zI h hc17
      refine V_exit ?_
      obtain rfl := zD h
      exact ⟨_, rfl, γ, by rfl⟩
   rintro o16 rfl γ
   have h := hko16
   clear hko16
   show V _ _ _ _
   refine V_frzQ 42 40 1 (l := γ 42) (T := 40) (sz := 3) (els := o16.2.2.map c40) (cs := [.v (.string e4), .v (zC (γ 42)), .v (zC (γ 43)), .v (zC (γ 44))]) (s1 := ⟨.bot :: .bot :: .pt 16 0 :: .bot :: .bot :: .pt 40 0 :: bt 86 [], [(44, .qarr (γ 44) 3 1 (o16.1.map c3)), (43, .qarr (γ 43) 44 4 (o16.2.1.map c44)), (40, .box [.v (.string e4), .sl (o16.2.2.map c40), .v (zC (γ 43)), .v (zC (γ 44))]), (16, .box [.v (.string ByteArray.empty), .v (.slice none 0 0), .v (.slice none 0 0), .v (.slice none 0 0)])]⟩) kk kk kk kk ?_
   refine V_frzQ 43 40 2 (l := γ 43) (T := 44) (sz := 4) (els := o16.2.1.map c44) (cs := [.v (.string e4), .sl (o16.2.2.map c40), .v (zC (γ 43)), .v (zC (γ 44))]) (s1 := ⟨.bot :: .bot :: .pt 16 0 :: .bot :: .bot :: .pt 40 0 :: bt 86 [], [(44, .qarr (γ 44) 3 1 (o16.1.map c3)), (40, .box [.v (.string e4), .sl (o16.2.2.map c40), .sl (o16.2.1.map c44), .v (zC (γ 44))]), (16, .box [.v (.string ByteArray.empty), .v (.slice none 0 0), .v (.slice none 0 0), .v (.slice none 0 0)])]⟩) kk kk kk kk ?_
   refine V_frzQ 44 40 3 (l := γ 44) (T := 3) (sz := 1) (els := o16.1.map c3) (cs := [.v (.string e4), .sl (o16.2.2.map c40), .sl (o16.2.1.map c44), .v (zC (γ 44))]) (s1 := ⟨.bot :: .bot :: .pt 16 0 :: .bot :: .bot :: .pt 40 0 :: bt 86 [], [(40, .box [.v (.string e4), .sl (o16.2.2.map c40), .sl (o16.2.1.map c44), .sl (o16.1.map c3)]), (16, .box [.v (.string ByteArray.empty), .v (.slice none 0 0), .v (.slice none 0 0), .v (.slice none 0 0)])]⟩) kk kk kk kk ?_
   refine V_e (mb 92 12) [16] (s1 := ⟨.bot :: .bot :: .pt 16 0 :: Bo true :: bt 88 [], [(16, .box [.v (.string e4), .sl (o16.2.2.map c40), .sl (o16.2.1.map c44), .sl (o16.1.map c3)])]⟩) ?_
   refine V_ret ?_
   obtain rfl := zD h
   show Post _ _ _ _ _
   exact ⟨.inr rfl, rfl, rfl, rfl⟩
theorem cf_impl_CertificateKind : ∀ args w, (callFunc 5 args).run Tryd.prog w = .ok (.enter 5 args) w := run_callFunc Tryd.func5 kk kk
theorem s_impl_CertificateKind {vs1 : ByteArray} {r : (ByteArray × Bool)} (h : r_impl_CertificateKind vs1 = some r) : CallS Tryd.prog 5 [.c (.v (.string vs1))] (.tc (.c (.v (.string r.1))) (.tc (Bo r.2) .tn)) [] := by
  refine CallS_of_text (rs := [.t 2, .t 3]) (vs := [.tmp 2, .tmp 3]) Tryd.func5 rfl rfl (.cons rfl (.cons rfl FitsL.nil)) (by decide) 14 rfl ?_
  unfold r_impl_CertificateKind at h
  show V _ _ ⟨.c (.v (.string vs1)) :: bt 13 [], []⟩ _
  refine V_e (mb 14 1) [] (s1 := ⟨.c (.v (.string vs1)) :: bt 13 [], []⟩) ?_
  obtain ⟨y2, hy2, h⟩ := zA h
  refine zJ (mb 14 48) [32] (s1 := ⟨bt 4 (.pt 32 0 :: Bo y2.2 :: bt 8 []), [(32, .box [.v (.string y2.1.1), .sl (y2.1.2.1.map c40), .sl (y2.1.2.2.1.map c44), .sl (y2.1.2.2.2.map c3)])]⟩) ?_ ?_
  ·refine XR 1 ?_
   refine XC (s_impl_partsOf hy2) cf_impl_partsOf rfl rfl rfl ?_
   exact XE
  refine V_e (mb 14 12) [] (s1 := ⟨.bot :: .bot :: .c (.v (.string y2.1.1)) :: Bo y2.2 :: bt 10 [], []⟩) ?_
  refine V_ret ?_
  obtain rfl := zD h
  show Post _ _ _ _ _
  exact ⟨.inr rfl, rfl, rfl, rfl⟩
theorem s_laws_FnExactCertificateKind {aS1 : ByteArray} {r : Bool} (h : r_laws_FnExactCertificateKind aS1 = some r) : CallS Tryd.prog 3 [.c (.v (.string aS1))] (Bo r) [] := by
  refine CallS_of_text (rs := [.t 2]) (vs := [.tmp 2]) Tryd.func3 rfl rfl (.cons rfl FitsL.nil) (by decide) 28 rfl ?_
  unfold r_laws_FnExactCertificateKind at h
  show V _ _ ⟨.c (.v (.string aS1)) :: bt 27 [], []⟩ _
  refine V_e (mb 28 1) [] (s1 := ⟨.c (.v (.string aS1)) :: bt 27 [], []⟩) ?_
  refine V_seq ?_
  refine zJ (mb 28 513) [] (s1 := ⟨.c (.v (.string aS1)) :: bt 8 (Bo (ltI 1048576 ((aS1.size : Int))) :: bt 18 []), []⟩) ?_ ?_
  ·refine XR 1 ?_
   refine L0 rfl rfl (Y0_lens (b := aS1) Tryd.underlying9 rfl kk) ?_
   exact XE
  refine V_cond rfl (fun hc2 => ?_) (fun hc2 => ?_)
  ·have h := of_true h hc2
   refine V_e (mb 28 4) [] (s1 := ⟨.bot :: .bot :: Bo true :: bt 25 [], []⟩) ?_
   refine V_ret ?_
   obtain rfl := zD h
   show Post _ _ _ _ _
   exact ⟨.inr rfl, rfl, rfl, rfl⟩
  ·have h := zI h hc2
   refine V_skip ?_
   show V _ _ _ _
   obtain ⟨y3, hy3, h⟩ := zA h
   refine zJ (mb 28 25) [] (s1 := ⟨.c (.v (.string aS1)) :: .bot :: .bot :: .c (.v (.string y3.1)) :: Bo y3.2 :: bt 23 [], []⟩) ?_ ?_
   ·refine XR 1 ?_
    refine XC (s_spec_CertificateKind hy3) cf_spec_CertificateKind rfl rfl rfl ?_
    exact XE
   obtain ⟨y4, hy4, h⟩ := zA h
   refine zJ (mb 28 120) [] (s1 := ⟨bt 3 (.c (.v (.string y3.1)) :: Bo y3.2 :: .c (.v (.string y4.1)) :: Bo y4.2 :: bt 21 []), []⟩) ?_ ?_
   ·refine XR 1 ?_
    refine XC (s_impl_CertificateKind hy4) cf_impl_CertificateKind rfl rfl rfl ?_
    exact XE
   refine V_seq ?_
   obtain ⟨t6, ht6, h⟩ := zA h
   have ht6 := zD ht6
   refine zJ (mb 28 134217728) [] (s1 := ⟨bt 27 (Bo t6 :: []), []⟩) ?_ ?_
   ·refine XR 2 ?_
    refine L0 rfl rfl (Y0_nes (a := y4.1) (b := y3.1) rfl kk kk) ?_
    refine XR 1 ?_
    refine XL_split (!(y4.1.toList == y3.1.toList)) (fun hc5 => ?_) (fun hc5 => ?_)
    ·refine zF _ rfl rfl kk hc5 rfl ?_
     refine zF _ rfl rfl kk hc5 rfl ?_
     refine zF _ rfl rfl kk hc5 rfl ?_
     refine zH rfl (zB rfl (Y0_pick1 (b := !(y4.1.toList == y3.1.toList)) (p := true) (q := y4.2 != y3.2) rfl kk hc5 kk)) ?_
     refine zK ?_
     subst ht6
     kernel_rfl
    ·refine zE _ rfl rfl kk hc5 (zB rfl (E_move (Bo y4.2) rfl kk)) ?_
     refine zE _ rfl rfl kk hc5 (zB rfl (E_move (Bo y3.2) rfl kk)) ?_
     refine zE _ rfl rfl kk hc5 (zB rfl (Y0_neb (a := y4.2) (b := y3.2) Tryd.underlying4 rfl kk kk)) ?_
     refine zH rfl (zB rfl (Y0_pick0 (b := !(y4.1.toList == y3.1.toList)) (p := true) (q := y4.2 != y3.2) rfl kk hc5 kk)) ?_
     refine zK ?_
     subst ht6
     kernel_rfl
   refine V_cond rfl (fun hc7 => ?_) (fun hc7 => ?_)
   ·have h := of_true h hc7
    refine V_e (mb 28 4) [] (s1 := ⟨.bot :: .bot :: Bo false :: bt 25 [], []⟩) ?_
    refine V_ret ?_
    obtain rfl := zD h
    show Post _ _ _ _ _
    exact ⟨.inr rfl, rfl, rfl, rfl⟩
   ·have h := zI h hc7
    refine V_skip ?_
    show V _ _ _ _
    refine V_e (mb 28 4) [] (s1 := ⟨.bot :: .bot :: Bo true :: bt 25 [], []⟩) ?_
    refine V_ret ?_
    obtain rfl := zD h
    show Post _ _ _ _ _
    exact ⟨.inr rfl, rfl, rfl, rfl⟩
end Go.Proofs.YtfmjfofocklgpaaDoor
