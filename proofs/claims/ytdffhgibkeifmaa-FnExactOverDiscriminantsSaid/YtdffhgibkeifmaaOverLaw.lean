/-
  The program's OverDiscriminants returns what the reference's returns, for every argument.
  Conditions: none.
-/
import Derived.Test.YtdffhgibkeifmaaOver
import Derived.ProofKit
import Derived.OpenShut
import Derived.ShutString
import Derived.Lib.SmallJoins
namespace Go.Proofs.Ytdffhgibkeifmaa
open Go.RowKit
set_option linter.unusedSimpArgs false
set_option linter.unusedVariables false

set_option maxHeartbeats 1000000 in
theorem law_Over_core (d : Int) (L : List Int) (ok : Bool) (w : World) (hL : L.length ≤ 1000000)
    (hsp : Hid (∀ W : World, Calls Try.prog 16 #[.int .i64 d] W (RetIB W.heap.size W L ok)))
    (him : Hid (∀ W : World, Calls Try.prog 17 #[.int .i64 d] W (RetIB W.heap.size W L ok))) :
    Calls Try.prog 4 #[.int .i64 d] w fun e w' => e = .returned (.bool true) ∧ Below w.heap.size w w' := by
  have hLL : (L == L) = true := by simp
  cases hok : ok
  all_goals
    go_enter Try.func4, Try.ntmps4
    go_wp2_with fail
    refine (hsp.out _).mono ?_
    rintro e w1 ⟨A1, cap1, n1, rfl, hn1, ho1, hb1⟩
    have Hn1 := Lib.hid hn1
    have q1 : n1 ≤ 1000000 := by omega
    clear hn1
    go_wp2_with fail
    refine (him.out _).mono ?_
    rintro e w2 ⟨A2, cap2, n2, rfl, hn2, ho2, hb2⟩
    have Hn2 := Lib.hid hn2
    have q2 : n2 ≤ 1000000 := by omega
    have i1 := Lib.hid ((isI_of_own ho1 Hn1.out).below hb2)
    have i2 := Lib.hid (isI_of_own ho2 hn2)
    clear hn2
    go_wp2_with fail
    refine (laws_eqIntS A2 A1 n2 cap2 n1 cap1 L L _ i2.out i1.out q2 q1).mono ?_
    rintro e w' ⟨rfl, k1, rfl⟩
    go_wp2_with fail
    refine (laws_markIntS _ A2 n2 cap2 1 L (w2.drewN k1) ho2 Hn2.out q2 (by omega) (by omega)).mono ?_
    rintro e w4 ⟨rfl, ho4, hg4⟩
    have i4 := Lib.hid (isI_of_own ho4 (marks_len 1 n2).symm)
    go_wp2_with fail
    refine (laws_heldIntS A2 n2 cap2 1 w4 i4.out q2 (by omega) (by omega)).mono ?_
    rintro e w' ⟨rfl, rfl⟩
    go_wp2_with fail
    refine (him.out _).mono ?_
    rintro e w5 ⟨A3, cap3, n3, rfl, hn3, ho3, hb5⟩
    have Hn3 := Lib.hid hn3
    have q3 : n3 ≤ 1000000 := by omega
    have i3 := Lib.hid (isI_of_own ho3 hn3)
    have hb14 : Below w1.heap.size w1 w4 := by
      have h1 := below_drewN hb2 k1
      exact h1.grown hg4 hb2.size (fun k hk => (ho2.lt k hk).1)
    have i5 := Lib.hid ((isI_of_own ho1 Hn1.out).below (hb14.trans (hb5.mono hb14.size)))
    clear hn3
    go_wp2_with fail
    refine (laws_eqIntS A3 A1 n3 cap3 n1 cap1 L L _ i3.out i5.out q3 q1).mono ?_
    rintro e w' ⟨rfl, k2, rfl⟩
    have i6 := Lib.hid (((isI_of_own ho4 (marks_len 1 n2).symm).below hb5).below (below_drewN (Below.refl _ _) k2))
    go_wp2_with fail
    refine (laws_heldIntS A2 n2 cap2 1 _ i6.out q2 (by omega) (by omega)).mono ?_
    rintro e w' ⟨rfl, rfl⟩
    go_wp2_with fail
    go_ret
    refine ⟨rfl, ?_⟩
    have hb15 := (hb14.trans (hb5.mono hb14.size)).mono hb1.size
    exact below_drewN (hb1.trans hb15) k2

theorem law_Over (d : Int) (w : World) :
    Calls Try.prog 4 #[.int .i64 d] w fun e w' => e = .returned (.bool true) ∧ Below w.heap.size w w' := by
  cases h : discB d
  · exact law_Over_core d [] false w (by simp) (Lib.hid fun W => spec_OverDiscriminants_no d W h) (Lib.hid fun W => impl_OverDiscriminants_no d W h)
  · refine law_Over_core d (overFrom 60 1 d) true w ?_ (Lib.hid fun W => spec_OverDiscriminants_yes d W h) (Lib.hid fun W => impl_OverDiscriminants_yes d W h)
    obtain ⟨_, _, f4, f5⟩ := over_facts h
    rw [← f5, overImpl, List.length_map]
    omega

namespace fnExactOverDiscriminants
open Go.ChangeShapes Go.WideShapes Go.ChangeAt Go.RowKit Go.Joins
open Go.ChangeMaps (open_string shut_string)
theorem own : ownKnob Try.prog.godebug = none := by kernel_rfl
theorem laidOut : laidOutB Try.prog = true := by kernel_rfl
set_option maxRecDepth 100000 in
theorem lifted (os : Os) (started : os.Started) (H : Type) (enc : TypeId × Value → H) :
    ReturnsInHanded {} Try.checked os 4 .any (Rows.fnExactOverDiscriminantsSpec.pre6 enc Try.prog Try.f4 Rows.fnExactOverDiscriminantsRow.domain false) (Rows.fnExactOverDiscriminantsSpec.post enc Try.prog Try.f4 false true false false) := by
  refine returnsInHanded_of_change (C := Try.checked) own started (by kernel_rfl) Try.func4
    (ChangeSpec.witness6 (enc := enc) (C := Try.checked) false ⟨#[], #[.int .i64 0], []⟩ 8 (by kernel_rfl) (by kernel_rfl) (by kernel_rfl) (by kernel_rfl)) ?_
  intro W base args ds gs before hval0 hW hcnd _
  have hval : ∀ (j : Nat) t v, Try.f4.params[j]? = some t → args[j]? = some v → Value.okWide Try.prog W .any base t v := hval0
  have hW' := hW
  obtain ⟨p, q, hA0, hV, rfl, hfz, hnd⟩ := hW
  have hA : DataW.TrodAll enc Try.prog W 0 (fun _ => true) true Try.f4.params.toList args.toList ds p := hA0
  rw [Try.params4] at hA hval
  obtain ⟨v0, vs0, d0, ds0, p0, q0, hargs, rfl, rfl, h0, r0⟩ := trodAll_cons hA
  obtain ⟨rfl, rfl, rfl⟩ := trodAll_nil r0
  obtain rfl : args = #[v0] := by cases args; simp_all
  obtain ⟨rfl, rfl⟩ := trodVars_none hV
  have k0 := h0
  have lt0 : ∀ x ∈ p0, x.block < W.heap.size := by obtain ⟨m, hm⟩ := k0; exact DataW.trod_lt m _ _ _ hm
  obtain ⟨a0, rfl, _, _, w0⟩ := open_int Try.underlying3 (hval 0 3 v0 rfl rfl) h0
  clear hA0 hval0
  refine (law_Over a0 W).mono fun e W' ⟨he, bel⟩ => ?_
  subst he
  exact ⟨_, rfl, _, _, _, [], _, [], hW', trodAll_mk1 (shut_bool Try.underlying4 _), (trodAll_cons_mk (Below.trod laidOut (by kernel_rfl) (of_decide_eq_true (by kernel_rfl)) k0 bel lt0) trodAll_mk0), rfl, bel.frame _, fun h => by cases h⟩
theorem over : Rows.fnExactOverDiscriminantsRow.holds Try.pinned (OpenSpec.ofChange Rows.fnExactOverDiscriminantsSpec) :=
  OpenClaim.holds_of_wide 4 Try.f4 rfl rfl rfl rfl rfl rfl rfl ⟨rfl, rfl, rfl, rfl, rfl⟩ rfl rfl rfl rfl rfl (by kernel_rfl) Try.func4 (by kernel_rfl)
    (of_decide_eq_true (by kernel_rfl)) (by unfold Func.isWrapper; first | (rw [if_pos (by decide +kernel)]; kernel_rfl) | (rw [if_neg (by decide +kernel)]; exact ⟨rfl, rfl⟩))
    (fun os started H enc _ => lifted os started H enc)
theorem proved : Rows.FnExactOverDiscriminantsSaid := over
#print axioms proved
end fnExactOverDiscriminants

end Go.Proofs.Ytdffhgibkeifmaa
