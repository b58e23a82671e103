/-
  For every integer from 1 to 500, the sums of three squares are counted by Hurwitz numbers.
  Conditions: none.
-/
import Derived.Test.YtdffhgibkeifmaaHsSnd
import Derived.Test.YtdffhgibkeifmaaHsHTab0
import Derived.Test.YtdffhgibkeifmaaHsHTab1
import Derived.Test.YtdffhgibkeifmaaHsHTab2
import Derived.Test.YtdffhgibkeifmaaHsHsPl
import Derived.Test.YtdffhgibkeifmaaHsHsTab
import Derived.Test.YtdffhgibkeifmaaHsCur0
import Derived.Test.YtdffhgibkeifmaaShX
import Derived.ProofKit
import Derived.OpenShut
import Derived.ShutString
import Derived.Lib.SmallJoins
namespace Go.Proofs.Ytdffhgibkeifmaa
open Go.RowKit
set_option linter.unusedSimpArgs false
set_option linter.unusedVariables false

theorem hVal {m : Int} (h1 : 0 ≤ m) (h2 : m ≤ 2000) : ∃ v, hTab m = some v ∧ r_impl_hurwitz m = some v := by
  have h : hOk m = true := by
    by_cases a : m < 1040
    · exact hPart0 m h1 a
    by_cases b : m < 1520
    · exact hPart1 m (by omega) b
    · exact hPart2 m (by omega) (by omega)
  unfold hOk at h
  cases hv : hTab m with
  | none => rw [hv] at h; cases h
  | some v =>
    rw [hv] at h
    simp only at h
    cases e1 : isO (r_impl_hurwitz m) v with
    | false => rw [e1] at h; cases h
    | true => exact ⟨v, rfl, isO_eq e1⟩
theorem hNum {m : Int} (h1 : 0 ≤ m) (h2 : m ≤ 2000) : ∃ v, hTab m = some v ∧ r_impl_HurwitzNumber m = some (v, true) := by
  obtain ⟨v, e1, e2⟩ := hVal h1 h2
  refine ⟨v, e1, ?_⟩
  simp only [r_impl_HurwitzNumber, ltI_eq, decide_eq_false (show ¬ m < 0 by omega), decide_eq_false (show ¬ 2000 < m by omega), cond_false, e2, Option.bind_some]
theorem L21_len {c : List Int} {e k t N : Int} : ∀ (n : Nat) (x : Int) (b b' : List Int), r_impl_squareCounts_L21 c e k N t n x b = some b' → b'.length = b.length
  | 0, x, b, b', h => by cases h
  | n + 1, x, b, b', h => by
    unfold r_impl_squareCounts_L21 at h
    cases hc : leI (w64 (t + w64 (x * x))) N with
    | false => rw [hc, cond_false] at h; rw [some_inj h]
    | true =>
      rw [hc, cond_true] at h
      obtain ⟨e24, g1, h⟩ := of_bind h
      simp only [g1, Option.bind_some, sI_eq] at h
      rw [L21_len n _ _ b' h, List.length_set]
theorem L15_len {c : List Int} {k N : Int} : ∀ (n : Nat) (t : Int) (b b' : List Int), r_impl_squareCounts_L15 c k N n t b = some b' → b'.length = b.length
  | 0, t, b, b', h => by cases h
  | n + 1, t, b, b', h => by
    unfold r_impl_squareCounts_L15 at h
    cases hc : ltI t (c.length : Int) with
    | false => rw [hc, cond_false] at h; rw [some_inj h]
    | true =>
      rw [hc, cond_true] at h
      obtain ⟨e18, g1, h⟩ := of_bind h
      obtain ⟨o, g2, h⟩ := of_bind h
      rw [sI_eq] at h
      rw [L15_len n _ _ b' h, L21_len FU 0 b o g2]
theorem rep_set {M : Nat} (hM : M ≤ 500) : ((List.replicate 501 (0 : Int)).set 0 1).take (M + 1) = (List.replicate (M + 1) (0 : Int)).set 0 1 := by
  rw [List.take_set, take_rep hM]
theorem three_val {M : Nat} (h1 : 1 ≤ M) (h2 : M ≤ 500) : ∃ v, getI sq3 (M : Int) = some v ∧ r_impl_CountThree (M : Int) = some (v, true) := by
  have hs := rounds h2 FU 3 ((List.replicate 501 0).set 0 1) sq3 (by omega) (by omega) (by rw [List.length_set, List.length_replicate]) (fun k c b n' h => by rw [L15_len n' 0 _ b h, List.length_replicate]) sq_rounds
  rw [rep_set h2] at hs
  have e1 : w64 ((M : Int) + 1) = ((M + 1 : Nat) : Int) := by rw [w64_in (by omega)]; omega
  have e2 : mk ((M + 1 : Nat) : Int) ((M + 1 : Nat) : Int) = some () := by
    unfold mk
    simp only [leI_eq]
    rw [decide_eq_true (by omega), decide_eq_true (by omega), decide_eq_true (by omega)]
    rfl
  have e3 : getI (List.replicate (M + 1) (0 : Int)) 0 = some 0 := by
    unfold getI
    simp [leI_eq]
  have hc : r_impl_squareCounts 3 (M : Int) = some (sq3.take (M + 1)) := by
    simp only [r_impl_squareCounts, e2, Option.bind_some, e1, show Int.toNat ((M + 1 : Nat) : Int) = M + 1 by omega, e3, show Int.toNat (0 : Int) = 0 from rfl, hs]
  obtain ⟨v, hv⟩ : ∃ v, getI sq3 (M : Int) = some v := by
    have hl : sq3.length = 501 := by decide +kernel
    unfold getI
    rw [leI_eq, decide_eq_true (by omega), cond_true]
    exact ⟨sq3[M]'(by omega), by simp [hl]⟩
  refine ⟨v, hv, ?_⟩
  have hg : getI (sq3.take (M + 1)) (M : Int) = some v := by rw [getI_take (by omega) (by omega)]; exact hv
  simp only [r_impl_CountThree, r_impl_countSquares, r_impl_isSum, leI_eq, decide_eq_true (show (0 : Int) ≤ (M : Int) by omega), decide_eq_true (show (M : Int) ≤ 10000 by omega), cond_true, Option.bind_some, Bool.not_true, cond_false, hc, hg]
theorem raw_FnHurwitzSquares (code more : List Int) (h1 : ∀ x ∈ code, 0 ≤ x ∧ x ≤ 255) (h2 : ∀ x ∈ more, 0 ≤ x ∧ x ≤ 255) : r_laws_FnHurwitzSquares code more = some true := by
  rcases big_cases code more with hb | ⟨hb, l1, l2⟩
  · simp only [r_laws_FnHurwitzSquares, hb, Option.bind_some, cond_true]
  obtain ⟨u, e1, u1, u2⟩ := numberOf_ok l1 h1
  obtain ⟨v, e2, v1, v2⟩ := numberOf_ok l2 h2
  have e3 : w64 (7 * v) = 7 * v := w64_in (by omega)
  have e4 : w64 (u + 7 * v) = u + 7 * v := w64_in (by omega)
  have hx := tmod_range (x := u + 7 * v) (n := 500) (by omega) (by omega)
  have e5 : w64 (1 + (u + 7 * v).tmod 500) = 1 + (u + 7 * v).tmod 500 := w64_in (by omega)
  obtain ⟨M, hM⟩ := Int.eq_ofNat_of_zero_le (show 0 ≤ 1 + (u + 7 * v).tmod 500 by omega)
  have hM : 1 + (u + 7 * v).tmod 500 = (M : Int) := hM
  have m1 : 1 ≤ M := by omega
  have m2 : M ≤ 500 := by omega
  obtain ⟨x, g1, g2⟩ := three_val m1 m2
  obtain ⟨a, g3, g4⟩ := hNum (m := 4 * (M : Int)) (by omega) (by omega)
  obtain ⟨b, g5, g6⟩ := hNum (m := (M : Int)) (by omega) (by omega)
  have hc := sq_all (M : Int) (by omega) (by omega)
  unfold sqOk at hc
  rw [g1, g3, g5] at hc
  simp only at hc
  cases hs : r_spec_CountThree (M : Int) with
  | none => rw [hs] at hc; cases hc
  | some p =>
    obtain ⟨y, f⟩ := p
    rw [hs] at hc
    cases f with
    | false => cases hc
    | true =>
      simp only at hc
      cases q1 : eqI x y with
      | false => rw [q1] at hc; cases hc
      | true =>
        rw [q1, cond_true] at hc
        simp only [r_laws_FnHurwitzSquares, hb, Option.bind_some, cond_false, e1, e2, sI_eq, e3, e4, e5, hM, w64_in (n := (M : Int)) (by omega), g2, hs, w64_in (n := 4 * (M : Int)) (by omega), g4, g6, cond_true, q1, hc]
theorem law_FnHurwitzSquares (a0 : Option Addr) (len0 cap0 : Nat) (z0 : List Int) (a1 : Option Addr) (len1 cap1 : Nat) (z1 : List Int) (w : World) (w0 : IsRow .u8 w a0 len0 cap0 z0) (w1 : IsRow .u8 w a1 len1 cap1 z1) :
    Calls Try.prog 6 #[.slice a0 len0 cap0, .slice a1 len1 cap1] w fun e w' => e = .returned (.bool true) ∧ Below w.heap.size w w' :=
  calls_law (vs := [.slice a0 len0 cap0, .slice a1 len1 cap1]) (s_laws_FnHurwitzSquares (raw_FnHurwitzSquares (z0.take len0) (z1.take len1) (row_u8 w0) (row_u8 w1))) (relA_row w0 _ (fun _ => rfl) (relA_row w1 _ (fun _ => rfl) .nil))

namespace fnHurwitzSquares
open Go.ChangeShapes Go.WideShapes Go.ChangeAt Go.RowKit Go.Joins
open Go.ChangeMaps (open_string shut_string)
theorem own : ownKnob Try.prog.godebug = none := by kernel_rfl
theorem laidOut : laidOutB Try.prog = true := by kernel_rfl
set_option maxRecDepth 100000 in
theorem lifted (os : Os) (started : os.Started) (H : Type) (enc : TypeId × Value → H) :
    ReturnsInHanded {} Try.checked os 6 .any (Rows.fnHurwitzSquaresSpec.pre6 enc Try.prog Try.f6 Rows.fnHurwitzSquaresRow.domain false) (Rows.fnHurwitzSquaresSpec.post enc Try.prog Try.f6 false true false false) := by
  refine returnsInHanded_of_change (C := Try.checked) own started (by kernel_rfl) Try.func6
    (ChangeSpec.witness6 (enc := enc) (C := Try.checked) false ⟨#[], #[.slice none 0 0, .slice none 0 0], []⟩ 8 (by kernel_rfl) (by kernel_rfl) (by kernel_rfl) (by kernel_rfl)) ?_
  intro W base args ds gs before hval0 hW hcnd _
  have hval : ∀ (j : Nat) t v, Try.f6.params[j]? = some t → args[j]? = some v → Value.okWide Try.prog W .any base t v := hval0
  have hW' := hW
  obtain ⟨p, q, hA0, hV, rfl, hfz, hnd⟩ := hW
  have hA : DataW.TrodAll enc Try.prog W 0 (fun _ => true) true Try.f6.params.toList args.toList ds p := hA0
  rw [Try.params6] at hA hval
  obtain ⟨v0, vs0, d0, ds0, p0, q0, hargs, rfl, rfl, h0, r0⟩ := trodAll_cons hA
  obtain ⟨v1, vs1, d1, ds1, p1, q1, rfl, rfl, rfl, h1, r1⟩ := trodAll_cons r0
  obtain ⟨rfl, rfl, rfl⟩ := trodAll_nil r1
  obtain rfl : args = #[v0, v1] := by cases args; simp_all
  obtain ⟨rfl, rfl⟩ := trodVars_none hV
  have k0 := h0
  have lt0 : ∀ x ∈ p0, x.block < W.heap.size := by obtain ⟨m, hm⟩ := k0; exact DataW.trod_lt m _ _ _ hm
  obtain ⟨a0, len0, cap0, rfl⟩ := okWide_slice Try.underlying41 (hval 0 41 v0 rfl rfl)
  obtain ⟨z0, w0⟩ : ∃ zs, IsRow .u8 W a0 len0 cap0 zs := by
    obtain ⟨fuel, hf⟩ := h0
    rcases open_ints Try.underlying41 Try.underlying5 (by kernel_rfl) hf with ⟨hcs, _⟩ | ⟨x, l, c, zs, hcs, _, hl, hm, hz, _, hcell, hwz⟩
    · simp [Value.cells] at hcs
      obtain ⟨rfl, rfl, rfl⟩ := hcs
      exact ⟨[], .inl ⟨rfl, rfl, rfl, rfl⟩⟩
    · simp [Value.cells] at hcs
      obtain ⟨rfl, rfl, rfl⟩ := hcs
      exact ⟨zs, .inr ⟨_, rfl, hl, hm, by simpa using hz, hcell, hwz⟩⟩
  have k1 := h1
  have lt1 : ∀ x ∈ p1, x.block < W.heap.size := by obtain ⟨m, hm⟩ := k1; exact DataW.trod_lt m _ _ _ hm
  obtain ⟨a1, len1, cap1, rfl⟩ := okWide_slice Try.underlying41 (hval 1 41 v1 rfl rfl)
  obtain ⟨z1, w1⟩ : ∃ zs, IsRow .u8 W a1 len1 cap1 zs := by
    obtain ⟨fuel, hf⟩ := h1
    rcases open_ints Try.underlying41 Try.underlying5 (by kernel_rfl) hf with ⟨hcs, _⟩ | ⟨x, l, c, zs, hcs, _, hl, hm, hz, _, hcell, hwz⟩
    · simp [Value.cells] at hcs
      obtain ⟨rfl, rfl, rfl⟩ := hcs
      exact ⟨[], .inl ⟨rfl, rfl, rfl, rfl⟩⟩
    · simp [Value.cells] at hcs
      obtain ⟨rfl, rfl, rfl⟩ := hcs
      exact ⟨zs, .inr ⟨_, rfl, hl, hm, by simpa using hz, hcell, hwz⟩⟩
  clear hA0 hval0
  refine (law_FnHurwitzSquares a0 len0 cap0 z0 a1 len1 cap1 z1 W w0 w1).mono fun e W' ⟨he, bel⟩ => ?_
  subst he
  exact ⟨_, rfl, _, _, _, [], _, [], hW', trodAll_mk1 (shut_bool Try.underlying4 _), (trodAll_cons_mk (Below.trod laidOut (by kernel_rfl) (of_decide_eq_true (by kernel_rfl)) k0 bel lt0) (trodAll_cons_mk (Below.trod laidOut (by kernel_rfl) (of_decide_eq_true (by kernel_rfl)) k1 bel lt1) trodAll_mk0)), rfl, bel.frame _, fun h => by cases h⟩
set_option maxRecDepth 100000 in
set_option maxHeartbeats 4000000 in
theorem closed : joinedFacts Try.pinned.checked.prog 6 Try.f6 Rows.fnHurwitzSquaresSpec Rows.fnHurwitzSquaresRow = true := by
  simp only [joinedFacts, Bool.and_eq_true]
  repeat' apply And.intro
  all_goals as_aux_lemma => kernel_rfl
theorem over : Rows.fnHurwitzSquaresRow.holds Try.pinned (OpenSpec.ofChange Rows.fnHurwitzSquaresSpec) :=
  OpenClaim.holds_of_wide 6 Try.f6 rfl rfl rfl rfl rfl rfl rfl ⟨rfl, rfl, rfl, rfl, rfl⟩ rfl rfl rfl rfl rfl (by kernel_rfl) Try.func6 closed
    (of_decide_eq_true (by kernel_rfl)) (by unfold Func.isWrapper; first | (rw [if_pos (by decide +kernel)]; kernel_rfl) | (rw [if_neg (by decide +kernel)]; exact ⟨rfl, rfl⟩))
    (fun os started H enc _ => lifted os started H enc)
theorem proved : Rows.FnHurwitzSquaresSaid := over
#print axioms proved
end fnHurwitzSquares

end Go.Proofs.Ytdffhgibkeifmaa
