/-
  The program's FibreSize returns what the reference's returns, for all arguments.
  Conditions: none.
-/
import Derived.Test.YtdffhgibkeifmaaRise
import Derived.ProofKit
import Derived.OpenShut
import Derived.ShutString
import Derived.Lib.SmallJoins
namespace Go.Proofs.Ytdffhgibkeifmaa
open Go.RowKit
set_option linter.unusedSimpArgs false
set_option linter.unusedVariables false

def rootLoop : Nat → Nat → Int → Int → Bool
  | 0, _, _, _ => false
  | f + 1, b, d, n => if ((b : Int) * b - d).tmod (4 * n) = 0 then true else rootLoop f (b + 1) d n
def rootB (d n : Int) : Bool := rootLoop (2 * n).toNat 0 d n

theorem spec_vaHasRoot (d n : Int) (w : World) (d1 : -1000000 ≤ d) (d2 : d ≤ 1000000) (n1 : 1 ≤ n) (n2 : n ≤ 1000000) :
    Calls Try.prog 116 #[.int .i64 d, .int .i64 n] w fun e w' => e = .returned (.bool (rootB d n)) ∧ w = w' := by
  go_enter Try.func116, Try.ntmps116
  go_wp2
  go_loopg [5] (2 * n).toNat (fun f bb wr => w = wr ∧ ∃ b : Nat, bb = .int .i64 b ∧ (b : Int) + f = 2 * n ∧ Hid (rootB d n = rootLoop f b d n))
  case atStart => exact ⟨rfl, 0, rfl, by omega, rfl⟩
  case round =>
    obtain ⟨rfl, b, rfl, hf, hH⟩ := hrel
    have hbb : (b : Int) * b ≤ 2000000 * 2000000 := sq_le (M := 2000000) (by omega)
    have hb0 := sq_nonneg b
    have HF := Lib.hid hf
    by_cases hlt : (b : Int) < 2 * n
    · obtain ⟨f, rfl⟩ : ∃ f, gk = f + 1 := ⟨gk - 1, by omega⟩
      clear hf
      by_cases hz : ((b : Int) * b - d).tmod (4 * n) = 0
      · have hzb : (((b : Int) * b - d).tmod (4 * n) == 0) = true := by simp [hz]
        have HR : Hid (rootB d n = true) := by show _ = _; rw [hH.out]; simp only [rootLoop, if_pos hz]
        clear hz
        go_wp2_with fail
        go_ret
        exact ⟨ret_bool HR.out.symm, rfl⟩
      · have hzb : (((b : Int) * b - d).tmod (4 * n) == 0) = false := by simp [hz]
        have HR : Hid (rootB d n = rootLoop f (b + 1) d n) := by show _ = _; rw [hH.out]; simp only [rootLoop, if_neg hz]
        clear hz
        go_wp2_with fail
        go_roundg f
        case measure => omega
        case rel => exact ⟨rfl, b + 1, by go_num, by have := HF.out; omega, HR⟩
    · have HR : Hid (rootB d n = false) := by
        show _ = _
        rw [hH.out]
        have : gk = 0 := by omega
        subst this
        rfl
      clear hf
      go_wp2_with fail
      go_ret
      exact ⟨ret_bool HR.out.symm, rfl⟩

def odSym (d p : Int) : Int := if d.tmod p = 0 then 0 else if rootB d p then 1 else -1
theorem odSym_bd (d p : Int) : -1 ≤ odSym d p ∧ odSym d p ≤ 1 := by unfold odSym; split <;> (try split) <;> omega

theorem spec_odSymbol (d p : Int) (w : World) (d1 : -1000000 ≤ d) (d2 : d ≤ 1000000) (n1 : 1 ≤ p) (n2 : p ≤ 1000000) :
    Calls Try.prog 75 #[.int .i64 d, .int .i64 p] w fun e w' => e = .returned (.int .i64 (odSym d p)) ∧ w = w' := by
  by_cases hz : d.tmod p = 0
  · have hb : (d.tmod p == 0) = true := by simp [hz]
    have e1 : odSym d p = 0 := by simp [odSym, hz]
    rw [e1]
    clear hz e1
    go_enter Try.func75, Try.ntmps75
    go_wp2_with fail
    go_ret
    exact ⟨rfl, rfl⟩
  · have hb : (d.tmod p == 0) = false := by simp [hz]
    have e1 : odSym d p = if rootB d p then 1 else -1 := by simp [odSym, hz]
    rw [e1]
    clear hz e1
    cases hr : rootB d p
    all_goals
      go_enter Try.func75, Try.ntmps75
      go_wp2_with (go_at_call 116; (with_reducible refine (spec_vaHasRoot _ _ _ d1 d2 n1 n2).mono ?_); rintro e w' ⟨rfl, rfl⟩)
      go_ret
      exact ⟨rfl, rfl⟩

theorem units_bd (d : Int) : 2 ≤ unitsOf d ∧ unitsOf d ≤ 6 := by unfold unitsOf; split <;> (try split) <;> omega
theorem spec_odIndex (d : Int) (w : World) :
    Calls Try.prog 50 #[.int .i64 d] w fun e w' => e = .returned (.int .i64 (unitsOf d / 2)) ∧ w = w' := by
  obtain ⟨h0, h1⟩ := units_bd d
  go_enter Try.func50, Try.ntmps50
  go_wp2_with (go_at_call 94; (with_reducible refine (spec_reUnits _ _).mono ?_); rintro e w' ⟨rfl, rfl⟩)
  go_ret
  exact ⟨rfl, rfl⟩
theorem impl_automorphCount (d : Int) (w : World) (h : discB d = true) :
    Calls Try.prog 78 #[.int .i64 d] w fun e w' => e = .returned (.int .i64 (unitsOf d)) ∧ w = w' := by
  go_enter Try.func78, Try.ntmps78
  go_wp2_with (go_at_call 51; (with_reducible refine (impl_AutomorphCount _ _).mono ?_); rintro e w' ⟨rfl, rfl⟩)
  go_ret
  exact ⟨rfl, rfl⟩

def fibS (d p : Int) : Int := (p - odSym d p) / (unitsOf d / 2)
def fibI (d p : Int) : Int := (p - kroOf d p) * 2 / unitsOf d
def fibChk (d p : Int) : Bool := !riseB d p || decide (fibS d p = fibI d p)
theorem fib_all : ((List.range 24).all fun j => (List.range 498).all fun i => fibChk (-(i : Int) - 3) ((j : Int) + 2)) = true := by decide +kernel
theorem fib_eq {d p : Int} (h : riseB d p = true) : fibS d p = fibI d p := by
  obtain ⟨b1, b2, b3, b4, b5, b6, b7⟩ := rise_small h
  obtain ⟨e1, e2, e3⟩ := discB_iff.1 b7
  have hd : -500 ≤ d := by
    rcases Int.lt_or_le d (-500) with h5 | h5
    · exfalso
      have a1 : d * p ≤ d * 2 := Int.mul_le_mul_of_nonpos_left (by omega) b1
      have a2 : d * p * p ≤ d * 2 * p := Int.mul_le_mul_of_nonneg_right a1 (by omega)
      have a3 : d * 2 * p ≤ d * 2 * 2 := Int.mul_le_mul_of_nonpos_left (by omega) b1
      omega
    · exact h5
  have h1 := List.all_eq_true.1 fib_all (p - 2).toNat (List.mem_range.2 (by omega))
  have h2 := List.all_eq_true.1 h1 (-d - 3).toNat (List.mem_range.2 (by omega))
  have x1 : -(((-d - 3).toNat : Nat) : Int) - 3 = d := by omega
  have x2 : (((p - 2).toNat : Nat) : Int) + 2 = p := by omega
  rw [x1, x2, fibChk, h] at h2
  simpa using h2

theorem kroOf_bd : ∀ (f : Nat) (a : Int) (n : Nat) (s : Int), (s = 1 ∨ s = -1) → -1 ≤ kroGo f a n s ∧ kroGo f a n s ≤ 1
  | 0, a, n, s, h => pm_bd h (jacOf_bd a n)
  | f + 1, a, n, s, h => by
    simp only [kroGo]
    split
    · split
      · omega
      · exact kroOf_bd f a _ _ (pm_mul h (symTwo_bd a))
    · exact pm_bd h (jacOf_bd a n)
theorem kro_bd {a n : Int} (h : 1 ≤ n) : -1 ≤ kroOf a n ∧ kroOf a n ≤ 1 := by
  unfold kroOf
  rw [if_neg (by omega), if_neg (by omega)]
  exact kroOf_bd _ _ _ _ (Or.inl rfl)

theorem impl_kronecker_p (a p : Int) (w : World) (hn : 1 ≤ p) (hn2 : p ≤ 1000000) (ha1 : -1000000 ≤ a) (ha2 : a ≤ 1000000) :
    Calls Try.prog 77 #[.int .i64 a, .int .i64 p] w fun e w' => e = .returned (.int .i64 (kroOf a p)) ∧ w = w' := by
  obtain ⟨n, rfl⟩ := Int.eq_ofNat_of_zero_le (show 0 ≤ p by omega)
  exact impl_kronecker_pos a n w (by omega) (by omega) ha1 ha2

theorem spec_FibreSize (d p : Int) (w : World) :
    Calls Try.prog 32 #[.int .i64 d, .int .i64 p] w fun e w' => e = .returned (.tuple #[.int .i64 (if riseB d p then fibS d p else 0), .bool (riseB d p)]) ∧ w = w' := by
  cases hr : riseB d p
  · go_enter Try.func32, Try.ntmps32
    go_wp2_with (go_at_call 74; (with_reducible refine (spec_odUp _ _ _).mono ?_); rintro e w' ⟨rfl, rfl⟩)
    go_ret2
    exact ⟨rfl, rfl⟩
  · obtain ⟨b1, b2, b3, b4, b5, b6, b7⟩ := rise_small hr
    obtain ⟨s1, s2⟩ := odSym_bd d p
    obtain ⟨u1, u2⟩ := units_bd d
    clear b5 b6 b7
    go_enter Try.func32, Try.ntmps32
    go_wp2_with (first | (go_at_call 74; (with_reducible refine (spec_odUp _ _ _).mono ?_); rintro e w' ⟨rfl, rfl⟩) | (go_at_call 75; (with_reducible refine (spec_odSymbol _ _ _ (by omega) (by omega) (by omega) (by omega)).mono ?_); rintro e w' ⟨rfl, rfl⟩) | (go_at_call 50; (with_reducible refine (spec_odIndex _ _).mono ?_); rintro e w' ⟨rfl, rfl⟩))
    go_ret2
    exact ⟨rfl, rfl⟩

theorem impl_FibreSize (d p : Int) (w : World) :
    Calls Try.prog 33 #[.int .i64 d, .int .i64 p] w fun e w' => e = .returned (.tuple #[.int .i64 (if riseB d p then fibI d p else 0), .bool (riseB d p)]) ∧ Below w.heap.size w w' := by
  cases hd : discB d
  · have hr : riseB d p = false := by simp [riseB, hd]
    rw [hr]
    clear hr
    go_enter Try.func33, Try.ntmps33
    go_wp2_with (go_at_call 71; (with_reducible refine (impl_isNegativeDisc _ _).mono ?_); rintro e w' ⟨rfl, rfl⟩)
    go_ret2
    exact ⟨rfl, Below.refl _ _⟩
  · cases hr : riseB d p
    · go_enter Try.func33, Try.ntmps33
      go_wp2_with (first | (go_at_call 71; (with_reducible refine (impl_isNegativeDisc _ _).mono ?_); rintro e w' ⟨rfl, rfl⟩) | (go_at_call 76; (with_reducible refine (impl_canRise _ _ _ (by assumption)).mono ?_); rintro e w1 ⟨rfl, hb1⟩; obtain ⟨hc1, hf1, hz1⟩ := bcell hb1; (try simp at hz1); (try have hl1_0 : w.heap.size < w1.heap.size := by omega); (try have hl1_1 : w.heap.size + 1 < w1.heap.size := by omega); (try have hl1_2 : w.heap.size + 1 + 1 < w1.heap.size := by omega); (try have hl1_3 : w.heap.size + 1 + 1 + 1 < w1.heap.size := by omega); (try have hl1_4 : w.heap.size + 1 + 1 + 1 + 1 < w1.heap.size := by omega)))
      go_ret2
      refine ⟨rfl, ?_⟩
      repeat (first | exact Below.refl _ _ | assumption | refine Below.setCell ?_ (by first | omega | (simp; done) | (simp; omega)) _ | refine Below.alloc ?_ (by first | omega | (simp; done) | (simp; omega)) _ | refine Below.drew ?_ | refine below_drewN ?_ _ | refine Below.trans ?_ (Below.mono (by assumption) (by first | omega | (simp; done) | (simp; omega))))
    · obtain ⟨b1, b2, b3, b4, b5, b6, b7⟩ := rise_small hr
      obtain ⟨s1, s2⟩ := kro_bd (a := d) (n := p) (by omega)
      obtain ⟨u1, u2⟩ := units_bd d
      clear b5 b6 b7
      go_enter Try.func33, Try.ntmps33
      go_wp2_with (first | (go_at_call 71; (with_reducible refine (impl_isNegativeDisc _ _).mono ?_); rintro e w' ⟨rfl, rfl⟩) | (go_at_call 76; (with_reducible refine (impl_canRise _ _ _ (by assumption)).mono ?_); rintro e w1 ⟨rfl, hb1⟩; obtain ⟨hc1, hf1, hz1⟩ := bcell hb1; (try simp at hz1); (try have hl1_0 : w.heap.size < w1.heap.size := by omega); (try have hl1_1 : w.heap.size + 1 < w1.heap.size := by omega); (try have hl1_2 : w.heap.size + 1 + 1 < w1.heap.size := by omega); (try have hl1_3 : w.heap.size + 1 + 1 + 1 < w1.heap.size := by omega); (try have hl1_4 : w.heap.size + 1 + 1 + 1 + 1 < w1.heap.size := by omega)) | (go_at_call 77; (with_reducible refine (impl_kronecker_p _ _ _ (by omega) (by omega) (by omega) (by omega)).mono ?_); rintro e w' ⟨rfl, rfl⟩) | (go_at_call 78; (with_reducible refine (impl_automorphCount _ _ (by assumption)).mono ?_); rintro e w' ⟨rfl, rfl⟩))
      go_ret2
      refine ⟨rfl, ?_⟩
      repeat (first | exact Below.refl _ _ | assumption | refine Below.setCell ?_ (by first | omega | (simp; done) | (simp; omega)) _ | refine Below.alloc ?_ (by first | omega | (simp; done) | (simp; omega)) _ | refine Below.drew ?_ | refine below_drewN ?_ _ | refine Below.trans ?_ (Below.mono (by assumption) (by first | omega | (simp; done) | (simp; omega))))

theorem law_FibreSize (d p : Int) (w : World) :
    Calls Try.prog 8 #[.int .i64 d, .int .i64 p] w fun e w' => e = .returned (.bool true) ∧ Below w.heap.size w w' := by
  cases hr : riseB d p
  · go_enter Try.func8, Try.ntmps8
    go_wp2_with (first | (go_at_call 32; (with_reducible refine (spec_FibreSize _ _ _).mono ?_); rintro e w' ⟨rfl, rfl⟩) | (go_at_call 33; (with_reducible refine (impl_FibreSize _ _ _).mono ?_); rintro e w1 ⟨rfl, hb1⟩; obtain ⟨hc1, hf1, hz1⟩ := bcell hb1; (try simp at hz1); (try have hl1_0 : w.heap.size < w1.heap.size := by omega); (try have hl1_1 : w.heap.size + 1 < w1.heap.size := by omega); (try have hl1_2 : w.heap.size + 1 + 1 < w1.heap.size := by omega); (try have hl1_3 : w.heap.size + 1 + 1 + 1 < w1.heap.size := by omega); (try have hl1_4 : w.heap.size + 1 + 1 + 1 + 1 < w1.heap.size := by omega)))
    go_ret
    refine ⟨rfl, ?_⟩
    repeat (first | exact Below.refl _ _ | assumption | refine Below.setCell ?_ (by first | omega | (simp; done) | (simp; omega)) _ | refine Below.alloc ?_ (by first | omega | (simp; done) | (simp; omega)) _ | refine Below.drew ?_ | refine below_drewN ?_ _ | refine Below.trans ?_ (Below.mono (by assumption) (by first | omega | (simp; done) | (simp; omega))))
  · have he := fib_eq hr
    go_enter Try.func8, Try.ntmps8
    go_wp2_with (first | (go_at_call 32; (with_reducible refine (spec_FibreSize _ _ _).mono ?_); rintro e w' ⟨rfl, rfl⟩) | (go_at_call 33; (with_reducible refine (impl_FibreSize _ _ _).mono ?_); rintro e w1 ⟨rfl, hb1⟩; obtain ⟨hc1, hf1, hz1⟩ := bcell hb1; (try simp at hz1); (try have hl1_0 : w.heap.size < w1.heap.size := by omega); (try have hl1_1 : w.heap.size + 1 < w1.heap.size := by omega); (try have hl1_2 : w.heap.size + 1 + 1 < w1.heap.size := by omega); (try have hl1_3 : w.heap.size + 1 + 1 + 1 < w1.heap.size := by omega); (try have hl1_4 : w.heap.size + 1 + 1 + 1 + 1 < w1.heap.size := by omega)))
    go_ret
    refine ⟨rfl, ?_⟩
    repeat (first | exact Below.refl _ _ | assumption | refine Below.setCell ?_ (by first | omega | (simp; done) | (simp; omega)) _ | refine Below.alloc ?_ (by first | omega | (simp; done) | (simp; omega)) _ | refine Below.drew ?_ | refine below_drewN ?_ _ | refine Below.trans ?_ (Below.mono (by assumption) (by first | omega | (simp; done) | (simp; omega))))

namespace fnExactFibreSize
open Go.ChangeShapes Go.WideShapes Go.ChangeAt Go.RowKit Go.Joins
open Go.ChangeMaps (open_string shut_string)
theorem own : ownKnob Try.prog.godebug = none := by kernel_rfl
theorem laidOut : laidOutB Try.prog = true := by kernel_rfl
set_option maxRecDepth 100000 in
theorem lifted (os : Os) (started : os.Started) (H : Type) (enc : TypeId × Value → H) :
    ReturnsInHanded {} Try.checked os 8 .any (Rows.fnExactFibreSizeSpec.pre6 enc Try.prog Try.f8 Rows.fnExactFibreSizeRow.domain false) (Rows.fnExactFibreSizeSpec.post enc Try.prog Try.f8 false true false false) := by
  refine returnsInHanded_of_change (C := Try.checked) own started (by kernel_rfl) Try.func8
    (ChangeSpec.witness6 (enc := enc) (C := Try.checked) false ⟨#[], #[.int .i64 0, .int .i64 0], []⟩ 8 (by kernel_rfl) (by kernel_rfl) (by kernel_rfl) (by kernel_rfl)) ?_
  intro W base args ds gs before hval0 hW hcnd _
  have hval : ∀ (j : Nat) t v, Try.f8.params[j]? = some t → args[j]? = some v → Value.okWide Try.prog W .any base t v := hval0
  have hW' := hW
  obtain ⟨p, q, hA0, hV, rfl, hfz, hnd⟩ := hW
  have hA : DataW.TrodAll enc Try.prog W 0 (fun _ => true) true Try.f8.params.toList args.toList ds p := hA0
  rw [Try.params8] at hA hval
  obtain ⟨v0, vs0, d0, ds0, p0, q0, hargs, rfl, rfl, h0, r0⟩ := trodAll_cons hA
  obtain ⟨v1, vs1, d1, ds1, p1, q1, rfl, rfl, rfl, h1, r1⟩ := trodAll_cons r0
  obtain ⟨rfl, rfl, rfl⟩ := trodAll_nil r1
  obtain rfl : args = #[v0, v1] := by cases args; simp_all
  obtain ⟨rfl, rfl⟩ := trodVars_none hV
  have k0 := h0
  have lt0 : ∀ x ∈ p0, x.block < W.heap.size := by obtain ⟨m, hm⟩ := k0; exact DataW.trod_lt m _ _ _ hm
  obtain ⟨a0, rfl, _, _, w0⟩ := open_int Try.underlying3 (hval 0 3 v0 rfl rfl) h0
  have k1 := h1
  have lt1 : ∀ x ∈ p1, x.block < W.heap.size := by obtain ⟨m, hm⟩ := k1; exact DataW.trod_lt m _ _ _ hm
  obtain ⟨a1, rfl, _, _, w1⟩ := open_int Try.underlying3 (hval 1 3 v1 rfl rfl) h1
  clear hA0 hval0
  refine (law_FibreSize a0 a1 W).mono fun e W' ⟨he, bel⟩ => ?_
  subst he
  exact ⟨_, rfl, _, _, _, [], _, [], hW', trodAll_mk1 (shut_bool Try.underlying4 _), (trodAll_cons_mk (Below.trod laidOut (by kernel_rfl) (of_decide_eq_true (by kernel_rfl)) k0 bel lt0) (trodAll_cons_mk (Below.trod laidOut (by kernel_rfl) (of_decide_eq_true (by kernel_rfl)) k1 bel lt1) trodAll_mk0)), rfl, bel.frame _, fun h => by cases h⟩
theorem over : Rows.fnExactFibreSizeRow.holds Try.pinned (OpenSpec.ofChange Rows.fnExactFibreSizeSpec) :=
  OpenClaim.holds_of_wide 8 Try.f8 rfl rfl rfl rfl rfl rfl rfl ⟨rfl, rfl, rfl, rfl, rfl⟩ rfl rfl rfl rfl rfl (by kernel_rfl) Try.func8 (by kernel_rfl)
    (of_decide_eq_true (by kernel_rfl)) (by unfold Func.isWrapper; first | (rw [if_pos (by decide +kernel)]; kernel_rfl) | (rw [if_neg (by decide +kernel)]; exact ⟨rfl, rfl⟩))
    (fun os started H enc _ => lifted os started H enc)
theorem proved : Rows.FnExactFibreSizeSaid := over
#print axioms proved
end fnExactFibreSize

end Go.Proofs.Ytdffhgibkeifmaa
