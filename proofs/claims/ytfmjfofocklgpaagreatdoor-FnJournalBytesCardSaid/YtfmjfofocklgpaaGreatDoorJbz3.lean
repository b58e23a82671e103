/-
  Rules of walks, plain functions and their laws, part 3.
  Conditions: none.
-/
import Derived.Test.YtfmjfofocklgpaaGreatDoorJbz2
set_option linter.unusedSimpArgs false
set_option linter.unusedVariables false
namespace Go.Proofs.YtfmjfofocklgpaaGreatDoor
open Go.Lib
def kW : Int → List UInt8
 | 1 => [97, 100, 100]
 | 2 => [100, 114, 111, 112]
 | 3 => [109, 117, 108]
 | 4 => [105, 110, 118]
 | 5 => [109, 111, 118, 101]
 | _ => []
def oW (a : List UInt8) : List (List UInt8) := if a = [] then [] else [a]
def oB (A : ByteArray) : List ByteArray := if A = emp then [] else [A]
theorem oB_bl (a : List UInt8) : oB (bl a) = (oW a).map bl := by
 unfold oB oW
 by_cases h : a = []
 ·subst h; rfl
 ·have h2 : bl a ≠ emp := fun e => h (zDX (show bl a = bl [] from e))
  rw [if_neg h, if_neg h2]
  rfl
theorem ct_val {k : Int} {n a b : List UInt8} {f : Int × Int × Int} (hk : getI ([(⟨#[97, 100, 100]⟩ : ByteArray), (⟨#[100, 114, 111, 112]⟩ : ByteArray), (⟨#[109, 117, 108]⟩ : ByteArray), (⟨#[105, 110, 118]⟩ : ByteArray), (⟨#[109, 111, 118, 101]⟩ : ByteArray)] : List ByteArray) (w64 (k - 1)) = some (bl (kW k)))
  (hn : n.length ≤ 100) (ha : a.length ≤ 100) (hb : b.length ≤ 100) (hf : f = (0, 0, 0) ∨ (FB f ∧ f ≠ (0, 0, 0))) (hkw : (kW k).length ≤ 10) :
  qK (k, bl n, bl a, bl b, f) = some (bl (jn 32 ([kW k, n] ++ oW a ++ oW b ++ (if f = (0, 0, 0) then [] else [fB f])))) := by
 unfold qK
 rw [hk]
 simp only [Option.bind_some, qA]
 rw [show ((([bl a, bl b] : List ByteArray).length : Nat) : Int) = 2 from rfl, ct_loop _ _ (by simp)]
 have e0 : ([bl (kW k), bl n] ++ (if bl a = emp then [] else [bl a]) ++ (if bl b = emp then [] else [bl b])) = ([kW k, n] ++ oW a ++ oW b).map bl := by
  have h1 := oB_bl a
  have h2 := oB_bl b
  unfold oB at h1 h2
  rw [h1, h2]
  simp
 simp only [e0, Option.bind_some, zero3]
 have hlen : ([kW k, n] ++ oW a ++ oW b).length ≤ 4 := by
  have h1 : (oW a).length ≤ 1 := by unfold oW; split <;> simp
  have h2 : (oW b).length ≤ 1 := by unfold oW; split <;> simp
  simp
  omega
 have hws : ∀ w ∈ [kW k, n] ++ oW a ++ oW b, w.length ≤ 1000 := by
  intro w hw
  simp only [List.mem_append, List.mem_cons, List.not_mem_nil, or_false] at hw
  unfold oW at hw
  rcases hw with ((rfl | rfl) | hw) | hw
  ·omega
  ·omega
  ·split at hw
   ·cases hw
   ·simp at hw; subst hw; omega
  ·split at hw
   ·cases hw
   ·simp at hw; subst hw; omega
 generalize hW : [kW k, n] ++ oW a ++ oW b = W at hlen hws
 have hne : W ≠ [] := by rw [← hW]; simp
 rcases hf with rfl | ⟨hf, hf0⟩
 ·rw [decide_eq_true rfl, if_pos rfl, List.append_nil]
  simp only [Bool.not_true, cond_false, Option.bind_some]
  rw [join_val W hne (by omega) hws]
  rfl
 ·rw [decide_eq_false hf0, if_neg hf0]
  have hl := fB_len (zEA hf.1) (zEA hf.2.1) (zEA hf.2.2)
  simp only [Bool.not_false, cond_true, zHk (zEA hf.1) (zEA hf.2.1) (zEA hf.2.2), Option.bind_some]
  rw [zCA (by simp; omega), Option.bind_some, Option.bind_some]
  have e1 : W.map bl ++ [bl (fB f)] = (W ++ [fB f]).map bl := by simp
  rw [e1, join_val (W ++ [fB f]) (by simp) (by simp; omega) (fun w hw => by
   simp only [List.mem_append, List.mem_cons, List.not_mem_nil, or_false] at hw
   rcases hw with hw | rfl
   ·exact hws w hw
   ·omega)]
  rfl
theorem jn_snoc (c : UInt8) : ∀ (ws : List (List UInt8)) (x : List UInt8), ws ≠ [] → jn c (ws ++ [x]) = jn c ws ++ c :: x
 | [], x, h => absurd rfl h
 | [w], x, _ => rfl
 | w :: v :: ws, x, _ => by
  have h := jn_snoc c (v :: ws) x (by simp)
  show jn c (w :: ((v :: ws) ++ [x])) = _
  rw [zGl c w (ws := (v :: ws) ++ [x]) (by simp), h, zGl c w (ws := v :: ws) (by simp)]
  simp
def lgL : List ByteArray := [(⟨#[]⟩ : ByteArray), (⟨#[97, 100, 100]⟩ : ByteArray), (⟨#[100, 114, 111, 112]⟩ : ByteArray), (⟨#[109, 117, 108]⟩ : ByteArray), (⟨#[105, 110, 118]⟩ : ByteArray), (⟨#[109, 111, 118, 101]⟩ : ByteArray)]
theorem lgW : zD6 = some lgL := rfl
theorem lt_val {k : Int} {n a b : List UInt8} {f : Int × Int × Int} (hk : getI lgL k = some (bl (kW k)))
  (hn : n.length ≤ 100) (ha : a.length ≤ 100) (hb : b.length ≤ 100) (hf : FB f) (hkw : (kW k).length ≤ 10) :
  qY (k, bl n, bl a, bl b, f) = some (bl (jn 32 ([kW k, n] ++ oW a ++ oW b ++ (if k = 1 ∨ k = 5 then [fB f] else [])))) := by
 have hl := fB_len (zEA hf.1) (zEA hf.2.1) (zEA hf.2.2)
 unfold qY zA7
 rw [lgW, Option.bind_some, hk]
 have e32 : (⟨#[32]⟩ : ByteArray) = bl [32] := rfl
 have e00 : (⟨#[]⟩ : ByteArray) = bl [] := rfl
 simp only [Option.bind_some, e32, e00]
 rw [zCu (by simp; omega), Option.bind_some, zBW, zCu (by simp; omega), Option.bind_some, zBW]
 have j0 : kW k ++ [32] ++ n = jn 32 [kW k, n] := by simp [jn]
 rw [j0]
 have step : ∀ (W : List (List UInt8)) (a : List UInt8) (g : ByteArray → Option ByteArray), W ≠ [] → (jn 32 W).length ≤ 1000 → a.length ≤ 100 →
   ((bif (!((bl a).toList == (bl []).toList)) then ((catR (bl [32]) (bl a)).bind fun u9 => (catR (bl (jn 32 W)) (bl [32] ++ bl a)).bind fun u10 => some (bl (jn 32 W) ++ (bl [32] ++ bl a))) else some (bl (jn 32 W))).bind g) = g (bl (jn 32 (W ++ oW a))) := by
  intro W a g hW hWl ha
  rw [eqS]
  by_cases h : a = []
  ·subst h
   rw [decide_eq_true rfl, Bool.not_true, cond_false, Option.bind_some]
   simp [oW]
  ·rw [decide_eq_false (fun e => h (zDX e)), Bool.not_false, cond_true, zCu (by simp; omega), Option.bind_some, zBW, zCu (by simp; omega), Option.bind_some, zBW, Option.bind_some]
   have e : jn 32 W ++ ([32] ++ a) = jn 32 (W ++ oW a) := by
    unfold oW
    rw [if_neg h, jn_snoc 32 W a hW]
    rfl
   rw [e]
 have h2 : (jn 32 [kW k, n]).length ≤ 111 := by simp [jn]; omega
 have h3 : (jn 32 ([kW k, n] ++ oW a)).length ≤ 212 := by
  unfold oW
  split
  ·simp [jn]; omega
  ·simp [jn]; omega
 have h4 : (jn 32 ([kW k, n] ++ oW a ++ oW b)).length ≤ 313 := by
  unfold oW
  split <;> split <;> simp [jn] <;> omega
 rw [step _ a _ (by simp) (by omega) ha, step _ b _ (by simp) (by omega) hb]
 by_cases hkf : k = 1 ∨ k = 5
 ·have e : (bif eqI k 1 then true else eqI k 5) = true := by
   rcases hkf with rfl | rfl <;> rfl
  rw [e, if_pos hkf, cond_true, foText_eq (zEA hf.1) (zEA hf.2.1) (zEA hf.2.2), Option.bind_some, zCu (by simp only [List.length_append, List.length_cons, List.length_nil]; omega), Option.bind_some, zBW, zCu (by simp only [List.length_append, List.length_cons, List.length_nil]; omega), Option.bind_some, zBW, jn_snoc 32 _ _ (by simp)]
  rfl
 ·have e : (bif eqI k 1 then true else eqI k 5) = false := by
   rw [eqNe (by omega), eqNe (by omega)]
   rfl
  rw [e, if_neg hkf, cond_false, List.append_nil]
def kOf (w : ByteArray) : Int := if (⟨#[109, 111, 118, 101]⟩ : ByteArray) = w then 5 else if (⟨#[105, 110, 118]⟩ : ByteArray) = w then 4 else if (⟨#[109, 117, 108]⟩ : ByteArray) = w then 3 else if (⟨#[100, 114, 111, 112]⟩ : ByteArray) = w then 2 else if (⟨#[97, 100, 100]⟩ : ByteArray) = w then 1 else 0
theorem kOf_map (w : ByteArray) : mAt w (mPut (⟨#[109, 111, 118, 101]⟩ : ByteArray) (5 : Int) (mPut (⟨#[105, 110, 118]⟩ : ByteArray) 4 (mPut (⟨#[109, 117, 108]⟩ : ByteArray) 3 (mPut (⟨#[100, 114, 111, 112]⟩ : ByteArray) 2 (mPut (⟨#[97, 100, 100]⟩ : ByteArray) 1 []))))) 0 = kOf w := by
 have e : (mPut (⟨#[109, 111, 118, 101]⟩ : ByteArray) (5 : Int) (mPut (⟨#[105, 110, 118]⟩ : ByteArray) 4 (mPut (⟨#[109, 117, 108]⟩ : ByteArray) 3 (mPut (⟨#[100, 114, 111, 112]⟩ : ByteArray) 2 (mPut (⟨#[97, 100, 100]⟩ : ByteArray) 1 []))))) = [((⟨#[97, 100, 100]⟩ : ByteArray), (1 : Int)), (⟨#[100, 114, 111, 112]⟩, 2), (⟨#[109, 117, 108]⟩, 3), (⟨#[105, 110, 118]⟩, 4), (⟨#[109, 111, 118, 101]⟩, 5)] := by decide +kernel
 rw [e]
 by_cases h1 : w = ⟨#[97, 100, 100]⟩
 ·subst h1; decide +kernel
 ·by_cases h2 : w = ⟨#[100, 114, 111, 112]⟩
  ·subst h2; decide +kernel
  ·by_cases h3 : w = ⟨#[109, 117, 108]⟩
   ·subst h3; decide +kernel
   ·by_cases h4 : w = ⟨#[105, 110, 118]⟩
    ·subst h4; decide +kernel
    ·by_cases h5 : w = ⟨#[109, 111, 118, 101]⟩
     ·subst h5; decide +kernel
     ·unfold kOf
      rw [if_neg (fun e => h5 e.symm), if_neg (fun e => h4 e.symm), if_neg (fun e => h3 e.symm), if_neg (fun e => h2 e.symm), if_neg (fun e => h1 e.symm)]
      simp [mAt, mGet, ixM, h1, h2, h3, h4, h5]
theorem zF4 {e6 vs : ByteArray} {y2 : List ByteArray} {w : ByteArray} (hw : getI y2 0 = some w) (n t : Nat) (ht : t < 6) (f : Int) {u : ByteArray} (hu : getI lgL (t : Int) = some u) : jP e6 vs y2 lgL (n + 1) (t : Int) f = jP e6 vs y2 lgL n ((t + 1 : Nat) : Int) (if 0 < t ∧ u = w then (t : Int) else f) := by
 conv => lhs; unfold jP
 rw [zP, show ((lgL.length : Nat) : Int) = 6 from rfl, decide_eq_true (by omega), cond_true]
 simp only [hu, hw, Option.bind_some, eqS, qA, zP]
 rw [zCC (by omega)]
 by_cases h0 : 0 < t
 ·rw [decide_eq_true (by omega), cond_true, Option.bind_some]
  by_cases hu2 : u = w
  ·rw [decide_eq_true hu2, if_pos ⟨h0, hu2⟩, cond_true]
  ·rw [decide_eq_false hu2, if_neg (fun h => hu2 h.2), cond_false]
 ·rw [decide_eq_false (by omega), cond_false, Option.bind_some, cond_false, if_neg (fun h => h0 h.1)]
theorem kind_val {e6 vs : ByteArray} {y2 : List ByteArray} {w : ByteArray} (hw : getI y2 0 = some w) : jP e6 vs y2 lgL FU 0 0 = some (kOf w) := by
 obtain ⟨m, hm⟩ : ∃ m, FU = m + 7 := ⟨FU - 7, by decide⟩
 rw [hm]
 have s0 := zF4 (e6 := e6) (vs := vs) hw (m + 6) 0 (by omega) 0 (u := ⟨#[]⟩) rfl
 have s0 : jP e6 vs y2 lgL (m + 7) 0 0 = _ := s0
 rw [s0, zF4 hw (m + 5) 1 (by omega) _ (u := ⟨#[97, 100, 100]⟩) rfl, zF4 hw (m + 4) 2 (by omega) _ (u := ⟨#[100, 114, 111, 112]⟩) rfl, zF4 hw (m + 3) 3 (by omega) _ (u := ⟨#[109, 117, 108]⟩) rfl, zF4 hw (m + 2) 4 (by omega) _ (u := ⟨#[105, 110, 118]⟩) rfl, zF4 hw (m + 1) 5 (by omega) _ (u := ⟨#[109, 111, 118, 101]⟩) rfl]
 unfold jP
 rw [show ltI ((5 + 1 : Nat) : Int) ((lgL.length : Nat) : Int) = false from rfl, cond_false]
 unfold kOf
 simp
theorem zL3 {e8 vs : ByteArray} {f9 : Int} {y2 : List ByteArray} {T n : Nat} {f13 f14 f15 : Int} {f16 f17 : ByteArray} : zQ e8 f9 (T : Int) vs y2 (n + 1) (T : Int) f13 f14 f15 f16 f17 = some (f16, f17, f13, f14, f15) := by
 unfold zQ
 rw [zP, decide_eq_false (by omega), cond_false]
theorem pl_form {e8 vs : ByteArray} {f9 : Int} {y2 : List ByteArray} {T n t : Nat} {f13 f14 f15 : Int} {f16 f17 w : ByteArray} (hk : f9 = 1 ∨ f9 = 5) (ht : t < T) (hT : T ≤ 100000000) (hg : getI (subl y2 2 (y2.length : Int)) (t : Int) = some w) {r : (Int × Int × Int) × Bool} (hr : zAa w = some r) :
  zQ e8 f9 (T : Int) vs y2 (n + 1) (t : Int) f13 f14 f15 f16 f17 = zQ e8 f9 (T : Int) vs y2 n ((t + 1 : Nat) : Int) r.1.1 r.1.2.1 r.1.2.2 f16 f17 := by
 have e : (bif eqI f9 1 then true else eqI f9 5) = true := by
  rcases hk with rfl | rfl <;> rfl
 conv => lhs; unfold zQ
 rw [zP, decide_eq_true (by omega), cond_true]
 simp only [hg, Option.bind_some, e, cond_true, hr, qA]
 rw [zCC (by omega)]
theorem pl_A {e8 vs : ByteArray} {f9 : Int} {y2 : List ByteArray} {T n t : Nat} {f13 f14 f15 : Int} {f16 f17 w : ByteArray} (hk : ¬ (f9 = 1 ∨ f9 = 5)) (ht : t < T) (hT : T ≤ 100000000) (hg : getI (subl y2 2 (y2.length : Int)) (t : Int) = some w) :
  zQ e8 f9 (T : Int) vs y2 (n + 1) (t : Int) f13 f14 f15 f16 f17 = if f16 = emp then zQ e8 f9 (T : Int) vs y2 n ((t + 1 : Nat) : Int) f13 f14 f15 w f17 else zQ e8 f9 (T : Int) vs y2 n ((t + 1 : Nat) : Int) f13 f14 f15 f16 w := by
 have e : (bif eqI f9 1 then true else eqI f9 5) = false := by
  rw [eqNe (by omega), eqNe (by omega)]
  rfl
 conv => lhs; unfold zQ
 rw [zP, decide_eq_true (by omega), cond_true]
 simp only [hg, Option.bind_some, e, cond_false, eqS, qA, show (⟨#[]⟩ : ByteArray) = emp from rfl]
 rw [zCC (by omega)]
 by_cases h : f16 = emp
 ·rw [decide_eq_true h, if_pos h, cond_true]
 ·rw [decide_eq_false h, if_neg h, cond_false]
theorem split_all {ws : List (List UInt8)} (h1 : ws ≠ []) (h2 : ∀ w ∈ ws, ∀ b ∈ w, b ≠ 32) : spl 32 (bl (jn 32 ws)).data.toList = ws := by
 rw [zBX, spl_jn 32 ws h1 h2]
structure CW (ws : List (List UInt8)) : Prop where
  two : 2 ≤ ws.length
  four : ws.length ≤ 4
  len : ∀ w ∈ ws, w.length ≤ 100
  sep : ∀ w ∈ ws, ∀ b ∈ w, b ≠ 32 ∧ b ≠ 35 ∧ b ≠ 10
  sz : (jn 32 ws).length ≤ 42
theorem CW.size {ws : List (List UInt8)} (h : CW ws) : (jn 32 ws).length ≤ 500 := by
 obtain ⟨h1, h2, h3, _, _⟩ := h
 match ws, h1, h2 with
 | [a, b], _, _ =>
  have := h3 a (by simp); have := h3 b (by simp)
  simp [jn]; omega
 | [a, b, c], _, _ =>
  have := h3 a (by simp); have := h3 b (by simp); have := h3 c (by simp)
  simp [jn]; omega
 | [a, b, c, d], _, _ =>
  have := h3 a (by simp); have := h3 b (by simp); have := h3 c (by simp); have := h3 d (by simp)
  simp [jn]; omega
theorem jn_mem (c : UInt8) : ∀ (ws : List (List UInt8)) (b : UInt8), b ∈ jn c ws → b = c ∨ ∃ w ∈ ws, b ∈ w
 | [], b, h => by cases h
 | [w], b, h => .inr ⟨w, by simp, h⟩
 | w :: v :: ws, b, h => by
  rw [zGl c w (ws := v :: ws) (by simp), List.mem_append, List.mem_cons] at h
  rcases h with h | h | h
  ·exact .inr ⟨w, by simp, h⟩
  ·exact .inl h
  ·rcases jn_mem c (v :: ws) b h with h | ⟨x, hx, h⟩
   ·exact .inl h
   ·exact .inr ⟨x, List.mem_cons_of_mem _ hx, h⟩
theorem CW.byte {ws : List (List UInt8)} (h : CW ws) : ∀ b ∈ jn 32 ws, b ≠ 35 ∧ b ≠ 10 := by
 intro b hb
 rcases jn_mem 32 ws b hb with rfl | ⟨w, hw, hb⟩
 ·decide
 ·exact (h.sep w hw b hb).2
theorem pc_of {ws : List (List UInt8)} (hw : CW ws) {c : Cmd} (hc : cmdB c = true) (hz : c.2.1.size ≤ 100 ∧ c.2.2.1.size ≤ 100 ∧ c.2.2.2.1.size ≤ 100) (ht : qK c = some (bl (jn 32 ws))) {n : List UInt8} {rest : List (List UInt8)} (h0 : ws = kW c.1 :: n :: rest) (hk : kOf (bl (kW c.1)) = c.1) (hn : c.2.1 = bl n)
  (hL : ∀ s, zQ (bl n) c.1 (rest.length : Int) s (ws.map bl) FU 0 0 0 0 ByteArray.empty ByteArray.empty = some (c.2.2.1, c.2.2.2.1, c.2.2.2.2)) : qX (bl (jn 32 ws)) = some (c, true) := by
 have hsz := hw.size
 have h4 := hw.four
 unfold qX
 have hsp : zBS (bl (jn 32 ws)) ⟨#[32]⟩ = some (ws.map bl) := by
  rw [split_val _ 32 (by rw [jI]; omega), split_all (by rw [h0]; simp) fun w hx b hb => (hw.sep w hx b hb).1]
 rw [hsp]
 have hl : ((ws.map bl).length : Int) = ((rest.length + 2 : Nat) : Int) := by rw [h0]; simp; omega
 have hr : rest.length ≤ 2 := by rw [h0] at h4; simp at h4; omega
 have g0 : getI (ws.map bl) 0 = some (bl (kW c.1)) := by rw [h0]; rfl
 have g1 : getI (ws.map bl) 1 = some (bl n) := by rw [h0]; rfl
 have hsl : slc (ws.map bl).length 2 ((ws.map bl).length : Int) = some () := zEk (l := 2) (by rw [h0]; simp) (Nat.le_refl _)
 have hsub : ((subl (ws.map bl) 2 ((ws.map bl).length : Int)).length : Int) = (rest.length : Int) := by
  unfold subl
  rw [h0]
  simp
  omega
 simp only [Option.bind_some, kOf_map]
 rw [zP, hl, decide_eq_false (by omega), cond_false, g0, g1]
 simp only [Option.bind_some, qA]
 rw [← hl, hsl, hsub, hk]
 simp only [Option.bind_some, qA]
 rw [hL]
 simp only [Option.bind_some]
 have ec : (c.1, bl n, c.2.2.1, c.2.2.2.1, c.2.2.2.2) = c := by
  rw [← hn]
 rw [ec, (zCd c (by omega) (by omega) (by omega)).1, hc]
 simp only [Option.bind_some, Bool.not_true, cond_false, ht, eqS, decide_true]
theorem lr_of {ws : List (List UInt8)} (hw : CW ws) {c : Cmd} (hc : cmdB c = true) (hz : c.2.1.size ≤ 100 ∧ c.2.2.1.size ≤ 100 ∧ c.2.2.2.1.size ≤ 100) (ht : qY c = some (bl (jn 32 ws))) {n : List UInt8} {rest : List (List UInt8)} (h0 : ws = kW c.1 :: n :: rest) (hk : kOf (bl (kW c.1)) = c.1) (hn : c.2.1 = bl n)
  (hr : ((c.1 = 1 ∨ c.1 = 5) ∧ c.2.2.1 = emp ∧ c.2.2.2.1 = emp ∧ FB c.2.2.2.2 ∧ rest = [fB c.2.2.2.2]) ∨ (¬ (c.1 = 1 ∨ c.1 = 5) ∧ c.2.2.2.2 = (0, 0, 0) ∧ ((rest = [] ∧ c.2.2.1 = emp ∧ c.2.2.2.1 = emp) ∨ (∃ a, rest = [a] ∧ c.2.2.1 = bl a ∧ c.2.2.2.1 = emp) ∨ (∃ a b, rest = [a, b] ∧ c.2.2.1 = bl a ∧ c.2.2.2.1 = bl b)))) :
  zBH (bl (jn 32 ws)) = some (c, true) := by
 have hsz := hw.size
 have h4 := hw.four
 have h2 := hw.two
 have hsp : zBd (bl (jn 32 ws)) 32 = some (ws.map bl) := by
  have := zHh (bl (jn 32 ws)) 32 (by rw [jI]; omega)
  rw [split_all (by rw [h0]; simp) fun w hx b hb => (hw.sep w hx b hb).1] at this
  exact this
 have g0 : getI (ws.map bl) 0 = some (bl (kW c.1)) := by rw [h0]; rfl
 have g1 : getI (ws.map bl) 1 = some (bl n) := by rw [h0]; rfl
 have hin : jQ (((ws.map bl).length : Nat) : Int) 2 4 = some true := by
  unfold jQ
  rw [List.length_map, q9, q9, decide_eq_true (by omega), decide_eq_true (by omega)]
  rfl
 have last : ∀ c' : Cmd, c' = c → ((jX c').bind fun y37 => (bif (!y37) then some true else ((qY c').bind fun y39 => some (!(y39.toList == (bl (jn 32 ws)).toList)))).bind fun b40 => bif b40 then some (((0, ByteArray.empty, ByteArray.empty, ByteArray.empty, (0, 0, 0)) : Cmd), false) else some (c', true)) = some (c, true) := by
  rintro c' rfl
  rw [(zCd c' (by omega) (by omega) (by omega)).2, hc]
  simp only [Option.bind_some, Bool.not_true, cond_false, ht, eqS, decide_true]
 unfold zBH zA7
 rw [hsp, Option.bind_some, hin, Option.bind_some, Bool.not_true, cond_false, g1, lgW]
 simp only [Option.bind_some, kind_val g0, hk]
 rcases hr with ⟨hk2, hA, hB, hf, hrest⟩ | ⟨hk2, hF, hr⟩
 ·have e : (bif eqI c.1 1 then true else eqI c.1 5) = true := by
   rcases hk2 with h | h <;> rw [h] <;> rfl
  have hl : (((ws.map bl).length : Nat) : Int) = 3 := by rw [h0, hrest]; rfl
  have gf : getI (ws.map bl) 2 = some (bl (fB c.2.2.2.2)) := by rw [h0, hrest]; rfl
  have hfr : zCF (bl (fB c.2.2.2.2)) = some (c.2.2.2.2, true) := by
   have hl2 := fB_len (zEA hf.1) (zEA hf.2.1) (zEA hf.2.2)
   rcases zK8 (bl (fB c.2.2.2.2)) (by rw [jI]; omega) with ⟨g, g1, g2, g3⟩ | ⟨g1, g3⟩
   ·rw [g3, fB_inj (zDX g2)]
   ·exact absurd rfl (g1 _ hf)
  rw [e, cond_true, hl]
  simp only [show eqI 3 3 = true from rfl, Bool.not_true, cond_false, gf, Option.bind_some, hfr]
  exact last _ (by rw [← hn]; obtain ⟨k, x, A, B, f⟩ := c; simp only at hA hB; rw [hA, hB]; rfl)
 ·have e : (bif eqI c.1 1 then true else eqI c.1 5) = false := by
   rw [eqNe (by omega), eqNe (by omega)]
   rfl
  rw [e, cond_false]
  rcases hr with ⟨hrest, hA, hB⟩ | ⟨a, hrest, hA, hB⟩ | ⟨a, b, hrest, hA, hB⟩
  ·have hl : (((ws.map bl).length : Nat) : Int) = 2 := by rw [h0, hrest]; rfl
   rw [hl]
   simp only [show ltI 2 2 = false from rfl, show ltI 3 2 = false from rfl, cond_false, Option.bind_some]
   exact last _ (by rw [← hn]; obtain ⟨k, x, A, B, f⟩ := c; simp only at hA hB hF; rw [hA, hB, hF]; rfl)
  ·have hl : (((ws.map bl).length : Nat) : Int) = 3 := by rw [h0, hrest]; rfl
   have gf : getI (ws.map bl) 2 = some (bl a) := by rw [h0, hrest]; rfl
   rw [hl]
   simp only [show ltI 2 3 = true from rfl, show ltI 3 3 = false from rfl, cond_true, cond_false, gf, Option.bind_some]
   exact last _ (by rw [← hn]; obtain ⟨k, x, A, B, f⟩ := c; simp only at hA hB hF; rw [hA, hB, hF]; rfl)
  ·have hl : (((ws.map bl).length : Nat) : Int) = 4 := by rw [h0, hrest]; rfl
   have gf : getI (ws.map bl) 2 = some (bl a) := by rw [h0, hrest]; rfl
   have gg : getI (ws.map bl) 3 = some (bl b) := by rw [h0, hrest]; rfl
   rw [hl]
   simp only [show ltI 2 4 = true from rfl, show ltI 3 4 = true from rfl, cond_true, cond_false, gf, gg, Option.bind_some]
   exact last _ (by rw [← hn]; obtain ⟨k, x, A, B, f⟩ := c; simp only at hA hB hF; rw [hA, hB, hF])
theorem fB_sep {f : Int × Int × Int} : ∀ b ∈ fB f, b ≠ 32 ∧ b ≠ 35 ∧ b ≠ 10 := by
 intro b hb
 rw [fB_eq] at hb
 simp only [List.mem_cons, List.mem_append, List.not_mem_nil, or_false] at hb
 have key : ∀ x, b ∈ itoa x → b ≠ 32 ∧ b ≠ 35 ∧ b ≠ 10 := fun x h => ⟨zFZ x 32 (by decide) b h, zFZ x 35 (by decide) b h, zFZ x 10 (by decide) b h⟩
 rcases hb with rfl | hb | rfl | hb | rfl | hb | rfl
 ·decide
 ·exact key _ hb
 ·decide
 ·exact key _ hb
 ·decide
 ·exact key _ hb
 ·decide
theorem nm_sep {x : ByteArray} (h : nmB x = true) : ∀ b ∈ x.data.toList, b ≠ 32 ∧ b ≠ 35 ∧ b ≠ 10 := by
 intro b hb
 have := (zEI h).2.2 b hb
 refine ⟨?_, ?_, ?_⟩ <;> intro e <;> rw [e] at this <;> exact absurd this (by decide)
theorem zIS {c : Cmd} (h : cmdB c = true) : ∃ ws, CW ws ∧ qK c = some (bl (jn 32 ws)) ∧ qY c = some (bl (jn 32 ws)) ∧ qX (bl (jn 32 ws)) = some (c, true) ∧ zBH (bl (jn 32 ws)) = some (c, true) := by
 obtain ⟨m, hm⟩ : ∃ m, FU = m + 3 := ⟨FU - 3, by decide⟩
 obtain ⟨nm, hn, hcase⟩ := zKQ h
 obtain ⟨s1, s2, _⟩ := zEI hn
 have q1 := nm_sep hn
 have hnl : nm.data.toList.length = nm.size := rfl
 have en : nm = bl nm.data.toList := rfl
 have ee : ByteArray.empty = emp := rfl
 have ez : emp.size ≤ 100 := by decide
 have e0 : emp = bl [] := rfl
 have hkw : ∀ k : Int, k = 1 ∨ k = 2 ∨ k = 3 ∨ k = 4 ∨ k = 5 → (kW k).length ≤ 4 ∧ kOf (bl (kW k)) = k ∧ getI lgL k = some (bl (kW k)) ∧ getI ([(⟨#[97, 100, 100]⟩ : ByteArray), (⟨#[100, 114, 111, 112]⟩ : ByteArray), (⟨#[109, 117, 108]⟩ : ByteArray), (⟨#[105, 110, 118]⟩ : ByteArray), (⟨#[109, 111, 118, 101]⟩ : ByteArray)] : List ByteArray) (w64 (k - 1)) = some (bl (kW k)) ∧ ∀ b ∈ kW k, b ≠ 32 ∧ b ≠ 35 ∧ b ≠ 10 := by
  rintro k (rfl | rfl | rfl | rfl | rfl) <;> exact ⟨by decide, by decide +kernel, rfl, rfl, by decide⟩
 rcases hcase with ⟨f, hf, hcc⟩ | rfl | ⟨a, b, ha, hb, rfl⟩ | ⟨a, ha, rfl⟩
 ·obtain ⟨hF, hF0⟩ := cls_FB hf
  have hne : f ≠ (0, 0, 0) := fun e => by rw [e] at hF0; simp at hF0
  have hfl : (fB f).length ≤ 28 := by
   have g1 := zEQ hF.1.1 hF.1.2
   have g2 := zEQ hF.2.1.1 hF.2.1.2
   have g3 := zEQ hF.2.2.1 hF.2.2.2
   rw [fB_eq]
   simp only [List.length_append, List.length_cons, List.length_nil]
   omega
  have main : ∀ k : Int, k = 1 ∨ k = 5 → c = (k, nm, emp, emp, f) → ∃ ws, CW ws ∧ qK c = some (bl (jn 32 ws)) ∧ qY c = some (bl (jn 32 ws)) ∧ qX (bl (jn 32 ws)) = some (c, true) ∧ zBH (bl (jn 32 ws)) = some (c, true) := by
   rintro k hk rfl
   obtain ⟨k1, k2, k3, k4, k5⟩ := hkw k (by omega)
   have hcw : CW [kW k, nm.data.toList, fB f] := ⟨by simp, by simp, fun w hw => by
    simp only [List.mem_cons, List.not_mem_nil, or_false] at hw
    rcases hw with rfl | rfl | rfl <;> omega, fun w hw => by
    simp only [List.mem_cons, List.not_mem_nil, or_false] at hw
    rcases hw with rfl | rfl | rfl
    ·exact k5
    ·exact q1
    ·exact fB_sep, by simp only [jn, List.length_append, List.length_cons]; omega⟩
   have t1 := ct_val (k := k) (n := nm.data.toList) (a := []) (b := []) (f := f) k4 (by omega) (by simp) (by simp) (.inr ⟨hF, hne⟩) (by omega)
   have t2 := lt_val (k := k) (n := nm.data.toList) (a := []) (b := []) (f := f) k3 (by omega) (by simp) (by simp) hF (by omega)
   rw [if_neg hne] at t1
   rw [if_pos hk] at t2
   have t1 : qK (k, nm, emp, emp, f) = some (bl (jn 32 [kW k, nm.data.toList, fB f])) := t1
   have t2 : qY (k, nm, emp, emp, f) = some (bl (jn 32 [kW k, nm.data.toList, fB f])) := t2
   refine ⟨_, hcw, t1, t2, pc_of hcw h ⟨by simp only; omega, ez, ez⟩ t1 rfl k2 en fun s => ?_, lr_of hcw h ⟨by simp only; omega, ez, ez⟩ t2 rfl k2 en (.inl ⟨hk, rfl, rfl, hF, rfl⟩)⟩
   obtain ⟨r, r1, _, r3⟩ := zFb (bl (fB f)) (by rw [jI]; omega)
   have r4 : r = (f, true) := by
    rcases r3 with ⟨g, _, g2, g3⟩ | ⟨g1, _⟩
    ·rw [g3, fB_inj (zDX g2)]
    ·exact absurd rfl (g1 f hF)
   have p1 := pl_form (e8 := bl nm.data.toList) (vs := s) (y2 := [kW k, nm.data.toList, fB f].map bl) (T := 1) (n := m + 2) (t := 0) (f13 := 0) (f14 := 0) (f15 := 0) (f16 := ByteArray.empty) (f17 := ByteArray.empty) hk (by omega) (by omega) (w := bl (fB f)) rfl r1
   rw [hm]
   have p1 : zQ (bl nm.data.toList) k (([fB f].length : Nat) : Int) s ([kW k, nm.data.toList, fB f].map bl) (m + 3) 0 0 0 0 ByteArray.empty ByteArray.empty = _ := p1
   rw [p1, zL3, r4]
   rfl
  rcases hcc with hcc | hcc
  ·exact main 1 (.inl rfl) hcc
  ·exact main 5 (.inr rfl) hcc
 ·obtain ⟨k1, k2, k3, k4, k5⟩ := hkw 2 (by omega)
  have hcw : CW [kW 2, nm.data.toList] := ⟨by simp, by simp, fun w hw => by
   simp only [List.mem_cons, List.not_mem_nil, or_false] at hw
   rcases hw with rfl | rfl <;> omega, fun w hw => by
   simp only [List.mem_cons, List.not_mem_nil, or_false] at hw
   rcases hw with rfl | rfl
   ·exact k5
   ·exact q1, by simp only [jn, List.length_append, List.length_cons]; omega⟩
  have hz : FB (0, 0, 0) := ⟨⟨by decide, by decide⟩, ⟨by decide, by decide⟩, ⟨by decide, by decide⟩⟩
  have t1 := ct_val (k := 2) (n := nm.data.toList) (a := []) (b := []) (f := (0, 0, 0)) k4 (by omega) (by simp) (by simp) (.inl rfl) (by omega)
  have t2 := lt_val (k := 2) (n := nm.data.toList) (a := []) (b := []) (f := (0, 0, 0)) k3 (by omega) (by simp) (by simp) hz (by omega)
  rw [if_pos rfl] at t1
  rw [if_neg (by omega)] at t2
  have t1 : qK (2, nm, emp, emp, (0, 0, 0)) = some (bl (jn 32 [kW 2, nm.data.toList])) := t1
  have t2 : qY (2, nm, emp, emp, (0, 0, 0)) = some (bl (jn 32 [kW 2, nm.data.toList])) := t2
  refine ⟨_, hcw, t1, t2, pc_of hcw h ⟨by simp only; omega, ez, ez⟩ t1 rfl k2 en fun s => ?_, lr_of hcw h ⟨by simp only; omega, ez, ez⟩ t2 rfl k2 en (.inr ⟨by simp, rfl, .inl ⟨rfl, rfl, rfl⟩⟩)⟩
  rw [hm]
  exact zL3 (T := 0)
 ·obtain ⟨k1, k2, k3, k4, k5⟩ := hkw 3 (by omega)
  obtain ⟨_, a2, _⟩ := zEI ha
  obtain ⟨_, b2, _⟩ := zEI hb
  have hal : a.data.toList.length = a.size := rfl
  have hbl : b.data.toList.length = b.size := rfl
  have ane : a.data.toList ≠ [] := fun e => nm_ne ha (by rw [zKg a, e]; rfl)
  have bne : b.data.toList ≠ [] := fun e => nm_ne hb (by rw [zKg b, e]; rfl)
  have hcw : CW [kW 3, nm.data.toList, a.data.toList, b.data.toList] := ⟨by simp, by simp, fun w hw => by
   simp only [List.mem_cons, List.not_mem_nil, or_false] at hw
   rcases hw with rfl | rfl | rfl | rfl <;> omega, fun w hw => by
   simp only [List.mem_cons, List.not_mem_nil, or_false] at hw
   rcases hw with rfl | rfl | rfl | rfl
   ·exact k5
   ·exact q1
   ·exact nm_sep ha
   ·exact nm_sep hb, by simp only [jn, List.length_append, List.length_cons]; omega⟩
  have hz : FB (0, 0, 0) := ⟨⟨by decide, by decide⟩, ⟨by decide, by decide⟩, ⟨by decide, by decide⟩⟩
  have t1 := ct_val (k := 3) (n := nm.data.toList) (a := a.data.toList) (b := b.data.toList) (f := (0, 0, 0)) k4 (by omega) (by omega) (by omega) (.inl rfl) (by omega)
  have t2 := lt_val (k := 3) (n := nm.data.toList) (a := a.data.toList) (b := b.data.toList) (f := (0, 0, 0)) k3 (by omega) (by omega) (by omega) hz (by omega)
  rw [if_pos rfl] at t1
  rw [if_neg (by omega)] at t2
  unfold oW at t1 t2
  rw [if_neg ane, if_neg bne] at t1 t2
  have t1 : qK (3, nm, a, b, (0, 0, 0)) = some (bl (jn 32 [kW 3, nm.data.toList, a.data.toList, b.data.toList])) := t1
  have t2 : qY (3, nm, a, b, (0, 0, 0)) = some (bl (jn 32 [kW 3, nm.data.toList, a.data.toList, b.data.toList])) := t2
  refine ⟨_, hcw, t1, t2, pc_of hcw h ⟨by simp only; omega, by simp only; omega, by simp only; omega⟩ t1 rfl k2 en fun s => ?_, lr_of hcw h ⟨by simp only; omega, by simp only; omega, by simp only; omega⟩ t2 rfl k2 en (.inr ⟨by simp, rfl, .inr (.inr ⟨_, _, rfl, rfl, rfl⟩)⟩)⟩
  have p1 := pl_A (e8 := bl nm.data.toList) (vs := s) (f9 := 3) (y2 := [kW 3, nm.data.toList, a.data.toList, b.data.toList].map bl) (T := 2) (n := m + 2) (t := 0) (f13 := 0) (f14 := 0) (f15 := 0) (f16 := ByteArray.empty) (f17 := ByteArray.empty) (by omega) (by omega) (by omega) (w := a) rfl
  have p2 := pl_A (e8 := bl nm.data.toList) (vs := s) (f9 := 3) (y2 := [kW 3, nm.data.toList, a.data.toList, b.data.toList].map bl) (T := 2) (n := m + 1) (t := 0 + 1) (f13 := 0) (f14 := 0) (f15 := 0) (f16 := a) (f17 := ByteArray.empty) (by omega) (by omega) (by omega) (w := b) rfl
  rw [if_pos ee] at p1
  rw [if_neg (nm_ne ha)] at p2
  rw [hm]
  have p1 : zQ (bl nm.data.toList) 3 (([a.data.toList, b.data.toList].length : Nat) : Int) s ([kW 3, nm.data.toList, a.data.toList, b.data.toList].map bl) (m + 3) 0 0 0 0 ByteArray.empty ByteArray.empty = _ := p1
  show zQ (bl nm.data.toList) 3 (([a.data.toList, b.data.toList].length : Nat) : Int) s ([kW 3, nm.data.toList, a.data.toList, b.data.toList].map bl) (m + 3) 0 0 0 0 ByteArray.empty ByteArray.empty = _
  rw [p1, p2]
  exact zL3 (T := 2)
 ·obtain ⟨k1, k2, k3, k4, k5⟩ := hkw 4 (by omega)
  obtain ⟨_, a2, _⟩ := zEI ha
  have hal : a.data.toList.length = a.size := rfl
  have ane : a.data.toList ≠ [] := fun e => nm_ne ha (by rw [zKg a, e]; rfl)
  have hcw : CW [kW 4, nm.data.toList, a.data.toList] := ⟨by simp, by simp, fun w hw => by
   simp only [List.mem_cons, List.not_mem_nil, or_false] at hw
   rcases hw with rfl | rfl | rfl <;> omega, fun w hw => by
   simp only [List.mem_cons, List.not_mem_nil, or_false] at hw
   rcases hw with rfl | rfl | rfl
   ·exact k5
   ·exact q1
   ·exact nm_sep ha, by simp only [jn, List.length_append, List.length_cons]; omega⟩
  have hz : FB (0, 0, 0) := ⟨⟨by decide, by decide⟩, ⟨by decide, by decide⟩, ⟨by decide, by decide⟩⟩
  have t1 := ct_val (k := 4) (n := nm.data.toList) (a := a.data.toList) (b := []) (f := (0, 0, 0)) k4 (by omega) (by omega) (by simp) (.inl rfl) (by omega)
  have t2 := lt_val (k := 4) (n := nm.data.toList) (a := a.data.toList) (b := []) (f := (0, 0, 0)) k3 (by omega) (by omega) (by simp) hz (by omega)
  rw [if_pos rfl] at t1
  rw [if_neg (by omega)] at t2
  unfold oW at t1 t2
  rw [if_neg ane, if_pos rfl] at t1 t2
  have t1 : qK (4, nm, a, emp, (0, 0, 0)) = some (bl (jn 32 [kW 4, nm.data.toList, a.data.toList])) := t1
  have t2 : qY (4, nm, a, emp, (0, 0, 0)) = some (bl (jn 32 [kW 4, nm.data.toList, a.data.toList])) := t2
  refine ⟨_, hcw, t1, t2, pc_of hcw h ⟨by simp only; omega, by simp only; omega, ez⟩ t1 rfl k2 en fun s => ?_, lr_of hcw h ⟨by simp only; omega, by simp only; omega, ez⟩ t2 rfl k2 en (.inr ⟨by simp, rfl, .inr (.inl ⟨_, rfl, rfl, rfl⟩)⟩)⟩
  have p1 := pl_A (e8 := bl nm.data.toList) (vs := s) (f9 := 4) (y2 := [kW 4, nm.data.toList, a.data.toList].map bl) (T := 1) (n := m + 2) (t := 0) (f13 := 0) (f14 := 0) (f15 := 0) (f16 := ByteArray.empty) (f17 := ByteArray.empty) (by omega) (by omega) (by omega) (w := a) rfl
  rw [if_pos ee] at p1
  rw [hm]
  have p1 : zQ (bl nm.data.toList) 4 (([a.data.toList].length : Nat) : Int) s ([kW 4, nm.data.toList, a.data.toList].map bl) (m + 3) 0 0 0 0 ByteArray.empty ByteArray.empty = _ := p1
  show zQ (bl nm.data.toList) 4 (([a.data.toList].length : Nat) : Int) s ([kW 4, nm.data.toList, a.data.toList].map bl) (m + 3) 0 0 0 0 ByteArray.empty ByteArray.empty = _
  rw [p1]
  exact zL3 (T := 1)
theorem zG5 (c : UInt8) : ∀ (l : List UInt8), ∀ w ∈ spl c l, w.length ≤ l.length
 | [], w, hw => by
  have : w = [] := by simpa [spl] using hw
  rw [this]
  exact Nat.zero_le _
 | b :: l, w, hw => by
  have ih := zG5 c l
  by_cases h : b = c
  ·subst h
   rw [zJr] at hw
   rcases List.mem_cons.1 hw with rfl | hw
   ·exact Nat.zero_le _
   ·have := ih w hw
    simp; omega
  ·cases e : spl c l with
   | nil => exact absurd e (zJq c l)
   | cons v ws =>
    rw [zEY h e] at hw
    rw [e] at ih
    rcases List.mem_cons.1 hw with rfl | hw
    ·have := ih v (List.mem_cons_self ..)
     simp; omega
    ·have := ih w (List.mem_cons_of_mem _ hw)
     simp; omega
theorem pl_tot {e8 vs : ByteArray} {f9 : Int} {y2 : List ByteArray} {T N : Nat} (hN : N ≤ 100000000) (hT : T ≤ 100000000) (hy : ∀ t : Nat, t < T → ∃ w, getI (subl y2 2 (y2.length : Int)) (t : Int) = some w ∧ w.size ≤ N) :
  ∀ (k n t : Nat) (f13 f14 f15 : Int) (f16 f17 : ByteArray), T - t = k → k < n → t ≤ T → f16.size ≤ N → f17.size ≤ N → ∃ r, zQ e8 f9 (T : Int) vs y2 n (t : Int) f13 f14 f15 f16 f17 = some r ∧ r.1.size ≤ N ∧ r.2.1.size ≤ N := by
 intro k
 induction k with
 | zero =>
  intro n t f13 f14 f15 f16 f17 hk hn ht h1 h2
  obtain ⟨n, rfl⟩ : ∃ m, n = m + 1 := ⟨n - 1, by omega⟩
  have e : t = T := by omega
  subst e
  exact ⟨_, zL3, h1, h2⟩
 | succ k ih =>
  intro n t f13 f14 f15 f16 f17 hk hn ht h1 h2
  obtain ⟨n, rfl⟩ : ∃ m, n = m + 1 := ⟨n - 1, by omega⟩
  obtain ⟨w, hw, hw2⟩ := hy t (by omega)
  by_cases hf : f9 = 1 ∨ f9 = 5
  ·obtain ⟨r, hr, _⟩ := zFb w (by omega)
   rw [pl_form hf (by omega) hT hw hr]
   exact ih n (t + 1) _ _ _ _ _ (by omega) (by omega) (by omega) h1 h2
  ·rw [pl_A hf (by omega) hT hw]
   split
   ·exact ih n (t + 1) _ _ _ _ _ (by omega) (by omega) (by omega) hw2 h2
   ·exact ih n (t + 1) _ _ _ _ _ (by omega) (by omega) (by omega) h1 hw2
def zC : Cmd := (0, ByteArray.empty, ByteArray.empty, ByteArray.empty, (0, 0, 0))
theorem impl_tot (s : ByteArray) (hs : s.size ≤ 1000000) : ∃ r, qX s = some r ∧ (r = (zC, false) ∨ ∃ c, r = (c, true) ∧ cmdB c = true ∧ qK c = some s) := by
 have hF : 200000000 < FU := by decide
 have hlen := zKw 32 s.data.toList
 have hsz : s.data.toList.length = s.size := rfl
 have hwl : ∀ w ∈ (spl 32 s.data.toList).map bl, w.size ≤ 1000000 := by
  intro w hw
  obtain ⟨x, hx, rfl⟩ := List.mem_map.1 hw
  have := zG5 32 _ x hx
  rw [jI]
  omega
 unfold qX
 have hsp : zBS s ⟨#[32]⟩ = some ((spl 32 s.data.toList).map bl) := split_val s 32 (by omega)
 rw [hsp]
 have hyl : ((spl 32 s.data.toList).map bl).length ≤ 1000001 := by rw [List.length_map]; omega
 generalize (spl 32 s.data.toList).map bl = y2 at hwl hyl
 simp only [Option.bind_some, kOf_map]
 rw [zP]
 by_cases h2 : y2.length < 2
 ·rw [decide_eq_true (by omega), cond_true]
  exact ⟨_, rfl, .inl rfl⟩
 ·obtain ⟨x, y, rest, rfl⟩ : ∃ x y rest, y2 = x :: y :: rest := by
   match y2, (show 2 ≤ y2.length by omega) with
   | x :: y :: rest, _ => exact ⟨x, y, rest, rfl⟩
  have hrl : rest.length ≤ 1000001 := by simp at hyl; omega
  have g0 : getI (x :: y :: rest) 0 = some x := rfl
  have g1 : getI (x :: y :: rest) 1 = some y := rfl
  have hsl : slc (x :: y :: rest).length 2 ((x :: y :: rest).length : Int) = some () := zEk (l := 2) (by simp) (Nat.le_refl _)
  have hsub : subl (x :: y :: rest) 2 ((x :: y :: rest).length : Int) = rest := by
   unfold subl
   rw [Int.toNat_natCast, show Int.toNat 2 = 2 from rfl, List.drop_succ_cons, List.drop_succ_cons, List.drop_zero, List.take_of_length_le (by simp)]
  rw [decide_eq_false (by omega), cond_false, g0, g1]
  simp only [Option.bind_some, qA, hsl, hsub]
  obtain ⟨r, hr, r1, r2⟩ := pl_tot (e8 := y) (vs := s) (f9 := kOf x) (y2 := x :: y :: rest) (T := rest.length) (N := 1000000) (by omega) (by omega) (fun t ht => by
   rw [hsub]
   exact ⟨_, zDV ht, hwl _ (List.mem_cons_of_mem _ (List.mem_cons_of_mem _ (List.getElem_mem ht)))⟩) _ FU 0 0 0 0 ByteArray.empty ByteArray.empty rfl (by omega) (by omega) (by decide) (by decide)
  have hr : zQ y (kOf x) (rest.length : Int) s (x :: y :: rest) FU 0 0 0 0 ByteArray.empty ByteArray.empty = some r := hr
  have hy := hwl y (by simp)
  rw [hr]
  simp only [Option.bind_some]
  have hv := (zCd (kOf x, y, r.1, r.2.1, r.2.2) (by simp only; omega) (by simp only; omega) (by simp only; omega)).1
  rw [hv]
  simp only [Option.bind_some]
  cases hc : cmdB (kOf x, y, r.1, r.2.1, r.2.2) with
  | false => exact ⟨_, rfl, .inl rfl⟩
  | true =>
   obtain ⟨ws, _, hct, _⟩ := zIS hc
   simp only [Bool.not_true, cond_false, hct, Option.bind_some, eqS]
   by_cases he : bl (jn 32 ws) = s
   ·rw [decide_eq_true he]
    exact ⟨_, rfl, .inr ⟨_, rfl, hc, by rw [hct, he]⟩⟩
   ·rw [decide_eq_false he]
    exact ⟨_, rfl, .inl rfl⟩
theorem spec_tot (s : ByteArray) (hs : s.size ≤ 1000000) : ∃ r, zBH s = some r ∧ (r = (zC, false) ∨ ∃ c, r = (c, true) ∧ cmdB c = true ∧ qY c = some s) := by
 have hlen := zKw 32 s.data.toList
 have hsz : s.data.toList.length = s.size := rfl
 have hwl : ∀ w ∈ (spl 32 s.data.toList).map bl, w.size ≤ 1000000 := by
  intro w hw
  obtain ⟨x, hx, rfl⟩ := List.mem_map.1 hw
  have := zG5 32 _ x hx
  rw [jI]
  omega
 have last : ∀ c' : Cmd, c'.2.1.size ≤ 1000000 → c'.2.2.1.size ≤ 1000000 → c'.2.2.2.1.size ≤ 1000000 → ∃ r, ((jX c').bind fun y37 => (bif (!y37) then some true else ((qY c').bind fun y39 => some (!(y39.toList == s.toList)))).bind fun b40 => bif b40 then some (((0, ByteArray.empty, ByteArray.empty, ByteArray.empty, (0, 0, 0)) : Cmd), false) else some (c', true)) = some r ∧ (r = (zC, false) ∨ ∃ c, r = (c, true) ∧ cmdB c = true ∧ qY c = some s) := by
  intro c' h1 h2 h3
  rw [(zCd c' (by omega) (by omega) (by omega)).2]
  simp only [Option.bind_some]
  cases hc : cmdB c' with
  | false => exact ⟨_, rfl, .inl rfl⟩
  | true =>
   obtain ⟨ws, _, _, hct, _⟩ := zIS hc
   simp only [Bool.not_true, cond_false, hct, Option.bind_some, eqS]
   by_cases he : bl (jn 32 ws) = s
   ·rw [decide_eq_true he]
    exact ⟨_, rfl, .inr ⟨_, rfl, hc, by rw [hct, he]⟩⟩
   ·rw [decide_eq_false he]
    exact ⟨_, rfl, .inl rfl⟩
 unfold zBH zA7
 have hsp : zBd s 32 = some ((spl 32 s.data.toList).map bl) := zHh s 32 (by omega)
 rw [hsp, Option.bind_some]
 generalize (spl 32 s.data.toList).map bl = y2 at hwl
 by_cases hin : 2 ≤ y2.length ∧ y2.length ≤ 4
 ·have hin2 : jQ ((y2.length : Nat) : Int) 2 4 = some true := by
   unfold jQ
   rw [q9, q9, decide_eq_true (by omega), decide_eq_true (by omega)]
   rfl
  rw [hin2, Option.bind_some, Bool.not_true, cond_false, lgW]
  obtain ⟨x, y, rest, rfl⟩ : ∃ x y rest, y2 = x :: y :: rest := by
   match y2, hin.1 with
   | x :: y :: rest, _ => exact ⟨x, y, rest, rfl⟩
  have g0 : getI (x :: y :: rest) 0 = some x := rfl
  have g1 : getI (x :: y :: rest) 1 = some y := rfl
  have hy := hwl y (by simp)
  have hz : ByteArray.empty.size ≤ 1000000 := by decide
  rw [g1]
  simp only [Option.bind_some, kind_val g0]
  cases hkf : (bif eqI (kOf x) 1 then true else eqI (kOf x) 5) with
  | true =>
   rw [cond_true]
   by_cases h3 : rest.length = 1
   ·obtain ⟨w, rfl⟩ : ∃ w, rest = [w] := List.length_eq_one_iff.1 h3
    have g2 : getI [x, y, w] 2 = some w := rfl
    simp only [show eqI (([x, y, w].length : Nat) : Int) 3 = true from rfl, Bool.not_true, cond_false, g2, Option.bind_some]
    obtain ⟨r, _, hr, _⟩ := zFb w (by have := hwl w (by simp); omega)
    rw [hr]
    simp only [Option.bind_some]
    cases r.2 with
    | false => exact ⟨_, rfl, .inl rfl⟩
    | true =>
     simp only [Bool.not_true, cond_false, Option.bind_some]
     exact last _ hy hz hz
   ·rw [eqNe (by simp; omega), Bool.not_false, cond_true]
    exact ⟨_, rfl, .inl rfl⟩
  | false =>
   rw [cond_false]
   have h4 : rest.length ≤ 2 := by have := hin.2; simp at this; omega
   match rest, h4, hwl with
   | [], _, hwl =>
    simp only [show ltI 2 (([x, y].length : Nat) : Int) = false from rfl, show ltI 3 (([x, y].length : Nat) : Int) = false from rfl, cond_false, Option.bind_some]
    exact last _ hy hz hz
   | [a], _, hwl =>
    have g2 : getI [x, y, a] 2 = some a := rfl
    simp only [show ltI 2 (([x, y, a].length : Nat) : Int) = true from rfl, show ltI 3 (([x, y, a].length : Nat) : Int) = false from rfl, cond_true, cond_false, Option.bind_some, g2]
    exact last _ hy (hwl a (by simp)) hz
   | [a, b], _, hwl =>
    have g2 : getI [x, y, a, b] 2 = some a := rfl
    have g3 : getI [x, y, a, b] 3 = some b := rfl
    simp only [show ltI 2 (([x, y, a, b].length : Nat) : Int) = true from rfl, show ltI 3 (([x, y, a, b].length : Nat) : Int) = true from rfl, cond_true, Option.bind_some, g2, g3]
    exact last _ hy (hwl a (by simp)) (hwl b (by simp))
 ·have hin2 : jQ ((y2.length : Nat) : Int) 2 4 = some false := by
   unfold jQ
   rw [q9, q9]
   by_cases h2 : 2 ≤ y2.length
   ·rw [decide_eq_true (by omega), decide_eq_false (by omega)]
    rfl
   ·rw [decide_eq_false (by omega)]
    rfl
  rw [hin2, Option.bind_some, Bool.not_false, cond_true]
  exact ⟨_, rfl, .inl rfl⟩
structure CT (c : Cmd) (ws : List (List UInt8)) : Prop where
  good : cmdB c = true
  cw : CW ws
  i : qK c = some (bl (jn 32 ws))
  s : qY c = some (bl (jn 32 ws))
theorem ct_of {c : Cmd} (h : cmdB c = true) : ∃ ws, CT c ws := by
 obtain ⟨ws, h1, h2, h3, _⟩ := zIS h
 exact ⟨ws, h, h1, h2, h3⟩
theorem zDc (s : ByteArray) (hs : s.size ≤ 1000000) : ∃ r, qX s = some r ∧ zBH s = some r ∧ (r = (zC, false) ∨ ∃ c ws, r = (c, true) ∧ CT c ws ∧ s = bl (jn 32 ws)) := by
 obtain ⟨r, h1, h2⟩ := impl_tot s hs
 obtain ⟨q, g1, g2⟩ := spec_tot s hs
 rcases h2 with rfl | ⟨c, rfl, hc, ht⟩
 ·rcases g2 with rfl | ⟨c, rfl, hc, ht⟩
  ·exact ⟨_, h1, g1, .inl rfl⟩
  ·obtain ⟨ws, _, a2, a3, a4, _⟩ := zIS hc
   rw [a3] at ht
   rw [Option.some.inj ht, h1] at a4
   cases a4
 ·obtain ⟨ws, a1, a2, a3, a4, a5⟩ := zIS hc
  have e : s = bl (jn 32 ws) := by
   rw [a2] at ht
   exact (Option.some.inj ht).symm
  exact ⟨_, h1, by rw [e]; exact a5, .inr ⟨c, ws, rfl, ⟨hc, a1, a2, a3⟩, e⟩⟩
end Go.Proofs.YtfmjfofocklgpaaGreatDoor
namespace Go.Proofs.YtfmjfofocklgpaaGreatDoor
abbrev E4 := ByteArray × Int × Int × Int
theorem bls_irr : ∀ l : List UInt8, Op.bytesLess l l = false
 | [] => rfl
 | a :: l => by
  simp only [Op.bytesLess, bls_irr l, Bool.and_false, Bool.or_false, decide_eq_false_iff_not]
  exact UInt8.lt_irrefl a
theorem bls_trans : ∀ a b c : List UInt8, Op.bytesLess a b = true → Op.bytesLess b c = true → Op.bytesLess a c = true
 | _, [], _, h, _ => by cases ‹List UInt8› <;> simp [Op.bytesLess] at h
 | _, _ :: _, [], _, h => by simp [Op.bytesLess] at h
 | [], _ :: _, _ :: _, _, _ => rfl
 | a :: x, b :: y, c :: z, h1, h2 => by
  simp only [Op.bytesLess, Bool.or_eq_true, Bool.and_eq_true, decide_eq_true_iff, beq_iff_eq] at h1 h2 ⊢
  rcases h1 with h1 | ⟨rfl, h1⟩
  ·rcases h2 with h2 | ⟨rfl, h2⟩
   ·exact .inl (UInt8.lt_trans h1 h2)
   ·exact .inl h1
  ·rcases h2 with h2 | ⟨rfl, h2⟩
   ·exact .inl h2
   ·exact .inr ⟨rfl, bls_trans x y z h1 h2⟩
theorem bls_tri : ∀ a b : List UInt8, a ≠ b → Op.bytesLess a b = false → Op.bytesLess b a = true
 | [], [], h, _ => absurd rfl h
 | [], _ :: _, _, h => by simp [Op.bytesLess] at h
 | _ :: _, [], _, _ => rfl
 | a :: x, b :: y, h, h2 => by
  simp only [Op.bytesLess, Bool.or_eq_false_iff, decide_eq_false_iff_not] at h2
  simp only [Op.bytesLess, Bool.or_eq_true, Bool.and_eq_true, decide_eq_true_iff, beq_iff_eq]
  by_cases e : a = b
  ·subst e
   refine .inr ⟨rfl, bls_tri x y (fun e => h (by rw [e])) ?_⟩
   simpa using h2.2
  ·refine .inl ?_
   have h3 : ¬ a.toNat < b.toNat := fun h3 => h2.1 (UInt8.lt_iff_toNat_lt.2 h3)
   have h4 : a.toNat ≠ b.toNat := fun h4 => e (UInt8.toNat_inj.1 h4)
   exact UInt8.lt_iff_toNat_lt.2 (by omega)
def nl (x y : ByteArray) : Bool := Op.bytesLess x.toList y.toList
theorem ba_injC {a b : ByteArray} (h : a.toList = b.toList) : a = b := by
 rw [ByteArray.toList_eq, ByteArray.toList_eq] at h
 cases a; cases b
 simp at h
 rw [h]
theorem nl_irr (x : ByteArray) : nl x x = false := bls_irr _
theorem nl_trans {x y z : ByteArray} (h1 : nl x y = true) (h2 : nl y z = true) : nl x z = true := bls_trans _ _ _ h1 h2
theorem nl_tri {x y : ByteArray} (h : x ≠ y) (h2 : nl x y = false) : nl y x = true := bls_tri _ _ (fun e => h (ba_injC e)) h2
theorem nl_not {x y : ByteArray} (h : x ≠ y) : nl y x = !nl x y := by
 cases h1 : nl x y with
 | false => exact nl_tri h h1
 | true =>
  cases h2 : nl y x with
  | false => rfl
  | true =>
   have := nl_trans h1 h2
   rw [nl_irr] at this
   cases this
theorem nl_ne {x y : ByteArray} (h : nl x y = true) : x ≠ y := fun e => by
 rw [e, nl_irr] at h
 cases h
def putE (e : E4) : List E4 → List E4
 | [] => [e]
 | x :: l => if nl x.1 e.1 then x :: putE e l else e :: x :: l
def woE (nm : ByteArray) : List E4 → List E4
 | [] => []
 | x :: l => if x.1 = nm then woE nm l else x :: woE nm l
def fnE (nm : ByteArray) : List E4 → Option (Int × Int × Int)
 | [] => none
 | x :: l => if x.1 = nm then some x.2 else fnE nm l
def ixE (nm : ByteArray) : List E4 → Option Nat
 | [] => none
 | x :: l => if x.1 = nm then some 0 else (ixE nm l).map (· + 1)
theorem fnE_cons (nm : ByteArray) (x : E4) (l : List E4) : fnE nm (x :: l) = if x.1 = nm then some x.2 else fnE nm l := rfl
theorem ixE_cons (nm : ByteArray) (x : E4) (l : List E4) : ixE nm (x :: l) = if x.1 = nm then some 0 else (ixE nm l).map (· + 1) := rfl
theorem woE_cons (nm : ByteArray) (x : E4) (l : List E4) : woE nm (x :: l) = if x.1 = nm then woE nm l else x :: woE nm l := rfl
theorem zKA (e x : E4) (l : List E4) : putE e (x :: l) = if nl x.1 e.1 then x :: putE e l else e :: x :: l := rfl
def ptNm (e : E4) : List E4 → Nat
 | [] => 0
 | x :: l => if nl x.1 e.1 then ptNm e l + 1 else 0
theorem ptNm_cons (e x : E4) (l : List E4) : ptNm e (x :: l) = if nl x.1 e.1 then ptNm e l + 1 else 0 := rfl
theorem put_ptNm (e : E4) : ∀ l : List E4, ptNm e l ≤ l.length ∧ putE e l = l.take (ptNm e l) ++ e :: l.drop (ptNm e l)
 | [] => ⟨Nat.le_refl _, rfl⟩
 | x :: l => by
  obtain ⟨h1, h2⟩ := put_ptNm e l
  rw [ptNm_cons, zKA]
  split
  ·refine ⟨by simp; omega, ?_⟩
   rw [h2]
   rfl
  ·exact ⟨Nat.zero_le _, rfl⟩
def Srt (l : List E4) : Prop := l.Pairwise fun x y => nl x.1 y.1 = true
theorem zIr {nm : ByteArray} {y : E4} : ∀ {l : List E4}, y ∈ woE nm l ↔ y ∈ l ∧ y.1 ≠ nm
 | [] => by simp [woE]
 | x :: l => by
  unfold woE
  split
  ·rename_i h
   rw [zIr, List.mem_cons]
   constructor
   ·exact fun ⟨h1, h2⟩ => ⟨.inr h1, h2⟩
   ·rintro ⟨rfl | h1, h2⟩
    ·exact absurd h h2
    ·exact ⟨h1, h2⟩
  ·rename_i h
   rw [List.mem_cons, zIr, List.mem_cons]
   constructor
   ·rintro (rfl | ⟨h1, h2⟩)
    ·exact ⟨.inl rfl, h⟩
    ·exact ⟨.inr h1, h2⟩
   ·rintro ⟨rfl | h1, h2⟩
    ·exact .inl rfl
    ·exact .inr ⟨h1, h2⟩
theorem mem_put {e y : E4} : ∀ {l : List E4}, y ∈ putE e l ↔ y = e ∨ y ∈ l
 | [] => by simp [putE]
 | x :: l => by
  unfold putE
  split
  ·rw [List.mem_cons, mem_put, List.mem_cons]
   constructor
   ·rintro (h | h | h)
    ·exact .inr (.inl h)
    ·exact .inl h
    ·exact .inr (.inr h)
   ·rintro (h | h | h)
    ·exact .inr (.inl h)
    ·exact .inl h
    ·exact .inr (.inr h)
  ·simp
theorem zIM (e : E4) : ∀ l : List E4, (putE e l).length = l.length + 1
 | [] => rfl
 | x :: l => by
  unfold putE
  split
  ·simp [zIM e l]
  ·simp
theorem len_wo (nm : ByteArray) : ∀ l : List E4, (woE nm l).length ≤ l.length
 | [] => Nat.le_refl _
 | x :: l => by
  have := len_wo nm l
  unfold woE
  split <;> simp <;> omega
theorem srt_wo {nm : ByteArray} : ∀ {l : List E4}, Srt l → Srt (woE nm l)
 | [], h => h
 | x :: l, h => by
  have h2 := List.pairwise_cons.1 h
  unfold woE
  split
  ·exact srt_wo h2.2
  ·exact List.pairwise_cons.2 ⟨fun y hy => h2.1 y (zIr.1 hy).1, srt_wo h2.2⟩
theorem srt_put {e : E4} : ∀ {l : List E4}, Srt l → (∀ x ∈ l, x.1 ≠ e.1) → Srt (putE e l)
 | [], _, _ => List.pairwise_singleton _ _
 | x :: l, h, hn => by
  have h2 := List.pairwise_cons.1 h
  unfold putE
  split
  ·rename_i hx
   refine List.pairwise_cons.2 ⟨fun y hy => ?_, srt_put h2.2 fun z hz => hn z (List.mem_cons_of_mem _ hz)⟩
   rcases mem_put.1 hy with rfl | hy
   ·exact hx
   ·exact h2.1 y hy
  ·rename_i hx
   have hx2 : nl e.1 x.1 = true := nl_tri (hn x (List.mem_cons_self ..)) (by simpa using hx)
   refine List.pairwise_cons.2 ⟨fun y hy => ?_, h⟩
   rcases List.mem_cons.1 hy with rfl | hy
   ·exact hx2
   ·exact nl_trans hx2 (h2.1 y hy)
theorem zEE {nm : ByteArray} : ∀ {l : List E4}, fnE nm l = none → woE nm l = l
 | [], _ => rfl
 | x :: l, h => by
  unfold fnE at h
  unfold woE
  split at h
  ·cases h
  ·rename_i hx
   rw [if_neg hx, zEE h]
theorem fn_mem {nm : ByteArray} {f : Int × Int × Int} : ∀ {l : List E4}, fnE nm l = some f → (nm, f) ∈ l
 | [], h => by cases h
 | x :: l, h => by
  unfold fnE at h
  split at h
  ·rename_i hx
   injection h with h
   subst h hx
   exact List.mem_cons_self ..
  ·exact List.mem_cons_of_mem _ (fn_mem h)
theorem len_wo_lt {nm : ByteArray} {f : Int × Int × Int} : ∀ {l : List E4}, fnE nm l = some f → (woE nm l).length < l.length
 | [], h => by cases h
 | x :: l, h => by
  unfold fnE at h
  unfold woE
  split at h
  ·rename_i hx
   rw [if_pos hx]
   have := len_wo nm l
   simp; omega
  ·rename_i hx
   rw [if_neg hx]
   have := len_wo_lt h
   simp; omega
theorem ix_none {nm : ByteArray} : ∀ {l : List E4}, ixE nm l = none ↔ fnE nm l = none
 | [] => by simp [ixE, fnE]
 | x :: l => by
  unfold ixE fnE
  split
  ·simp
  ·rw [Option.map_eq_none_iff]
   exact ix_none
theorem ix_some {nm : ByteArray} {i : Nat} : ∀ {l : List E4}, ixE nm l = some i → ∃ h : i < l.length, (l[i]'h).1 = nm ∧ fnE nm l = some (l[i]'h).2
 | [], h => by cases h
 | x :: l, h => by
  unfold ixE at h
  unfold fnE
  split at h
  ·rename_i hx
   injection h with h
   subst h
   exact ⟨by simp, hx, by rw [if_pos hx]; rfl⟩
  ·rename_i hx
   cases hi : ixE nm l with
   | none => rw [hi] at h; cases h
   | some j =>
    rw [hi] at h
    injection h with h
    subst h
    obtain ⟨h1, h2, h3⟩ := ix_some hi
    exact ⟨by simp; omega, by simpa using h2, by rw [if_neg hx]; simpa using h3⟩
theorem wo_ix {nm : ByteArray} : ∀ {l : List E4} {i : Nat}, Srt l → ixE nm l = some i → woE nm l = l.take i ++ l.drop (i + 1)
 | [], i, _, h => by cases h
 | x :: l, i, hs, h => by
  have h2 := List.pairwise_cons.1 hs
  unfold ixE at h
  unfold woE
  split at h
  ·rename_i hx
   injection h with h
   subst h
   rw [if_pos hx]
   have hn : fnE nm l = none := by
    cases hf : fnE nm l with
    | none => rfl
    | some f =>
     have := nl_ne (h2.1 _ (fn_mem hf))
     exact absurd hx this
   rw [zEE hn]
   rfl
  ·rename_i hx
   rw [if_neg hx]
   cases hi : ixE nm l with
   | none => rw [hi] at h; cases h
   | some j =>
    rw [hi] at h
    injection h with h
    subst h
    rw [wo_ix h2.2 hi]
    rfl
structure RedInv (a b c d g : Int) : Prop where
  a1 : 1 ≤ a
  aM : a ≤ 1000000
  b1 : -1900000 ≤ b
  b2 : b ≤ 1900000
  c1 : 1 ≤ c
  cM : c ≤ 1250000
  dis : b * b - 4 * a * c = d
  neg : d < 0
  nrm : (-a < b ∧ b ≤ a) ∨ c ≤ 1000000
  con : ∀ k : Int, (k ∣ a ∧ k ∣ b ∧ k ∣ c) ↔ k ∣ g
def zCg (a b c : Int) : Prop := (-a < b ∧ b ≤ a) ∧ (a < c ∨ (a = c ∧ 0 ≤ b))
instance (a b c : Int) : Decidable (zCg a b c) := inferInstanceAs (Decidable ((-a < b ∧ b ≤ a) ∧ (a < c ∨ (a = c ∧ 0 ≤ b))))
theorem zHa {a b c : Int} (ha : 1 ≤ a) (haM : a ≤ 1000000) : jK (a, b, c) = some (decide (zCg a b c)) := by
 have hn : qN (a, b, c) = some (decide (-a < b ∧ b ≤ a)) := by
  simp only [qN, Option.bind_some, zP, q9]
  rw [zJ (by omega)]
  by_cases h1 : -a < b <;> by_cases h2 : b ≤ a <;> simp [h1, h2]
  all_goals omega
 simp only [jK, hn, Option.bind_some, zP, q9, zBN]
 unfold zCg
 by_cases h1 : -a < b <;> by_cases h2 : b ≤ a <;> by_cases h3 : a < c <;> by_cases h4 : a = c <;> by_cases h5 : 0 ≤ b <;> simp [h1, h2, h3, h4, h5]
theorem red_step {a b c d g : Int} (h : RedInv a b c d g) (hr : ¬ zCg a b c) : ∃ m a2 b2 c2, qW (a, b, c) = some m ∧ qF (a, b, c) m = some (a2, b2, c2) ∧ RedInv a2 b2 c2 d g ∧
  ((¬ (-a < b ∧ b ≤ a) ∧ a2 = a ∧ (-a2 < b2 ∧ b2 ≤ a2)) ∨ ((-a < b ∧ b ≤ a) ∧ a2 < a) ∨ ((-a < b ∧ b ≤ a) ∧ zCg a2 b2 c2 ∧ a2 ≤ a)) := by
 obtain ⟨a1, aM, b1, b2, c1, cM, dis, neg, nrm, con⟩ := h
 have hn : qN (a, b, c) = some (decide (-a < b ∧ b ≤ a)) := by
  simp only [qN, Option.bind_some, zP, q9]
  rw [zJ (by omega)]
  by_cases h1 : -a < b <;> by_cases h2 : b ≤ a <;> simp [h1, h2]
  all_goals omega
 by_cases hN : -a < b ∧ b ≤ a
 ·have hst : qW (a, b, c) = some (0, -1, 1, 0) := by
   simp only [qW, zHa a1 aM, hn, Option.bind_some, decide_eq_false hr, decide_eq_true hN]
   rfl
  refine ⟨_, c, -b, a, hst, zJc (by omega) (by omega) (by omega), ?_, ?_⟩
  ·have hca : c ≤ a := by
    unfold zCg at hr
    have : ¬ (a < c ∨ (a = c ∧ 0 ≤ b)) := fun x => hr ⟨hN, x⟩
    omega
   exact ⟨c1, by omega, by omega, by omega, a1, by omega, by grind, neg, .inr aM, fun k => by rw [← con k, Int.dvd_neg]; exact ⟨fun h => ⟨h.2.2, h.2.1, h.1⟩, fun h => ⟨h.2.2, h.2.1, h.1⟩⟩⟩
  ·have h2 : ¬ (a < c ∨ (a = c ∧ 0 ≤ b)) := fun x => hr ⟨hN, x⟩
   by_cases hac : a = c
   ·refine .inr (.inr ⟨hN, ⟨?_, .inr ?_⟩, ?_⟩) <;> omega
   ·exact .inr (.inl ⟨hN, by omega⟩)
 ·have hf := zFB (a := a - b) (m := 2 * a) (by omega) (by omega) (by omega) (by omega)
  have e1 := Int.emod_nonneg (a - b) (b := 2 * a) (by omega)
  have e2 := Int.emod_lt_of_pos (a - b) (b := 2 * a) (by omega)
  have e3 := Int.emod_add_mul_ediv (a - b) (2 * a)
  generalize hs : (a - b) / (2 * a) = s at *
  generalize hq : (a - b) % (2 * a) = q at *
  have hs1 : s ≤ 1000000 := by
   rcases Int.lt_or_le 1000000 s with h | h
   ·have : 2 * a * 1000001 ≤ 2 * a * s := Int.mul_le_mul_of_nonneg_left (by omega) (by omega)
    omega
   ·exact h
  have hs2 : -1000001 ≤ s := by
   rcases Int.lt_or_le s (-1000001) with h | h
   ·have : 2 * a * s ≤ 2 * a * (-1000002) := Int.mul_le_mul_of_nonneg_left (by omega) (by omega)
    omega
   ·exact h
  have hst : qW (a, b, c) = some (1, s, 0, 1) := by
   simp only [qW, zHa a1 aM, hn, Option.bind_some, decide_eq_false hr, decide_eq_false hN, cond_false, Bool.not_false, cond_true]
   rw [zJ (n := a - b) (by omega), zJ (n := 2 * a) (by omega), hf]
   rfl
  have hb : -a < 2 * a * s + b ∧ 2 * a * s + b ≤ a := by omega
  have hid : 4 * a * (a * s * s + b * s + c) = (2 * a * s + b) * (2 * a * s + b) - d := by grind
  have hsq : 0 ≤ (2 * a * s + b) * (2 * a * s + b) := by
   rcases Int.le_total 0 (2 * a * s + b) with h | h
   ·exact Int.mul_nonneg h h
   ·exact Int.mul_nonneg_of_nonpos_of_nonpos h h
  have hsq2 : (2 * a * s + b) * (2 * a * s + b) ≤ a * a := by
   have := q7 (x := 2 * a * s + b) (y := 2 * a * s + b) (A := a.natAbs) (B := a.natAbs) (by omega) (by omega)
   have h2 : ((2 * a * s + b) * (2 * a * s + b)).natAbs ≤ (a * a).natAbs := by rw [Int.natAbs_mul a a]; exact this
   have h3 : 0 ≤ a * a := Int.mul_nonneg (by omega) (by omega)
   omega
  have hbb : 0 ≤ b * b := by
   rcases Int.le_total 0 b with h | h
   ·exact Int.mul_nonneg h h
   ·exact Int.mul_nonneg_of_nonpos_of_nonpos h h
  have hc : 1 ≤ a * s * s + b * s + c := by
   rcases Int.lt_or_le 0 (a * s * s + b * s + c) with h | h
   ·exact h
   ·have : 4 * a * (a * s * s + b * s + c) ≤ 4 * a * 0 := Int.mul_le_mul_of_nonneg_left h (by omega)
    omega
  have hcc : c ≤ 1000000 := nrm.resolve_left hN
  have hcM : a * s * s + b * s + c ≤ 1250000 := by
   have h4 : 4 * a * (a * s * s + b * s + c) ≤ a * a + 4 * a * c := by omega
   have h5 : a * a + 4 * a * c ≤ a * 5000000 := by
    have : a * (a + 4 * c) ≤ a * 5000000 := Int.mul_le_mul_of_nonneg_left (by omega) (by omega)
    have e : a * (a + 4 * c) = a * a + 4 * a * c := by grind
    omega
   rcases Int.lt_or_le 1250000 (a * s * s + b * s + c) with h | h
   ·have : 4 * a * 1250001 ≤ 4 * a * (a * s * s + b * s + c) := Int.mul_le_mul_of_nonneg_left (by omega) (by omega)
    omega
   ·exact h
  have hcon : ∀ k : Int, (k ∣ a ∧ k ∣ 2 * a * s + b ∧ k ∣ a * s * s + b * s + c) ↔ k ∣ g := by
   intro k
   rw [← con k]
   constructor
   ·rintro ⟨u1, u2, u3⟩
    have v1 : k ∣ b := by
     have w1 : k ∣ 2 * a * s := Int.dvd_mul_of_dvd_left (Int.dvd_mul_of_dvd_right u1)
     exact (Int.dvd_add_right w1).1 u2
    have w2 : k ∣ a * s * s + b * s := Int.dvd_add (Int.dvd_mul_of_dvd_left (Int.dvd_mul_of_dvd_left u1)) (Int.dvd_mul_of_dvd_left v1)
    exact ⟨u1, v1, (Int.dvd_add_right w2).1 u3⟩
   ·rintro ⟨u1, u2, u3⟩
    have w1 : k ∣ 2 * a * s := Int.dvd_mul_of_dvd_left (Int.dvd_mul_of_dvd_right u1)
    have w2 : k ∣ a * s * s + b * s := Int.dvd_add (Int.dvd_mul_of_dvd_left (Int.dvd_mul_of_dvd_left u1)) (Int.dvd_mul_of_dvd_left u2)
    exact ⟨u1, Int.dvd_add w1 u2, Int.dvd_add w2 u3⟩
  refine ⟨_, a, 2 * a * s + b, a * s * s + b * s + c, hst, zJd (by omega) (by omega) (by omega) (by omega), ⟨a1, aM, by omega, by omega, hc, hcM, by grind, neg, .inl hb, hcon⟩, .inl ⟨hN, rfl, hb⟩⟩
theorem times_some (m n : Int × Int × Int × Int) : ∃ y, qG m n = some y := by
 simp only [qG, qA]
 exact ⟨_, rfl⟩
theorem red_run : ∀ (n : Nat) (a b c d g p q r s : Int), RedInv a b c d g → 4 * a + (if -a < b ∧ b ≤ a then 0 else 2) + (if zCg a b c then 0 else 1) ≤ (n : Int) →
  ∃ m1 m2 m3 m4 a2 b2 c2, zAk n p q r s a b c = some (m1, m2, m3, m4, a2, b2, c2) ∧ zB3 n p q r s a b c = some (m1, m2, m3, m4, a2, b2, c2) ∧ RedInv a2 b2 c2 d g ∧ zCg a2 b2 c2
 | 0, a, b, c, d, g, p, q, r, s, h, hm => by
  have := h.a1
  split at hm <;> split at hm <;> omega
 | n + 1, a, b, c, d, g, p, q, r, s, h, hm => by
  unfold zAk zB3
  rw [dsc_is, zHa h.a1 h.aM]
  by_cases hr : zCg a b c
  ·refine ⟨p, q, r, s, a, b, c, ?_, ?_, h, hr⟩ <;> simp [hr]
  ·obtain ⟨m, a2, b2, c2, h1, h2, h3, h4⟩ := red_step h hr
   obtain ⟨y, hy⟩ := times_some (p, q, r, s) m
   obtain ⟨y1, y2, y3, y4⟩ := y
   have hstep : zDO (a, b, c) = qW (a, b, c) := dsc_step h.a1 (by have := h.aM; omega) (by have := h.b1; omega) (by have := h.b2; omega) (by rw [zHa h.a1 h.aM, decide_eq_false hr])
   have e1 : (!decide (zCg a b c)) = true := by simp [hr]
   simp only [Option.bind_some, hstep, h1, dsc_act, dsc_mul, h2, hy, e1, cond_true]
   refine red_run n a2 b2 c2 d g y1 y2 y3 y4 h3 ?_
   rcases h4 with ⟨g1, g2, g3⟩ | ⟨g1, g2⟩ | ⟨g1, g2, g3⟩
   ·rw [if_neg g1, if_neg hr] at hm
    rw [if_pos g3]
    split <;> omega
   ·rw [if_pos g1, if_neg hr] at hm
    split <;> split <;> omega
   ·rw [if_pos g1, if_neg hr] at hm
    rw [if_pos g2.1, if_pos g2]
    omega
theorem red_both {a b c d g : Int} (h : RedInv a b c d g) : ∃ m a2 b2 c2, zAs (a, b, c) = some ((a2, b2, c2), m) ∧ jN (a, b, c) = some ((a2, b2, c2), m) ∧ RedInv a2 b2 c2 d g ∧ zCg a2 b2 c2 := by
 obtain ⟨m1, m2, m3, m4, a2, b2, c2, h1, h2, h3, h4⟩ := red_run FU a b c d g 1 0 0 1 h (by
  have e : ((FU : Nat) : Int) = 1000000000 := rfl
  rw [e]
  have := h.aM
  split <;> split <;> omega)
 refine ⟨(m1, m2, m3, m4), a2, b2, c2, ?_, ?_, h3, h4⟩
 ·simp only [zAs, zEs, Option.bind_some, h1]
 ·simp only [jN, h2, Option.bind_some]
theorem red_of_class {a b c : Int} (h : qC (a, b, c) = some true) : RedInv a b c (b * b - 4 * a * c) 1 := by
 obtain ⟨ha, hb, hc, hneg, hbig, hpos, hg⟩ := zGq h
 rw [zEJ] at ha hb hc
 have hbb : 0 ≤ b * b := by
  rcases Int.le_total 0 b with h | h
  ·exact Int.mul_nonneg h h
  ·exact Int.mul_nonneg_of_nonpos_of_nonpos h h
 have hc1 : 1 ≤ c := by
  rcases Int.lt_or_le 0 c with h | h
  ·exact h
  ·have : 4 * a * c ≤ 4 * a * 0 := Int.mul_le_mul_of_nonneg_left h (by omega)
   omega
 refine ⟨by omega, by omega, by omega, by omega, hc1, by omega, rfl, hneg, .inr (by omega), fun k => ?_⟩
 constructor
 ·rintro ⟨u1, u2, u3⟩
  have h1 : k ∣ (Int.gcd b c : Int) := Int.dvd_coe_gcd u2 u3
  have h2 : k ∣ (Int.gcd a (Int.gcd b c) : Int) := Int.dvd_coe_gcd u1 h1
  rw [hg] at h2
  exact h2
 ·intro h1
  exact ⟨Int.dvd_trans h1 (Int.one_dvd _), Int.dvd_trans h1 (Int.one_dvd _), Int.dvd_trans h1 (Int.one_dvd _)⟩
theorem zGL (x : Int) : 0 ≤ x * x := by
 rcases Int.le_total 0 x with h | h
 ·exact Int.mul_nonneg h h
 ·exact Int.mul_nonneg_of_nonpos_of_nonpos h h
theorem abs_of_sq {x : Int} {M N : Nat} (h : x * x ≤ (N : Int)) (hM : N < (M + 1) * (M + 1)) : x.natAbs ≤ M := by
 rcases Nat.lt_or_ge M x.natAbs with h1 | h1
 ·have h2 : (M + 1) * (M + 1) ≤ x.natAbs * x.natAbs := Nat.mul_le_mul h1 h1
  have h3 : x * x = ((x.natAbs * x.natAbs : Nat) : Int) := Int.natAbs_mul_self.symm
  omega
 ·exact h1
theorem quad_id {A B C d x y v : Int} (hd : B * B - 4 * A * C = d) (hv : A * x * x + B * x * y + C * y * y = v) : (-d) * (x * x) + (2 * C * y + B * x) * (2 * C * y + B * x) = 4 * C * v := by
 subst hd hv
 grind
theorem ent_le {A B C d x y v : Int} (hd : B * B - 4 * A * C = d) (hv : A * x * x + B * x * y + C * y * y = v) : (-d) * (x * x) ≤ 4 * C * v := by
 have h1 := quad_id hd hv
 have h2 := zGL (2 * C * y + B * x)
 omega
theorem ent_bd {A B C d x y v : Int} (hd : B * B - 4 * A * C = d) (hneg : d < 0) (hC1 : 1 ≤ C) (hC : C ≤ 1000000) (hv : A * x * x + B * x * y + C * y * y = v) (hv2 : v ≤ 1250000) : x.natAbs ≤ 2300000 := by
 have h1 := ent_le hd hv
 have h2 : 1 * (x * x) ≤ (-d) * (x * x) := Int.mul_le_mul_of_nonneg_right (by omega) (zGL x)
 have h3 : 4 * C * v ≤ 4 * C * 1250000 := Int.mul_le_mul_of_nonneg_left hv2 (by omega)
 exact abs_of_sq (N := 5000000000000) (by omega) (by decide)
structure MatInv (A B C p q r s a b c : Int) : Prop where
  e1 : A * p * p + B * p * r + C * r * r = a
  e2 : 2 * A * p * q + B * (p * s + q * r) + 2 * C * r * s = b
  e3 : A * q * q + B * q * s + C * s * s = c
  dt : p * s - q * r = 1
theorem MatInv.swap {A B C p q r s a b c : Int} (h : MatInv A B C p q r s a b c) : MatInv A B C q (-p) s (-r) c (-b) a := by
 obtain ⟨e1, e2, e3, dt⟩ := h
 exact ⟨e3, by grind, by grind, by grind⟩
theorem MatInv.norm {A B C p q r s a b c : Int} (t : Int) (h : MatInv A B C p q r s a b c) : MatInv A B C p (p * t + q) r (r * t + s) a (2 * a * t + b) (a * t * t + b * t + c) := by
 obtain ⟨e1, e2, e3, dt⟩ := h
 exact ⟨e1, by grind, by grind, by grind⟩
theorem step_cases {a b c d g : Int} (h : RedInv a b c d g) (hr : ¬ zCg a b c) : qW (a, b, c) = some (0, -1, 1, 0) ∨ ∃ t, -1000001 ≤ t ∧ t ≤ 1000000 ∧ qW (a, b, c) = some (1, t, 0, 1) := by
 obtain ⟨a1, aM, b1, b2, c1, cM, dis, neg, nrm, con⟩ := h
 have hn : qN (a, b, c) = some (decide (-a < b ∧ b ≤ a)) := by
  simp only [qN, Option.bind_some, zP, q9]
  rw [zJ (by omega)]
  by_cases h1 : -a < b <;> by_cases h2 : b ≤ a <;> simp [h1, h2]
  all_goals omega
 by_cases hN : -a < b ∧ b ≤ a
 ·left
  simp only [qW, zHa a1 aM, hn, Option.bind_some, decide_eq_false hr, decide_eq_true hN]
  rfl
 ·right
  have hf := zFB (a := a - b) (m := 2 * a) (by omega) (by omega) (by omega) (by omega)
  have e1 := Int.emod_nonneg (a - b) (b := 2 * a) (by omega)
  have e2 := Int.emod_lt_of_pos (a - b) (b := 2 * a) (by omega)
  have e3 := Int.emod_add_mul_ediv (a - b) (2 * a)
  generalize hs : (a - b) / (2 * a) = s at *
  generalize hq : (a - b) % (2 * a) = q at *
  have hs1 : s ≤ 1000000 := by
   rcases Int.lt_or_le 1000000 s with h | h
   ·have : 2 * a * 1000001 ≤ 2 * a * s := Int.mul_le_mul_of_nonneg_left (by omega) (by omega)
    omega
   ·exact h
  have hs2 : -1000001 ≤ s := by
   rcases Int.lt_or_le s (-1000001) with h | h
   ·have : 2 * a * s ≤ 2 * a * (-1000002) := Int.mul_le_mul_of_nonneg_left (by omega) (by omega)
    omega
   ·exact h
  refine ⟨s, hs2, hs1, ?_⟩
  simp only [qW, zHa a1 aM, hn, Option.bind_some, decide_eq_false hr, decide_eq_false hN, cond_false, Bool.not_false, cond_true]
  rw [zJ (n := a - b) (by omega), zJ (n := 2 * a) (by omega), hf]
  rfl
theorem times_swap {p q r s : Int} (hp : p.natAbs ≤ 2300000) (hq : q.natAbs ≤ 2300000) (hr : r.natAbs ≤ 2300000) (hs : s.natAbs ≤ 2300000) : qG (p, q, r, s) (0, -1, 1, 0) = some (q, -p, s, -r) := by
 simp only [qG, qA, Int.mul_zero, Int.mul_one]
 have e : ∀ x : Int, x * -1 = -x := fun x => by omega
 rw [e p, e r, zJ (n := 0) (by omega), zJ (n := q) (by omega), zJ (n := -p) (by omega), zJ (n := s) (by omega), zJ (n := -r) (by omega), zJ (n := 0 + q) (by omega), zJ (n := -p + 0) (by omega), zJ (n := 0 + s) (by omega), zJ (n := -r + 0) (by omega)]
 simp
theorem times_norm {p q r s t : Int} (hp : p.natAbs ≤ 2300000) (hq : q.natAbs ≤ 2300000) (hr : r.natAbs ≤ 2300000) (hs : s.natAbs ≤ 2300000) (ht : t.natAbs ≤ 1000001) : qG (p, q, r, s) (1, t, 0, 1) = some (p, p * t + q, r, r * t + s) := by
 have m1 := q7 hp ht
 have m2 := q7 hr ht
 simp only [qG, qA, Int.mul_zero, Int.mul_one]
 rw [zJ (n := 0) (by omega), zJ (n := q) (by omega), zJ (n := p) (by omega), zJ (n := s) (by omega), zJ (n := r) (by omega), zJ (n := p * t) (by omega), zJ (n := r * t) (by omega), zJ (n := p + 0) (by omega), zJ (n := p * t + q) (by omega), zJ (n := r + 0) (by omega), zJ (n := r * t + s) (by omega)]
 simp
theorem mat_run {A B C : Int} (hA1 : 1 ≤ A) (hA : A ≤ 1000000) (hC1 : 1 ≤ C) (hC : C ≤ 1000000) : ∀ (n : Nat) (a b c d g p q r s : Int), B * B - 4 * A * C = d → RedInv a b c d g → MatInv A B C p q r s a b c → 4 * a + (if -a < b ∧ b ≤ a then 0 else 2) + (if zCg a b c then 0 else 1) ≤ (n : Int) →
  ∃ m1 m2 m3 m4 a2 b2 c2, zAk n p q r s a b c = some (m1, m2, m3, m4, a2, b2, c2) ∧ RedInv a2 b2 c2 d g ∧ zCg a2 b2 c2 ∧ MatInv A B C m1 m2 m3 m4 a2 b2 c2
 | 0, a, b, c, d, g, p, q, r, s, hd, h, hv, hm => by
  have := h.a1
  split at hm <;> split at hm <;> omega
 | n + 1, a, b, c, d, g, p, q, r, s, hd, h, hv, hm => by
  unfold zAk
  rw [zHa h.a1 h.aM]
  by_cases hr : zCg a b c
  ·refine ⟨p, q, r, s, a, b, c, ?_, h, hr, hv⟩
   simp [hr]
  ·obtain ⟨m, a2, b2, c2, h1, h2, h3, h4⟩ := red_step h hr
   have hdS : B * B - 4 * C * A = d := by rw [← hd]; grind
   have bp := ent_bd hd h.neg hC1 hC hv.e1 (by have := h.aM; omega)
   have bq := ent_bd hd h.neg hC1 hC hv.e3 h.cM
   have br := ent_bd (A := C) (C := A) (x := r) (y := p) hdS h.neg hA1 hA (v := a) (by have := hv.e1; grind) (by have := h.aM; omega)
   have bs := ent_bd (A := C) (C := A) (x := s) (y := q) hdS h.neg hA1 hA (v := c) (by have := hv.e3; grind) h.cM
   have e1 : (!decide (zCg a b c)) = true := by simp [hr]
   have hmeas : 4 * a2 + (if -a2 < b2 ∧ b2 ≤ a2 then 0 else 2) + (if zCg a2 b2 c2 then 0 else 1) ≤ (n : Int) := by
    rcases h4 with ⟨g1, g2, g3⟩ | ⟨g1, g2⟩ | ⟨g1, g2, g3⟩
    ·rw [if_neg g1, if_neg hr] at hm
     rw [if_pos g3]
     split <;> omega
    ·rw [if_pos g1, if_neg hr] at hm
     split <;> split <;> omega
    ·rw [if_pos g1, if_neg hr] at hm
     rw [if_pos g2.1, if_pos g2]
     omega
   have ha := h.a1
   have hb1 := h.b1
   have hb2 := h.b2
   have haM := h.aM
   have hc1 := h.c1
   have hcM := h.cM
   rcases step_cases h hr with hs | ⟨t, t1, t2, hs⟩
   ·rw [hs] at h1
    have hm0 := zB h1
    subst hm0
    have hsub := zJc (a := a) (b := b) (c := c) (by omega) (by omega) (by omega)
    rw [hsub] at h2
    obtain ⟨ea, hbc⟩ := Prod.mk.inj (zB h2)
    obtain ⟨eb, ec⟩ := Prod.mk.inj hbc
    rw [← ea, ← eb, ← ec] at h3 hmeas
    simp only [Option.bind_some, hs, hsub, times_swap bp bq br bs, e1, cond_true]
    exact mat_run hA1 hA hC1 hC n _ _ _ d g _ _ _ _ hd h3 hv.swap hmeas
   ·rw [hs] at h1
    have hm0 := zB h1
    subst hm0
    have hsub := zJd (a := a) (b := b) (c := c) (s := t) (by omega) (by omega) (by omega) (by omega)
    rw [hsub] at h2
    obtain ⟨ea, hbc⟩ := Prod.mk.inj (zB h2)
    obtain ⟨eb, ec⟩ := Prod.mk.inj hbc
    rw [← ea, ← eb, ← ec] at h3 hmeas
    simp only [Option.bind_some, hs, hsub, times_norm bp bq br bs (t := t) (by omega), e1, cond_true]
    exact mat_run hA1 hA hC1 hC n _ _ _ d g _ _ _ _ hd h3 (hv.norm t) hmeas
theorem zIH {A B C d x y v a b c : Int} (hd : B * B - 4 * A * C = d) (hC1 : 1 ≤ C) (hC : C ≤ 1000000) (hdis : b * b - 4 * a * c = d) (hred : zCg a b c) (ha : 1 ≤ a) (hv : A * x * x + B * x * y + C * y * y = v) (hv2 : v = a ∨ v = c) : x.natAbs ≤ 2000 := by
 have h1 := ent_le hd hv
 obtain ⟨⟨b1, b2⟩, hr⟩ := hred
 have hac : a ≤ c := by omega
 have hbb : b * b ≤ a * a := by
  have := q7 (x := b) (y := b) (A := a.natAbs) (B := a.natAbs) (by omega) (by omega)
  have h2 : (b * b).natAbs ≤ (a * a).natAbs := by rw [Int.natAbs_mul a a]; exact this
  have h3 := zGL a
  have h4 := zGL b
  omega
 have haa : a * a ≤ a * c := Int.mul_le_mul_of_nonneg_left hac (by omega)
 have hD : 3 * (a * c) ≤ -d := by
  have : 4 * a * c = 4 * (a * c) := by rw [Int.mul_assoc]
  omega
 have hxx := zGL x
 have h5 : 3 * (a * c) * (x * x) ≤ (-d) * (x * x) := Int.mul_le_mul_of_nonneg_right hD hxx
 have h6 : 4 * C * v ≤ 4000000 * v := Int.mul_le_mul_of_nonneg_right (by omega) (by omega)
 have h7 : 3 * (a * c) * (x * x) ≤ 4000000 * v := by omega
 -- divide by v
 have h8 : 3 * (x * x) ≤ 4000000 := by
  rcases Int.lt_or_le 4000000 (3 * (x * x)) with h | h
  ·exfalso
   rcases hv2 with rfl | rfl
   ·have h9 : v * (3 * (x * x)) ≤ v * (3 * (c * (x * x))) := Int.mul_le_mul_of_nonneg_left (by
     have : 1 * (x * x) ≤ c * (x * x) := Int.mul_le_mul_of_nonneg_right (by omega) hxx
     omega) (by omega)
    have h10 : v * (3 * (c * (x * x))) = 3 * (v * c) * (x * x) := by grind
    have h11 : v * 4000001 ≤ v * (3 * (x * x)) := Int.mul_le_mul_of_nonneg_left (by omega) (by omega)
    omega
   ·have h9 : v * (3 * (x * x)) ≤ v * (3 * (a * (x * x))) := Int.mul_le_mul_of_nonneg_left (by
     have : 1 * (x * x) ≤ a * (x * x) := Int.mul_le_mul_of_nonneg_right (by omega) hxx
     omega) (by omega)
    have h10 : v * (3 * (a * (x * x))) = 3 * (a * v) * (x * x) := by grind
    have h11 : v * 4000001 ≤ v * (3 * (x * x)) := Int.mul_le_mul_of_nonneg_left (by omega) (by omega)
    omega
  ·exact h
 exact abs_of_sq (N := 1333334) (by omega) (by decide)
theorem red_full {a b c g : Int} (hi : RedInv a b c (b * b - 4 * a * c) g) (hcM : c ≤ 1000000) : ∃ m1 m2 m3 m4 a2 b2 c2, zAs (a, b, c) = some ((a2, b2, c2), (m1, m2, m3, m4)) ∧ jN (a, b, c) = some ((a2, b2, c2), (m1, m2, m3, m4)) ∧ RedInv a2 b2 c2 (b * b - 4 * a * c) g ∧ zCg a2 b2 c2 ∧ MatInv a b c m1 m2 m3 m4 a2 b2 c2 ∧ m1.natAbs ≤ 2000 ∧ m2.natAbs ≤ 2000 ∧ m3.natAbs ≤ 2000 ∧ m4.natAbs ≤ 2000 := by
 obtain ⟨m, a2, b2, c2, k1, k2, k3, k4⟩ := red_both hi
 obtain ⟨m1, m2, m3, m4, a3, b3, c3, q1, q2, q3, q4⟩ := mat_run (B := b) hi.a1 hi.aM hi.c1 hcM FU a b c _ g 1 0 0 1 rfl hi ⟨by grind, by grind, by grind, by decide⟩ (by
  have e : ((FU : Nat) : Int) = 1000000000 := rfl
  rw [e]
  have := hi.aM
  split <;> split <;> omega)
 have k1' : zAs (a, b, c) = some ((a3, b3, c3), (m1, m2, m3, m4)) := by
  simp only [zAs, zEs, Option.bind_some, q1]
 rw [k1] at k1'
 have e := zB k1'
 obtain ⟨e1, rfl⟩ := Prod.mk.inj e
 obtain ⟨rfl, e2⟩ := Prod.mk.inj e1
 obtain ⟨rfl, rfl⟩ := Prod.mk.inj e2
 have hdS : b * b - 4 * c * a = b * b - 4 * a * c := by grind
 have s1 := zIH (A := a) (B := b) (C := c) (x := m1) (y := m3) rfl hi.c1 hcM q2.dis q3 q2.a1 q4.e1 (.inl rfl)
 have s2 := zIH (A := a) (B := b) (C := c) (x := m2) (y := m4) rfl hi.c1 hcM q2.dis q3 q2.a1 q4.e3 (.inr rfl)
 have s3 := zIH (A := c) (B := b) (C := a) (x := m3) (y := m1) (v := a2) hdS hi.a1 hi.aM q2.dis q3 q2.a1 (by have := q4.e1; grind) (.inl rfl)
 have s4 := zIH (A := c) (B := b) (C := a) (x := m4) (y := m2) (v := c2) hdS hi.a1 hi.aM q2.dis q3 q2.a1 (by have := q4.e3; grind) (.inr rfl)
 exact ⟨m1, m2, m3, m4, a2, b2, c2, k1, k2, q2, q3, q4, s1, s2, s3, s4⟩
def bv (x : Int) : BitVec 64 := BitVec.ofInt 64 x
theorem w64_bv (x : Int) : w64 x = (bv x).toInt := by
 rw [zIe, bv, BitVec.toInt_ofInt, IntKind.wrap_i64, Int.bmod_def]
 omega
theorem zK0 (x : Int) : bv (w64 x) = bv x := by
 rw [w64_bv]
 unfold bv
 rw [BitVec.ofInt_toInt]
theorem zF2 {x y : Int} (h : bv x = bv y) : w64 x = w64 y := by rw [w64_bv, w64_bv, h]
theorem zMG (x y : Int) : bv (x + y) = bv x + bv y := BitVec.ofInt_add x y
theorem bv_mul (x y : Int) : bv (x * y) = bv x * bv y := BitVec.ofInt_mul x y
theorem bv_sub (x y : Int) : bv (x - y) = bv x - bv y := by
 rw [Int.sub_eq_add_neg, zMG]
 unfold bv
 rw [BitVec.ofInt_neg, BitVec.sub_eq_add_neg]
theorem wml (x y : Int) : w64 (w64 x * y) = w64 (x * y) := zF2 (by rw [bv_mul, bv_mul, zK0])
theorem wmr (x y : Int) : w64 (x * w64 y) = w64 (x * y) := zF2 (by rw [bv_mul, bv_mul, zK0])
theorem wal (x y : Int) : w64 (w64 x + y) = w64 (x + y) := zF2 (by rw [zMG, zMG, zK0])
theorem war (x y : Int) : w64 (x + w64 y) = w64 (x + y) := zF2 (by rw [zMG, zMG, zK0])
theorem wsl (x y : Int) : w64 (w64 x - y) = w64 (x - y) := zF2 (by rw [bv_sub, bv_sub, zK0])
theorem wsr (x y : Int) : w64 (x - w64 y) = w64 (x - y) := zF2 (by rw [bv_sub, bv_sub, zK0])
theorem at_w (a b c x y : Int) : zAt (a, b, c) x y = some (w64 (a * x * x + b * x * y + c * y * y)) := by
 simp only [zAt, qA, wml, wmr, wal, war, wsl, wsr]
theorem polar_w (a b c x y u v : Int) : zAl (a, b, c) x y u v = some (w64 (2 * a * x * u + b * (x * v + y * u) + 2 * c * y * v)) := by
 simp only [zAl, qA, wml, wmr, wal, war, wsl, wsr]
theorem sub_w (a b c p q r s : Int) : qF (a, b, c) (p, q, r, s) = some (w64 (a * p * p + b * p * r + c * r * r), w64 (2 * a * p * q + b * (p * s + r * q) + 2 * c * r * s), w64 (a * q * q + b * q * s + c * s * s)) := by
 simp only [qF, at_w, polar_w, Option.bind_some]
theorem times_w (p q r s p' q' r' s' : Int) : qG (p, q, r, s) (p', q', r', s') = some (w64 (p * p' + q * r'), w64 (p * q' + q * s'), w64 (r * p' + s * r'), w64 (r * q' + s * s')) := by
 simp only [qG, qA, wml, wmr, wal, war, wsl, wsr]
theorem disc_w (a b c : Int) : qI (a, b, c) = some (w64 (b * b - 4 * a * c)) := by
 simp only [qI, qA, wml, wmr, wal, war, wsl, wsr]
end Go.Proofs.YtfmjfofocklgpaaGreatDoor
namespace Go.Proofs.YtfmjfofocklgpaaGreatDoor
def ptG (a A B C x y : Nat) : Bool := Nat.beq (Nat.gcd (Nat.add (Nat.add (Nat.mul A (Nat.mul x x)) (Nat.mul B (Nat.mul x y))) (Nat.mul C (Nat.mul y y))) a) 1
def ptA (a A B C : Nat) : Bool := bif ptG a A B C 0 1 then true else bif ptG a A B C 1 0 then true else bif ptG a A B C 1 1 then true else bif ptG a A B C 1 2 then true else bif ptG a A B C 2 1 then true else bif ptG a A B C 1 3 then true else bif ptG a A B C 2 3 then true else bif ptG a A B C 3 1 then true else ptG a A B C 3 2
def ptC (a A B : Nat) : Nat → Bool
 | 0 => true
 | k + 1 => bif (bif Nat.beq (Nat.gcd (Nat.gcd A B) (Nat.gcd k a)) 1 then ptA a A B k else true) then ptC a A B k else false
def ptB (a A : Nat) : Nat → Bool
 | 0 => true
 | k + 1 => bif ptC a A k a then ptB a A k else false
def ptD (a : Nat) : Nat → Bool
 | 0 => true
 | k + 1 => bif ptB a k a then ptD a k else false
def ptE : Nat → Bool
 | 0 => true
 | k + 1 => bif ptD (Nat.succ k) (Nat.succ k) then ptE k else false
theorem ptE_ok : ptE 25 = true := by decide +kernel
theorem zLK {a b : Bool} (h : (bif a then b else false) = true) : a = true ∧ b = true := by cases a <;> simp_all
theorem ptC_all {a A B : Nat} : ∀ k, ptC a A B k = true → ∀ C, C < k → Nat.gcd (Nat.gcd A B) (Nat.gcd C a) = 1 → ptA a A B C = true
 | 0, _, C, hC, _ => by omega
 | k + 1, h, C, hC, hg => by
  obtain ⟨h1, h2⟩ := zLK h
  by_cases e : C = k
  ·subst e
   have : Nat.beq (Nat.gcd (Nat.gcd A B) (Nat.gcd C a)) 1 = true := by rw [Nat.beq_eq]; exact hg
   rw [this, cond_true] at h1
   exact h1
  ·exact ptC_all k h2 C (by omega) hg
theorem ptB_all {a A : Nat} : ∀ k, ptB a A k = true → ∀ B, B < k → ptC a A B a = true
 | 0, _, C, hC => by omega
 | k + 1, h, C, hC => by
  obtain ⟨h1, h2⟩ := zLK h
  by_cases e : C = k
  ·subst e; exact h1
  ·exact ptB_all k h2 C (by omega)
theorem ptD_all {a : Nat} : ∀ k, ptD a k = true → ∀ A, A < k → ptB a A a = true
 | 0, _, C, hC => by omega
 | k + 1, h, C, hC => by
  obtain ⟨h1, h2⟩ := zLK h
  by_cases e : C = k
  ·subst e; exact h1
  ·exact ptD_all k h2 C (by omega)
theorem ptE_all : ∀ k, ptE k = true → ∀ a, a < k → ptD (a + 1) (a + 1) = true
 | 0, _, C, hC => by omega
 | k + 1, h, C, hC => by
  obtain ⟨h1, h2⟩ := zLK h
  by_cases e : C = k
  ·subst e; exact h1
  ·exact ptE_all k h2 C (by omega)
theorem pt_nat {a A B C : Nat} (h1 : 1 ≤ a) (h2 : a ≤ 25) (hA : A < a) (hB : B < a) (hC : C < a) (hg : Nat.gcd (Nat.gcd A B) (Nat.gcd C a) = 1) : ptA a A B C = true := by
 have e := ptE_all 25 ptE_ok (a - 1) (by omega)
 rw [show a - 1 + 1 = a by omega] at e
 exact ptC_all a (ptB_all a (ptD_all a e A hA) B hB) C hC hg
def ptL : List (Int × Int) := [(0, 1), (1, 0), (1, 1), (1, 2), (2, 1), (1, 3), (2, 3), (3, 1), (3, 2)]
theorem gcd_of' {g x y : Int} (h : ∀ c : Int, c ∣ g → (c ∣ x ↔ c ∣ y)) : Int.gcd g x = Int.gcd g y := by
 refine Nat.dvd_antisymm ?_ ?_ <;> apply Int.natCast_dvd_natCast.1
 ·exact Int.dvd_coe_gcd (Int.gcd_dvd_left _ _) ((h _ (Int.gcd_dvd_left _ _)).1 (Int.gcd_dvd_right _ _))
 ·exact Int.dvd_coe_gcd (Int.gcd_dvd_left _ _) ((h _ (Int.gcd_dvd_left _ _)).2 (Int.gcd_dvd_right _ _))
theorem gcd_mod {v a : Int} {n : Nat} (ha : 1 ≤ a) (hn : a ∣ v - (n : Int)) : Int.gcd v a = Nat.gcd n a.toNat := by
 obtain ⟨k, hk⟩ := hn
 have e : v = (n : Int) + a * k := by omega
 rw [e, Int.gcd_comm, gcd_of' (y := (n : Int)) (fun c hc => by
  obtain ⟨j, hj⟩ := hc
  constructor
  ·rintro ⟨i, hi⟩; exact ⟨i - j * k, by rw [Int.mul_sub, ← Int.mul_assoc, ← hj]; omega⟩
  ·rintro ⟨i, hi⟩; exact ⟨i + j * k, by rw [Int.mul_add, ← Int.mul_assoc, ← hj]; omega⟩), Int.gcd_comm]
 unfold Int.gcd
 rw [Int.natAbs_natCast]
 congr 1
 omega
theorem zLo {x a : Int} (ha : 1 ≤ a) : a ∣ x - ((x % a).toNat : Int) ∧ (x % a).toNat < a.toNat := by
 have h1 := Int.emod_nonneg x (b := a) (by omega)
 have h2 := Int.emod_lt_of_pos x (b := a) (by omega)
 have h3 := Int.emod_add_mul_ediv x a
 exact ⟨⟨x / a, by omega⟩, by omega⟩
theorem pt_ex {a A B C : Int} (h1 : 1 ≤ a) (h2 : a ≤ 25) (hp : ∀ k : Int, k ∣ A → k ∣ B → k ∣ C → k ∣ 1) : ∃ p, p ∈ ptL ∧ Int.gcd (A * p.1 * p.1 + B * p.1 * p.2 + C * p.2 * p.2) a = 1 := by
 obtain ⟨a1, a2⟩ := zLo (x := A) h1
 obtain ⟨b1, b2⟩ := zLo (x := B) h1
 obtain ⟨c1, c2⟩ := zLo (x := C) h1
 generalize (A % a).toNat = A' at *
 generalize (B % a).toNat = B' at *
 generalize (C % a).toNat = C' at *
 have hg : Nat.gcd (Nat.gcd A' B') (Nat.gcd C' a.toNat) = 1 := by
  generalize hG : Nat.gcd (Nat.gcd A' B') (Nat.gcd C' a.toNat) = G
  have g1 : G ∣ A' := hG ▸ Nat.dvd_trans (Nat.gcd_dvd_left _ _) (Nat.gcd_dvd_left _ _)
  have g2 : G ∣ B' := hG ▸ Nat.dvd_trans (Nat.gcd_dvd_left _ _) (Nat.gcd_dvd_right _ _)
  have g3 : G ∣ C' := hG ▸ Nat.dvd_trans (Nat.gcd_dvd_right _ _) (Nat.gcd_dvd_left _ _)
  have g4 : G ∣ a.toNat := hG ▸ Nat.dvd_trans (Nat.gcd_dvd_right _ _) (Nat.gcd_dvd_right _ _)
  have g5 : (G : Int) ∣ a := by
   have : ((a.toNat : Nat) : Int) = a := by omega
   rw [← this]; exact Int.natCast_dvd_natCast.2 g4
  have up : ∀ {X : Int} {X' : Nat}, a ∣ X - (X' : Int) → G ∣ X' → (G : Int) ∣ X := by
   intro X X' u1 u2
   obtain ⟨i, hi⟩ := Int.dvd_trans g5 u1
   obtain ⟨j, hj⟩ := Int.natCast_dvd_natCast.2 u2
   exact ⟨i + j, by rw [Int.mul_add]; omega⟩
  have h := hp G (up a1 g1) (up b1 g2) (up c1 g3)
  have := Int.natCast_dvd_natCast.1 (show (G : Int) ∣ ((1 : Nat) : Int) from h)
  exact Nat.dvd_one.1 this
 have k := pt_nat (by omega) (by omega) a2 b2 c2 hg
 have fin : ∀ x y : Nat, ((x : Int), (y : Int)) ∈ ptL → ptG a.toNat A' B' C' x y = true → ∃ p, p ∈ ptL ∧ Int.gcd (A * p.1 * p.1 + B * p.1 * p.2 + C * p.2 * p.2) a = 1 := by
  intro x y hm hG
  refine ⟨_, hm, ?_⟩
  have e := Nat.eq_of_beq_eq_true hG
  rw [← e]
  refine gcd_mod h1 ?_
  obtain ⟨i, hi⟩ := a1
  obtain ⟨j, hj⟩ := b1
  obtain ⟨l, hl⟩ := c1
  refine ⟨i * (x * x) + j * (x * y) + l * (y * y), ?_⟩
  have eA : A = a * i + A' := by omega
  have eB : B = a * j + B' := by omega
  have eC : C = a * l + C' := by omega
  have e3 : ((((A'.mul (x.mul x)).add (B'.mul (x.mul y))).add (C'.mul (y.mul y)) : Nat) : Int) = A' * (x * x) + B' * (x * y) + C' * (y * y) := by
   simp only [Nat.add_eq, Nat.mul_eq, Int.natCast_add, Int.natCast_mul]
  rw [e3, eA, eB, eC]
  simp only []
  grind
 unfold ptA at k
 by_cases e1 : ptG a.toNat A' B' C' 0 1 = true; · exact fin 0 1 (by decide) e1
 by_cases e2 : ptG a.toNat A' B' C' 1 0 = true; · exact fin 1 0 (by decide) e2
 by_cases e3 : ptG a.toNat A' B' C' 1 1 = true; · exact fin 1 1 (by decide) e3
 by_cases e4 : ptG a.toNat A' B' C' 1 2 = true; · exact fin 1 2 (by decide) e4
 by_cases e5 : ptG a.toNat A' B' C' 2 1 = true; · exact fin 2 1 (by decide) e5
 by_cases e6 : ptG a.toNat A' B' C' 1 3 = true; · exact fin 1 3 (by decide) e6
 by_cases e7 : ptG a.toNat A' B' C' 2 3 = true; · exact fin 2 3 (by decide) e7
 by_cases e8 : ptG a.toNat A' B' C' 3 1 = true; · exact fin 3 1 (by decide) e8
 rw [Bool.not_eq_true] at e1 e2 e3 e4 e5 e6 e7 e8
 rw [e1, e2, e3, e4, e5, e6, e7, e8] at k
 simp only [cond_false] at k
 exact fin 3 2 (by decide) k
end Go.Proofs.YtfmjfofocklgpaaGreatDoor
namespace Go.Proofs.YtfmjfofocklgpaaGreatDoor
structure Rb (A B C : Int) : Prop where
  a1 : 1 ≤ A
  a2 : A ≤ 26
  b1 : -26 ≤ B
  b2 : B ≤ 26
  c1 : 1 ≤ C
  c2 : C ≤ 1000
def Vl (A B C x y : Int) : Int := A * x * x + B * x * y + C * y * y
def Gd (a A B C s x y : Int) : Prop := mxI x y = s ∧ Int.gcd x y = 1 ∧ Int.gcd (Vl A B C x y) a = 1
theorem mx_val (x y : Int) : mxI x y = max x y := by
 unfold mxI
 rw [zP]
 by_cases h : x < y
 ·rw [decide_eq_true h, cond_true]; omega
 ·rw [decide_eq_false h, cond_false]; omega
theorem most_eq (x y : Int) : zB8 x y = some (mxI x y) := by
 unfold zB8 mxI
 rw [zP, zP]
 by_cases h : x < y
 ·rw [decide_eq_true h, decide_eq_false (show ¬ y < x by omega)]; rfl
 ·rw [decide_eq_false h]
  by_cases h2 : y < x
  ·rw [decide_eq_true h2]; rfl
  ·rw [decide_eq_false h2, show x = y by omega]; rfl
theorem vl_bd {A B C x y : Int} (h : Rb A B C) (hx : 0 ≤ x) (hx2 : x ≤ 3) (hy : 0 ≤ y) (hy2 : y ≤ 3) : (Vl A B C x y).natAbs ≤ 10000 := by
 obtain ⟨a1, a2, b1, b2, c1, c2⟩ := h
 have m1 : (A * x * x).natAbs ≤ 26 * 3 * 3 := q7 (q7 (by omega) (by omega)) (by omega)
 have m2 : (B * x * y).natAbs ≤ 26 * 3 * 3 := q7 (q7 (by omega) (by omega)) (by omega)
 have m3 : (C * y * y).natAbs ≤ 1000 * 3 * 3 := q7 (q7 (by omega) (by omega)) (by omega)
 unfold Vl
 omega
theorem fp11 {a A B C s x : Int} (h : Rb A B C) (ha : 1 ≤ a) (ha2 : a ≤ 100) (hx : 0 ≤ x) (hxs : x ≤ s) (hs : s ≤ 3) : ∀ (n : Nat) (y : Int), 0 ≤ y → y ≤ s + 1 → (s + 1 - y).toNat < n →
  ∃ r, zAm a (A, B, C) s x n y = some r ∧ zB5 a (A, B, C) s x n y = some r ∧ (r = .inl () → ∀ y', y ≤ y' → y' ≤ s → ¬ Gd a A B C s x y') ∧ (∀ p, r = .inr p → p.1 = x ∧ 0 ≤ p.2 ∧ p.2 ≤ s ∧ Gd a A B C s x p.2)
 | 0, y, h0, h1, hn => by omega
 | n + 1, y, h0, h1, hn => by
  rw [zAm, zB5, q9]
  by_cases hy : y ≤ s
  ·rw [decide_eq_true hy, cond_true, cond_true]
   have hb := vl_bd (x := x) (y := y) h hx (by omega) h0 (by omega)
   have hv : w64 (A * x * x + B * x * y + C * y * y) = Vl A B C x y := zAX (by unfold Vl at hb; omega)
   have e1 : zBK (A, B, C) x y = some (Vl A B C x y) := by rw [dsc_value, at_w, hv]
   rw [at_w, hv, e1, most_eq]
   simp only [Option.bind_some]
   rw [zLC (a := x) (b := y) (by omega) (by omega), zHV (a := x) (b := y) (by omega) (by omega), zLC (b := a) (by omega) (by omega), zHV (b := a) (by omega) (by omega)]
   simp only [Option.bind_some]
   by_cases hG : Gd a A B C s x y
   ·obtain ⟨g1, g2, g3⟩ := hG
    rw [g1, g2, g3, zDN]
    simp only [cond_true, Int.natCast_one, zDN, Option.bind_some]
    refine ⟨_, rfl, rfl, fun e => (by cases e), fun p e => ?_⟩
    cases e
    exact ⟨rfl, h0, hy, g1, g2, g3⟩
   ·have hc : ∀ {α : Type} (u v : Option α), ((bif eqI (mxI x y) s then some (eqI ((Int.gcd x y : Nat) : Int) 1) else some false).bind fun b16 => (bif b16 then some (eqI ((Int.gcd (Vl A B C x y) a : Nat) : Int) 1) else some false).bind fun b20 => bif b20 then u else v) = v := by
     intro α u v
     by_cases g1 : mxI x y = s
     ·rw [g1, zDN, cond_true, Option.bind_some]
      by_cases g2 : Int.gcd x y = 1
      ·rw [g2, show ((1 : Nat) : Int) = 1 from rfl, zDN, cond_true, Option.bind_some]
       have g3 : ¬ Int.gcd (Vl A B C x y) a = 1 := fun g3 => hG ⟨g1, g2, g3⟩
       rw [zDn (show ((Int.gcd (Vl A B C x y) a : Nat) : Int) ≠ 1 by omega), cond_false]
      ·rw [zDn (show ((Int.gcd x y : Nat) : Int) ≠ 1 by omega), cond_false, Option.bind_some, cond_false]
     ·rw [zDn g1, cond_false, Option.bind_some, cond_false, Option.bind_some, cond_false]
    rw [hc, hc]
    simp only [qA]
    rw [zJ (n := y + 1) (by omega)]
    obtain ⟨r, k1, k2, k3, k4⟩ := fp11 h ha ha2 hx hxs hs n (y + 1) (by omega) (by omega) (by omega)
    refine ⟨r, k1, k2, fun e y' u1 u2 => ?_, k4⟩
    by_cases e2 : y' = y
    ·rw [e2]; exact hG
    ·exact k3 e y' (by omega) u2
  ·rw [decide_eq_false hy, cond_false, cond_false]
   refine ⟨_, rfl, rfl, fun _ y' u1 u2 => by omega, fun p e => by cases e⟩
theorem fp7 {a A B C s : Int} (h : Rb A B C) (ha : 1 ≤ a) (ha2 : a ≤ 100) (hs0 : 0 ≤ s) (hs : s ≤ 3) : ∀ (n : Nat) (x : Int), 0 ≤ x → x ≤ s + 1 → (s + 1 - x).toNat < n →
  ∃ r, zBC a (A, B, C) s n x = some r ∧ zBj a (A, B, C) s n x = some r ∧ (r = .inl () → ∀ x' y', x ≤ x' → x' ≤ s → 0 ≤ y' → y' ≤ s → ¬ Gd a A B C s x' y') ∧ (∀ p, r = .inr p → 0 ≤ p.1 ∧ p.1 ≤ s ∧ 0 ≤ p.2 ∧ p.2 ≤ s ∧ Gd a A B C s p.1 p.2)
 | 0, x, h0, h1, hn => by omega
 | n + 1, x, h0, h1, hn => by
  have hF := FUge
  rw [zBC, zBj, q9]
  by_cases hx : x ≤ s
  ·rw [decide_eq_true hx, cond_true, cond_true]
   obtain ⟨r, k1, k2, k3, k4⟩ := fp11 h ha ha2 h0 hx hs FU 0 (by omega) (by omega) (by omega)
   rw [k1, k2]
   simp only [Option.bind_some]
   cases r with
   | inr p =>
    obtain ⟨q1, q2, q3, q4⟩ := k4 p rfl
    refine ⟨_, rfl, rfl, fun e => (by cases e), fun p' e => ?_⟩
    cases e
    rw [q1]
    exact ⟨h0, hx, q2, q3, q4⟩
   | inl u =>
    simp only [qA]
    rw [zJ (n := x + 1) (by omega)]
    obtain ⟨r, j1, j2, j3, j4⟩ := fp7 h ha ha2 hs0 hs n (x + 1) (by omega) (by omega) (by omega)
    refine ⟨r, j1, j2, fun e x' y' u1 u2 u3 u4 => ?_, j4⟩
    by_cases e2 : x' = x
    ·rw [e2]; exact k3 rfl y' u3 u4
    ·exact j3 e x' y' (by omega) u2 u3 u4
  ·rw [decide_eq_false hx, cond_false, cond_false]
   refine ⟨_, rfl, rfl, fun _ x' y' u1 u2 => by omega, fun p e => by cases e⟩
theorem fp4 {a A B C : Int} (h : Rb A B C) (ha : 1 ≤ a) (ha2 : a ≤ 100) {t x0 y0 : Int} (ht : t ≤ 3) (hG : Gd a A B C t x0 y0) (hx0 : 0 ≤ x0) (hx1 : x0 ≤ t) (hy0 : 0 ≤ y0) (hy1 : y0 ≤ t) : ∀ (m n n' : Nat) (s : Int), 0 ≤ s → s ≤ t → (t - s).toNat ≤ m → m < n → m < n' →
  ∃ p, zAC a (A, B, C) n s = some (.inr p) ∧ zBk a (A, B, C) n' s = some (.inr p) ∧ ∃ s', s' ≤ 3 ∧ 0 ≤ p.1 ∧ p.1 ≤ s' ∧ 0 ≤ p.2 ∧ p.2 ≤ s' ∧ Gd a A B C s' p.1 p.2
 | m, 0, n', s, h0, h1, hm, hn, hn' => by omega
 | m, n + 1, 0, s, h0, h1, hm, hn, hn' => by omega
 | m, n + 1, n' + 1, s, h0, h1, hm, hn, hn' => by
  have hF := FUge
  rw [zAC, zBk, q9, decide_eq_true (show s ≤ 100 by omega), cond_true]
  obtain ⟨r, k1, k2, k3, k4⟩ := fp7 h ha ha2 h0 (by omega) FU 0 (by omega) (by omega) (by omega)
  rw [k1, k2]
  simp only [Option.bind_some]
  cases r with
  | inr p =>
   obtain ⟨q1, q2, q3, q4, q5⟩ := k4 p rfl
   exact ⟨p, rfl, rfl, s, by omega, q1, q2, q3, q4, q5⟩
  | inl u =>
   have hne : s ≠ t := by
    intro e
    rw [e] at k3
    exact k3 rfl x0 y0 hx0 hx1 hy0 hy1 hG
   obtain ⟨m', rfl⟩ : ∃ m', m = m' + 1 := ⟨m - 1, by omega⟩
   simp only [qA]
   rw [zJ (n := s + 1) (by omega)]
   exact fp4 h ha ha2 ht hG hx0 hx1 hy0 hy1 m' n n' (s + 1) (by omega) (by omega) (by omega) (by omega) (by omega)
theorem ptL_of {x y s : Int} (hs : s ≤ 3) (h1 : 0 ≤ x) (h2 : x ≤ s) (h3 : 0 ≤ y) (h4 : y ≤ s) (hg : Int.gcd x y = 1) : (x, y) ∈ ptL := by
 have e1 : x = 0 ∨ x = 1 ∨ x = 2 ∨ x = 3 := by omega
 have e2 : y = 0 ∨ y = 1 ∨ y = 2 ∨ y = 3 := by omega
 rcases e1 with rfl | rfl | rfl | rfl <;> rcases e2 with rfl | rfl | rfl | rfl <;> first | decide | (exfalso; revert hg; decide)
theorem point_both {a A B C : Int} (h : Rb A B C) (ha : 1 ≤ a) (ha2 : a ≤ 25) (hp : ∀ k : Int, k ∣ A → k ∣ B → k ∣ C → k ∣ 1) : ∃ p, zC3 (A, B, C) a = some p ∧ zCO (A, B, C) a = some p ∧ p ∈ ptL ∧ Int.gcd (Vl A B C p.1 p.2) a = 1 := by
 have hF := FUge
 obtain ⟨⟨x, y⟩, hm, hg⟩ := pt_ex ha ha2 hp
 have hr : 0 ≤ x ∧ x ≤ 3 ∧ 0 ≤ y ∧ y ≤ 3 ∧ Int.gcd x y = 1 ∧ 1 ≤ max x y := by
  simp only [ptL, List.mem_cons, Prod.mk.injEq, List.not_mem_nil, or_false] at hm
  rcases hm with ⟨rfl, rfl⟩ | ⟨rfl, rfl⟩ | ⟨rfl, rfl⟩ | ⟨rfl, rfl⟩ | ⟨rfl, rfl⟩ | ⟨rfl, rfl⟩ | ⟨rfl, rfl⟩ | ⟨rfl, rfl⟩ | ⟨rfl, rfl⟩ <;> decide
 obtain ⟨r1, r2, r3, r4, r5, r6⟩ := hr
 have hG : Gd a A B C (max x y) x y := ⟨mx_val x y, r5, hg⟩
 obtain ⟨p, k1, k2, s', u1, u2, u3, u4, u5, u6⟩ := fp4 h ha (by omega) (show max x y ≤ 3 by omega) hG r1 (by omega) r3 (by omega) 3 (FU - 1) FU 1 (by omega) (by omega) (by omega) (by omega) (by omega)
 have z : zAC a (A, B, C) FU 0 = some (.inr p) := by
  obtain ⟨r, j1, j2, j3, j4⟩ := fp7 h ha (by omega) (s := 0) (by omega) (by omega) FU 0 (by omega) (by omega) (by omega)
  rw [show FU = (FU - 1) + 1 from rfl, zAC, j1, Option.bind_some]
  cases r with
  | inr q =>
   obtain ⟨w1, w2, w3, w4, w5, w6, w7⟩ := j4 q rfl
   have e1 : q.1 = 0 := by omega
   have e2 : q.2 = 0 := by omega
   rw [e1, e2] at w6
   exact absurd w6 (by decide)
  | inl u =>
   simp only [qA]
   rw [show w64 (0 + 1) = 1 from rfl]
   exact k1
 refine ⟨p, ?_, ?_, ptL_of u1 u2 u3 u4 u5 u6.2.1, u6.2.2⟩
 ·simp only [zC3, z, Option.bind_some]
 ·simp only [zCO, k2, Option.bind_some]
end Go.Proofs.YtfmjfofocklgpaaGreatDoor
namespace Go.Proofs.YtfmjfofocklgpaaGreatDoor
theorem euc_bd {b x d y k : Int} (hk : 0 ≤ k) (hy : 1 ≤ y) (M : Int) (h : (x.natAbs : Int) * d + (b.natAbs : Int) * y ≤ M) : ((b - k * x).natAbs : Int) * y + (x.natAbs : Int) * (d - k * y) ≤ M ∧ ((x.natAbs : Int) * (d - k * y) ≥ 0 → ((b - k * x).natAbs : Int) ≤ M) := by
 have h1 : ((b - k * x).natAbs : Int) ≤ (b.natAbs : Int) + k * (x.natAbs : Int) := by
  have h2 : (b - k * x).natAbs ≤ b.natAbs + (k * x).natAbs := Int.natAbs_sub_le b (k * x)
  have h3 : (((k * x).natAbs : Nat) : Int) = k * (x.natAbs : Int) := by
   rw [Int.natAbs_mul, Int.natCast_mul, Int.natAbs_of_nonneg hk]
  omega
 have h4 : ((b - k * x).natAbs : Int) * y ≤ ((b.natAbs : Int) + k * (x.natAbs : Int)) * y := Int.mul_le_mul_of_nonneg_right h1 (by omega)
 have e : ((b.natAbs : Int) + k * (x.natAbs : Int)) * y + (x.natAbs : Int) * (d - k * y) = (x.natAbs : Int) * d + (b.natAbs : Int) * y := by grind
 have h5 : ((b - k * x).natAbs : Int) * 1 ≤ ((b - k * x).natAbs : Int) * y := Int.mul_le_mul_of_nonneg_left hy (by omega)
 constructor
 ·omega
 ·intro h6; omega
theorem tdiv_q {d y : Int} (hd : 0 ≤ d) (hy : 1 ≤ y) : 0 ≤ Int.tdiv d y ∧ Int.tdiv d y ≤ d ∧ 0 ≤ d - Int.tdiv d y * y ∧ d - Int.tdiv d y * y < y := by
 have h1 := Int.tmod_add_mul_tdiv d y
 have h2 : 0 ≤ d.tmod y ∧ d.tmod y < y := ⟨Int.tmod_nonneg _ hd, Int.tmod_lt_of_pos _ (by omega)⟩
 have h3 := Int.tdiv_nonneg hd (show 0 ≤ y by omega)
 have e : Int.tdiv d y * y = y * Int.tdiv d y := Int.mul_comm _ _
 have h4 : Int.tdiv d y * 1 ≤ Int.tdiv d y * y := Int.mul_le_mul_of_nonneg_left hy h3
 refine ⟨h3, by omega, by omega, by omega⟩
theorem bigk {k x : Int} {K M : Nat} (h1 : k.natAbs ≤ K) (h2 : x.natAbs ≤ M) (hKM : K * M ≤ 9000000000000) : w64 (k * x) = k * x ∧ (k * x).natAbs ≤ K * M := by
 have := q7 h1 h2
 exact ⟨zAX (by omega), this⟩
theorem tz {z g : Int} (hg : g ≠ 0) : eqI (Int.tmod z g) 0 = decide (g ∣ z) := by
 rw [zBN, Bool.eq_iff_iff, beq_iff_eq, decide_eq_true_iff]
 exact ⟨Int.dvd_of_tmod_eq_zero, Int.tmod_eq_zero_of_dvd⟩
theorem tdv {a b c : Int} (hb : b ≠ 0) (h : b * c = a) : Int.tdiv a b = c := by
 rw [← h, Int.mul_tdiv_cancel_left _ hb]
theorem inv_run {n m : Int} : ∀ (k fu : Nat) (r nx x y : Int), 0 ≤ nx → nx ≤ k → k < fu → 1 ≤ r → r ≤ 100000 → nx ≤ 100000 → (y.natAbs : Int) * r + (x.natAbs : Int) * nx ≤ 100000 → x.natAbs ≤ 100000 → y.natAbs ≤ 100000 → n ∣ r - x * m → n ∣ nx - y * m → (∀ c : Int, c ∣ r → c ∣ nx → c ∣ 1) →
  ∃ z, zBO n fu r nx x y = some (1, z) ∧ n ∣ 1 - z * m ∧ z.natAbs ≤ 100000
 | k, 0, r, nx, x, y, _, _, hf, _, _, _, _, _, _, _, _, _ => by omega
 | k, fu + 1, r, nx, x, y, h0, hk, hf, hr, hr2, hn2, hS, hx, hy, d1, d2, hc => by
  rw [zBO]
  by_cases hz : nx = 0
  ·subst hz
   have h1 : r = 1 := Int.eq_one_of_dvd_one (by omega) (hc r ⟨1, by omega⟩ ⟨0, by omega⟩)
   subst h1
   rw [zEu, Bool.not_true, cond_false]
   exact ⟨x, rfl, d1, hx⟩
  ·have hn1 : 1 ≤ nx := by omega
   obtain ⟨k', rfl⟩ : ∃ k', k = k' + 1 := ⟨k - 1, by omega⟩
   obtain ⟨q0, q1, q2, q3⟩ := tdiv_q (d := r) (y := nx) (by omega) hn1
   obtain ⟨s1, s2⟩ := euc_bd (b := x) (x := y) (d := r) (y := nx) (k := Int.tdiv r nx) q0 hn1 100000 hS
   have s4 := s2 (Int.mul_nonneg (by omega) q2)
   generalize hq : Int.tdiv r nx = q at *
   obtain ⟨w1, w2⟩ := bigk (k := q) (x := nx) (K := 100000) (M := 100000) (by omega) (by omega) (by decide)
   obtain ⟨w3, w4⟩ := bigk (k := q) (x := y) (K := 100000) (M := 100000) (by omega) hy (by decide)
   have hne : (!eqI nx 0) = true := by rw [eqNe hz]; rfl
   rw [hne, cond_true]
   simp only [nzOk hz, Option.bind_some, qA, hq]
   rw [zJ (n := q) (by omega), w1, w3, zJ (n := r - q * nx) (by omega), zJ (n := x - q * y) (by omega)]
   refine inv_run k' fu nx (r - q * nx) y (x - q * y) q2 (by omega) (by omega) hn1 hn2 (by omega) (by omega) hy (by omega) d2 ?_ fun c c1 c2 => hc c ?_ c1
   ·obtain ⟨u, hu⟩ := d1
    obtain ⟨v, hv⟩ := d2
    exact ⟨u - q * v, by grind⟩
   ·obtain ⟨u, hu⟩ := c1
    obtain ⟨v, hv⟩ := c2
    exact ⟨v + q * u, by grind⟩
theorem inv_val {n m : Int} (hn : 1 ≤ n) (hn2 : n ≤ 100000) (hm : m.natAbs ≤ 100000) (hc : ∀ c : Int, c ∣ n → c ∣ m → c ∣ 1) : ∃ v, zCH m n = some v ∧ n ∣ 1 - v * m ∧ 0 ≤ v ∧ v < n := by
 have hF := FUge
 have m1 := Int.emod_nonneg m (b := n) (by omega)
 have m2 := Int.emod_lt_of_pos m (b := n) (by omega)
 have em := Int.emod_add_mul_ediv m n
 obtain ⟨z, e1, e2, e3⟩ := inv_run (n := n) (m := m) 100000 FU n (m % n) 0 1 m1 (by omega) (by omega) hn hn2 (by omega) (by simp; omega) (by decide) (by decide) ⟨1, by omega⟩ ⟨-(m / n), by grind⟩ fun c c1 c2 => hc c c1 (by
  obtain ⟨u, hu⟩ := c1
  obtain ⟨v, hv⟩ := c2
  exact ⟨v + u * (m / n), by grind⟩)
 have z1 := Int.emod_nonneg z (b := n) (by omega)
 have z2 := Int.emod_lt_of_pos z (b := n) (by omega)
 have ez := Int.emod_add_mul_ediv z n
 refine ⟨z % n, ?_, ?_, z1, z2⟩
 ·simp only [zCH, zFp, zBg hn (show n ≤ 9223372036854775807 by omega), Option.bind_some, e1, zEu, Bool.not_true, cond_false]
 ·obtain ⟨u, hu⟩ := e2
  exact ⟨u + (z / n) * m, by grind⟩
end Go.Proofs.YtfmjfofocklgpaaGreatDoor
namespace Go.Proofs.YtfmjfofocklgpaaGreatDoor
theorem inv9 {x y : Int} (h : (x, y) ∈ ptL) : ∃ q s : Int, (bif eqI y 0 then some (0, x) else (zDb y).bind fun y6 => (zD9 x y6).bind fun y7 => (nz y).bind fun z8 => sI (w64 (Int.tdiv (w64 ((w64 (x * y7)) - 1)) y)) fun f9 => some (f9, y7)) = some (q, s) ∧ zDL x y = some (1, s, -q) ∧ x * s - q * y = 1 ∧ q.natAbs ≤ 3 ∧ s.natAbs ≤ 3 ∧ 0 ≤ x ∧ x ≤ 3 ∧ 0 ≤ y ∧ y ≤ 3 := by
 simp only [ptL, List.mem_cons, Prod.mk.injEq, List.not_mem_nil, or_false] at h
 rcases h with ⟨rfl, rfl⟩ | ⟨rfl, rfl⟩ | ⟨rfl, rfl⟩ | ⟨rfl, rfl⟩ | ⟨rfl, rfl⟩ | ⟨rfl, rfl⟩ | ⟨rfl, rfl⟩ | ⟨rfl, rfl⟩ | ⟨rfl, rfl⟩
 ·exact ⟨-1, 0, by decide +kernel, by decide +kernel, by decide⟩
 ·exact ⟨0, 1, by decide +kernel, by decide +kernel, by decide⟩
 ·exact ⟨-1, 0, by decide +kernel, by decide +kernel, by decide⟩
 ·exact ⟨0, 1, by decide +kernel, by decide +kernel, by decide⟩
 ·exact ⟨-1, 0, by decide +kernel, by decide +kernel, by decide⟩
 ·exact ⟨0, 1, by decide +kernel, by decide +kernel, by decide⟩
 ·exact ⟨1, 2, by decide +kernel, by decide +kernel, by decide⟩
 ·exact ⟨-1, 0, by decide +kernel, by decide +kernel, by decide⟩
 ·exact ⟨1, 1, by decide +kernel, by decide +kernel, by decide⟩
structure Cmp (A B C D x y v q0 s0 B0 Q Bh C1 : Int) : Prop where
  hv : A * x * x + B * x * y + C * y * y = v
  v1 : 1 ≤ v
  v2 : v ≤ 10000
  hB0 : 2 * A * x * q0 + B * (x * s0 + y * q0) + 2 * C * y * s0 = B0
  b0 : B0.natAbs ≤ 20000
  hQ : B0 / (2 * v) = Q
  q : Q.natAbs ≤ 20001
  m6 : (-Q * x).natAbs ≤ 60003
  m7 : (-Q * y).natAbs ≤ 60003
  hBh : B0 % (2 * v) = Bh
  e1 : B0 + 2 * v * -Q = Bh
  t1 : 0 ≤ Bh
  t2 : Bh < 2 * v
  e2 : 2 * A * x * (q0 + -Q * x) + B * (x * (s0 + -Q * y) + y * (q0 + -Q * x)) + 2 * C * y * (s0 + -Q * y) = Bh
  hC1 : A * (q0 + -Q * x) * (q0 + -Q * x) + B * (q0 + -Q * x) * (s0 + -Q * y) + C * (s0 + -Q * y) * (s0 + -Q * y) = C1
  em : MatInv A B C x (q0 + -Q * x) y (s0 + -Q * y) v Bh C1
  dis : Bh * Bh - 4 * v * C1 = D
  bb : Bh * Bh ≤ 400000000
  c1 : C1.natAbs ≤ 20000
theorem cmp_e2 (A B C x y q0 s0 Q : Int) : 2 * A * x * (q0 + -Q * x) + B * (x * (s0 + -Q * y) + y * (q0 + -Q * x)) + 2 * C * y * (s0 + -Q * y) = (2 * A * x * q0 + B * (x * s0 + y * q0) + 2 * C * y * s0) + 2 * (A * x * x + B * x * y + C * y * y) * -Q := by grind
theorem cmp_dt (x s0 Q y q0 : Int) : x * (s0 + -Q * y) - (q0 + -Q * x) * y = x * s0 - q0 * y := by grind
theorem cmp_k2 (v : Int) : 4 * v * (v + 2001) = 2 * v * (2 * v) + 8004 * v := by grind
theorem zLH {A B C p q r s a b c : Int} (h : MatInv A B C p q r s a b c) : b * b - 4 * a * c = B * B - 4 * A * C := by
 obtain ⟨f1, f2, f3, f4⟩ := h
 have : b * b - 4 * a * c = (B * B - 4 * A * C) * ((p * s - q * r) * (p * s - q * r)) := by
  rw [← f1, ← f2, ← f3]
  grind
 rw [this, f4]; omega
theorem cmp_b {A B C x y q0 s0 : Int} (h : Rb A B C) (i4 : q0.natAbs ≤ 3) (i5 : s0.natAbs ≤ 3) (i6 : 0 ≤ x) (i7 : x ≤ 3) (i8 : 0 ≤ y) (i9 : y ≤ 3) : (2 * A * x * q0 + B * (x * s0 + y * q0) + 2 * C * y * s0).natAbs ≤ 20000 := by
 obtain ⟨a1, a2, b1, b2, c1, c2⟩ := h
 have m1 : (2 * A * x * q0).natAbs ≤ 2 * 26 * 3 * 3 := q7 (q7 (q7 (by omega) (by omega)) (by omega)) (by omega)
 have m2 : (x * s0).natAbs ≤ 3 * 3 := q7 (by omega) (by omega)
 have m3 : (y * q0).natAbs ≤ 3 * 3 := q7 (by omega) (by omega)
 have m4 : (B * (x * s0 + y * q0)).natAbs ≤ 26 * 18 := q7 (by omega) (by omega)
 have m5 : (2 * C * y * s0).natAbs ≤ 2 * 1000 * 3 * 3 := q7 (q7 (q7 (by omega) (by omega)) (by omega)) (by omega)
 omega
theorem cmp_q {v B0 : Int} (v1 : 1 ≤ v) (hB : B0.natAbs ≤ 20000) : (B0 / (2 * v)).natAbs ≤ 20001 ∧ B0 + 2 * v * -(B0 / (2 * v)) = B0 % (2 * v) ∧ 0 ≤ B0 % (2 * v) ∧ B0 % (2 * v) < 2 * v := by
 have t1 := Int.emod_nonneg B0 (b := 2 * v) (by omega)
 have t2 := Int.emod_lt_of_pos B0 (b := 2 * v) (by omega)
 have t3 := Int.emod_add_mul_ediv B0 (2 * v)
 generalize hQ : B0 / (2 * v) = Q at *
 refine ⟨?_, by rw [Int.mul_neg]; omega, t1, t2⟩
 rcases Int.lt_or_le 20001 Q with h | h
 ·have : 2 * v * 20002 ≤ 2 * v * Q := Int.mul_le_mul_of_nonneg_left (by omega) (by omega)
  omega
 ·rcases Int.lt_or_le Q (-20001) with h' | h'
  ·have : 2 * v * Q ≤ 2 * v * (-20002) := Int.mul_le_mul_of_nonneg_left (by omega) (by omega)
   omega
  ·omega
theorem cmp_c {v Bh C1 D : Int} (v1 : 1 ≤ v) (v2 : v ≤ 10000) (hD1 : -2000 ≤ D) (hD2 : D ≤ 0) (t1 : 0 ≤ Bh) (t2 : Bh < 2 * v) (hdis : Bh * Bh - 4 * v * C1 = D) : Bh * Bh ≤ 400000000 ∧ C1.natAbs ≤ 20000 := by
 have hBB : Bh * Bh ≤ 2 * v * (2 * v) := Int.mul_le_mul (by omega) (by omega) t1 (by omega)
 have hBB0 : 0 ≤ Bh * Bh := Int.mul_nonneg t1 t1
 have hBB4 : 2 * v * (2 * v) ≤ 20000 * 20000 := Int.mul_le_mul (by omega) (by omega) (by omega) (by omega)
 have hCu : C1 ≤ v + 2000 := by
  rcases Int.lt_or_le (v + 2000) C1 with h | h
  ·have k1 : 4 * v * (v + 2001) ≤ 4 * v * C1 := Int.mul_le_mul_of_nonneg_left (by omega) (by omega)
   have k2 := cmp_k2 v
   omega
  ·exact h
 have hCl : -2000 ≤ C1 := by
  rcases Int.lt_or_le C1 (-2000) with h | h
  ·have k1 : 4 * v * C1 ≤ 4 * v * (-2001) := Int.mul_le_mul_of_nonneg_left (by omega) (by omega)
   omega
  ·exact h
 omega
theorem cmp_mat {A B C x y v q0 s0 Q Bh : Int} (hv : A * x * x + B * x * y + C * y * y = v) (i3 : x * s0 - q0 * y = 1) (e2 : 2 * A * x * (q0 + -Q * x) + B * (x * (s0 + -Q * y) + y * (q0 + -Q * x)) + 2 * C * y * (s0 + -Q * y) = Bh) : MatInv A B C x (q0 + -Q * x) y (s0 + -Q * y) v Bh (A * (q0 + -Q * x) * (q0 + -Q * x) + B * (q0 + -Q * x) * (s0 + -Q * y) + C * (s0 + -Q * y) * (s0 + -Q * y)) := by
 refine ⟨hv, ?_, rfl, ?_⟩
 ·rw [← e2, Int.mul_comm (q0 + -Q * x) y]
 ·rw [cmp_dt x s0 Q y q0, i3]
theorem cmp_mk {A B C D x y v q0 s0 : Int} (h : Rb A B C) (hD : B * B - 4 * A * C = D) (hD1 : -2000 ≤ D) (hD2 : D ≤ 0) (hv : Vl A B C x y = v) (hv1 : 1 ≤ v) (i3 : x * s0 - q0 * y = 1) (i4 : q0.natAbs ≤ 3) (i5 : s0.natAbs ≤ 3) (i6 : 0 ≤ x) (i7 : x ≤ 3) (i8 : 0 ≤ y) (i9 : y ≤ 3) : ∃ B0 Q Bh C1, Cmp A B C D x y v q0 s0 B0 Q Bh C1 := by
 have hvb := vl_bd h i6 i7 i8 i9
 rw [hv] at hvb
 unfold Vl at hv
 have hB0b := cmp_b h i4 i5 i6 i7 i8 i9
 have ee := cmp_e2 A B C x y q0 s0
 rw [hv] at ee
 obtain ⟨hQb, e1, t1, t2⟩ := cmp_q (v := v) hv1 hB0b
 have e2 := (ee ((2 * A * x * q0 + B * (x * s0 + y * q0) + 2 * C * y * s0) / (2 * v))).trans e1
 have em := cmp_mat hv i3 e2
 have hdis := (zLH em).trans hD
 obtain ⟨hBB, hC⟩ := cmp_c hv1 (by omega) hD1 hD2 t1 t2 hdis
 exact ⟨_, _, _, _, hv, hv1, by omega, rfl, hB0b, rfl, hQb, q7 (A := 20001) (B := 3) (by omega) (by omega), q7 (A := 20001) (B := 3) (by omega) (by omega), rfl, e1, t1, t2, e2, rfl, em, hdis, hBB, hC⟩
theorem cmp_impl {A B C D x y v q0 s0 B0 Q Bh C1 : Int} (h : Cmp A B C D x y v q0 s0 B0 Q Bh C1) (i4 : q0.natAbs ≤ 3) (i5 : s0.natAbs ≤ 3) (i1 : (bif eqI y 0 then some (0, x) else (zDb y).bind fun y6 => (zD9 x y6).bind fun y7 => (nz y).bind fun z8 => sI (w64 (Int.tdiv (w64 ((w64 (x * y7)) - 1)) y)) fun f9 => some (f9, y7)) = some (q0, s0)) : zBE (A, B, C) x y = some ((v, Bh, C1), (x, q0 + -Q * x, y, s0 + -Q * y)) := by
 obtain ⟨hv, v1, v2, hB0, b0, hQ, q, m6, m7, hBh, e1, t1, t2, e2, hC1, em, dis, bb, c1⟩ := h
 unfold zBE
 rw [i1]
 simp only [Option.bind_some, sub_w]
 rw [hv, hB0, zJ (n := B0) (by omega), zJ (n := v) (by omega), zJ (n := 2 * v) (by omega), zFB (by omega) (by omega) (by omega) (by omega), hQ]
 simp only [Option.bind_some, qA]
 rw [zJ (n := 0 - Q) (by omega), show (0 - Q) = -Q by omega, zJ (n := -Q * x) (by omega), zJ (n := -Q * y) (by omega), zJ (n := q0 + -Q * x) (by omega), zJ (n := s0 + -Q * y) (by omega)]
 rw [e2, hC1, zJ (n := C1) (by omega), zJ (n := Bh) (by omega)]
theorem cmp_spec {A B C D x y v q0 s0 B0 Q Bh C1 : Int} (h : Cmp A B C D x y v q0 s0 B0 Q Bh C1) (hD : B * B - 4 * A * C = D) (hD1 : -2000 ≤ D) (hD2 : D ≤ 0) (i4 : q0.natAbs ≤ 3) (i5 : s0.natAbs ≤ 3) (i2 : zDL x y = some (1, s0, -q0)) : zAi (A, B, C) x y = some ((v, Bh, C1), (x, q0 + -Q * x, y, s0 + -Q * y)) := by
 obtain ⟨hv, v1, v2, hB0, b0, hQ, q, m6, m7, hBh, e1, t1, t2, e2, hC1, em, dis, bb, c1⟩ := h
 unfold zAi
 rw [i2]
 simp only [Option.bind_some]
 rw [dsc_value, at_w, hv, zJ (n := v) (by omega)]
 simp only [Option.bind_some, qA]
 rw [show w64 (0 - -q0) = q0 by rw [zJ (by omega)]; omega, dsc_polar, polar_w, hB0, zJ (n := B0) (by omega)]
 simp only [Option.bind_some]
 rw [zFp, zJ (n := 2 * v) (by omega), zBg (by omega) (by omega), hBh]
 simp only [Option.bind_some]
 rw [zFI (show 2 * v ≠ 0 by omega), zJ (n := Bh - B0) (by omega), tdv (c := -Q) (by omega) (by omega)]
 simp only [Option.bind_some]
 have x1 : x * -Q = -Q * x := Int.mul_comm _ _
 have y1 : y * -Q = -Q * y := Int.mul_comm _ _
 rw [zJ (n := -Q) (by omega), x1, y1, zJ (n := -Q * x) (by omega), zJ (n := -Q * y) (by omega), zJ (n := q0 + -Q * x) (by omega), zJ (n := s0 + -Q * y) (by omega), zJ (n := 2 * v * -Q) (by omega), e1, zJ (n := Bh) (by omega), zLF, disc_w, hD, zJ (n := D) (by omega)]
 simp only [Option.bind_some]
 rw [zJ (n := 4 * v) (by omega), zFI (show 4 * v ≠ 0 by omega)]
 have hBB0 : 0 ≤ Bh * Bh := Int.mul_nonneg t1 t1
 simp only [Option.bind_some]
 rw [zJ (n := Bh * Bh) (by omega), zJ (n := Bh * Bh - D) (by omega), tdv (b := 4 * v) (c := C1) (by omega) (by omega), zJ (n := C1) (by omega)]
theorem complete_both {A B C D x y v : Int} (h : Rb A B C) (hD : B * B - 4 * A * C = D) (hD1 : -2000 ≤ D) (hD2 : D ≤ 0) (hm : (x, y) ∈ ptL) (hv : Vl A B C x y = v) (hv1 : 1 ≤ v) :
  ∃ q s Bh Ch, zBE (A, B, C) x y = some ((v, Bh, Ch), (x, q, y, s)) ∧ zAi (A, B, C) x y = some ((v, Bh, Ch), (x, q, y, s)) ∧ MatInv A B C x q y s v Bh Ch ∧ 0 ≤ Bh ∧ Bh < 2 * v ∧ v ≤ 10000 ∧ q.natAbs ≤ 100000 ∧ s.natAbs ≤ 100000 ∧ 0 ≤ x ∧ x ≤ 3 ∧ 0 ≤ y ∧ y ≤ 3 := by
 obtain ⟨q0, s0, i1, i2, i3, i4, i5, i6, i7, i8, i9⟩ := inv9 hm
 obtain ⟨B0, Q, Bh, C1, k⟩ := cmp_mk h hD hD1 hD2 hv hv1 i3 i4 i5 i6 i7 i8 i9
 have k1 := cmp_impl k i4 i5 i1
 have k2 := cmp_spec k hD hD1 hD2 i4 i5 i2
 obtain ⟨hv, v1, v2, hB0, b0, hQ, q, m6, m7, hBh, e1, t1, t2, e2, hC1, em, dis, bb, c1⟩ := k
 exact ⟨_, _, Bh, C1, k1, k2, em, t1, t2, v2, by omega, by omega, i6, i7, i8, i9⟩
abbrev El := Int × Int
def eM (D : Int) (x y : El) : El := (x.1 * y.1 + D * x.2 * y.2, x.1 * y.2 + x.2 * y.1)
def eA (x y : El) : El := (x.1 + y.1, x.2 + y.2)
def eS (x y : El) : El := (x.1 - y.1, x.2 - y.2)
def eK (k : Int) (x : El) : El := (k * x.1, k * x.2)
def eN (D : Int) (x : El) : Int := x.1 * x.1 - D * x.2 * x.2
def Sp (L : List El) (x : El) : Prop := ∀ P : El → Prop, P (0, 0) → (∀ a b, P a → P b → P (eS a b)) → (∀ l, l ∈ L → P l) → P x
theorem zG6 (L : List El) : Sp L (0, 0) := fun P h _ _ => h
theorem zIf {L : List El} {x y : El} (h1 : Sp L x) (h2 : Sp L y) : Sp L (eS x y) := fun P a b c => b _ _ (h1 P a b c) (h2 P a b c)
theorem zEN {L : List El} {x : El} (h : x ∈ L) : Sp L x := fun P a b c => c _ h
theorem zAb {x y : El} (h1 : x.1 = y.1) (h2 : x.2 = y.2) : x = y := Prod.ext h1 h2
theorem sp_neg {L : List El} {x : El} (h : Sp L x) : Sp L (eK (-1) x) := by
 have := zIf (zG6 L) h
 have e : eS (0, 0) x = eK (-1) x := zAb (by simp [eS, eK]) (by simp [eS, eK])
 rwa [e] at this
theorem sp_add {L : List El} {x y : El} (h1 : Sp L x) (h2 : Sp L y) : Sp L (eA x y) := by
 have := zIf h1 (sp_neg h2)
 have e : eS x (eK (-1) y) = eA x y := zAb (by simp [eS, eK, eA]) (by simp [eS, eK, eA])
 rwa [e] at this
theorem sp_nat {L : List El} {x : El} (h : Sp L x) (n : Nat) : Sp L (eK n x) := by
  induction n with
  | zero => have e : eK ((0 : Nat) : Int) x = (0, 0) := zAb (by simp [eK]) (by simp [eK])
            rw [e]; exact zG6 L
  | succ n ih =>
    have e : eK ((n + 1 : Nat) : Int) x = eA (eK n x) x := zAb (by simp [eK, eA, Int.add_mul]) (by simp [eK, eA, Int.add_mul])
    rw [e]; exact sp_add ih h
theorem zJs {L : List El} {x : El} (h : Sp L x) (k : Int) : Sp L (eK k x) := by
 rcases Int.le_total 0 k with hk | hk
 ·have e : k = (k.toNat : Int) := by omega
  rw [e]; exact sp_nat h _
 ·have e : eK k x = eK (-1) (eK ((-k).toNat : Nat) x) := by
   have e1 : (((-k).toNat : Nat) : Int) = -k := by omega
   rw [e1]
   exact zAb (by simp only [eK]; grind) (by simp only [eK]; grind)
  rw [e]; exact sp_neg (sp_nat h _)
theorem sp_le {L M : List El} (h : ∀ l, l ∈ L → Sp M l) {x : El} (hx : Sp L x) : Sp M x := hx (Sp M) (zG6 M) (fun _ _ => zIf) h
theorem sp_comb {u v : El} (p q : Int) : Sp [u, v] (eA (eK p u) (eK q v)) := sp_add (zJs (zEN (by simp)) p) (zJs (zEN (by simp)) q)
def eL (D : Int) (a : El) (L : List El) : List El := L.map (eM D a)
def eP (D : Int) (L M : List El) : List El := L.flatMap fun l => M.map (eM D l)
theorem eM_comm (D : Int) (x y : El) : eM D x y = eM D y x := zAb (by simp only [eM]; grind) (by simp only [eM]; grind)
theorem zJb (D : Int) (x y z : El) : eM D (eM D x y) z = eM D x (eM D y z) := zAb (by simp only [eM]; grind) (by simp only [eM]; grind)
theorem eM_sub (D : Int) (x y z : El) : eM D x (eS y z) = eS (eM D x y) (eM D x z) := zAb (by simp only [eM, eS]; grind) (by simp only [eM, eS]; grind)
theorem eM_subl (D : Int) (x y z : El) : eM D (eS x y) z = eS (eM D x z) (eM D y z) := zAb (by simp only [eM, eS]; grind) (by simp only [eM, eS]; grind)
theorem eM_zero (D : Int) (x : El) : eM D x (0, 0) = (0, 0) := zAb (by simp [eM]) (by simp [eM])
theorem eM_zerol (D : Int) (x : El) : eM D (0, 0) x = (0, 0) := zAb (by simp [eM]) (by simp [eM])
theorem eN_mul (D : Int) (x y : El) : eN D (eM D x y) = eN D x * eN D y := by simp only [eN, eM]; grind
theorem eN_pos {D : Int} (hD : D < 0) {x : El} (hx : x ≠ (0, 0)) : 0 < eN D x := by
 simp only [eN]
 have h1 : 0 ≤ x.1 * x.1 := by rcases Int.le_total 0 x.1 with h | h; exact Int.mul_nonneg h h; exact Int.mul_nonneg_of_nonpos_of_nonpos h h
 have h2 : 0 ≤ x.2 * x.2 := by rcases Int.le_total 0 x.2 with h | h; exact Int.mul_nonneg h h; exact Int.mul_nonneg_of_nonpos_of_nonpos h h
 have h3 : 0 ≤ (-D) * (x.2 * x.2) := Int.mul_nonneg (by omega) h2
 have e : D * x.2 * x.2 = -((-D) * (x.2 * x.2)) := by grind
 rw [e]
 rcases Decidable.em (x.1 = 0) with h | h
 ·have h4 : x.2 ≠ 0 := fun h5 => hx (zAb h h5)
  have h5 : x.2 * x.2 ≠ 0 := fun h6 => by rcases Int.mul_eq_zero.1 h6 with h7 | h7 <;> exact h4 h7
  have h6 : 0 < (-D) * (x.2 * x.2) := Int.mul_pos (by omega) (by omega)
  omega
 ·have h5 : x.1 * x.1 ≠ 0 := fun h6 => by rcases Int.mul_eq_zero.1 h6 with h7 | h7 <;> exact h h7
  omega
theorem eM_ne {D : Int} (hD : D < 0) {x y : El} (hx : x ≠ (0, 0)) (hy : y ≠ (0, 0)) : eM D x y ≠ (0, 0) := by
 intro h
 have h1 := Int.mul_pos (eN_pos hD hx) (eN_pos hD hy)
 rw [← eN_mul, h] at h1
 simp [eN] at h1
theorem zHU {D : Int} {a : El} {L : List El} {x : El} : Sp (eL D a L) x ↔ ∃ y, Sp L y ∧ x = eM D a y := by
 constructor
 ·intro h
  refine h (fun x => ∃ y, Sp L y ∧ x = eM D a y) ⟨(0, 0), zG6 L, (eM_zero D a).symm⟩ ?_ ?_
  ·rintro x y ⟨x', h1, e1⟩ ⟨y', h2, e2⟩
   exact ⟨eS x' y', zIf h1 h2, by rw [e1, e2, eM_sub]⟩
  ·intro l hl
   obtain ⟨m, hm, e⟩ := List.mem_map.1 hl
   exact ⟨m, zEN hm, e.symm⟩
 ·rintro ⟨y, hy, e⟩
  subst e
  refine hy (fun y => Sp (eL D a L) (eM D a y)) (by rw [eM_zero]; exact zG6 _) ?_ ?_
  ·intro x y h1 h2
   rw [eM_sub]; exact zIf h1 h2
  ·exact fun l hl => zEN (List.mem_map.2 ⟨l, hl, rfl⟩)
theorem mem_eP {D : Int} {L M : List El} {x : El} : x ∈ eP D L M ↔ ∃ l, l ∈ L ∧ ∃ m, m ∈ M ∧ x = eM D l m := by
 simp only [eP, List.mem_flatMap, List.mem_map]
 constructor
 ·rintro ⟨l, hl, m, hm, e⟩; exact ⟨l, hl, m, hm, e.symm⟩
 ·rintro ⟨l, hl, m, hm, e⟩; exact ⟨l, hl, m, hm, e.symm⟩
theorem sp_eP {D : Int} {L M : List El} {x y : El} (hx : Sp L x) (hy : Sp M y) : Sp (eP D L M) (eM D x y) := by
 refine hx (fun x => Sp (eP D L M) (eM D x y)) (by rw [eM_zerol]; exact zG6 _) ?_ ?_
 ·intro a b h1 h2
  rw [eM_subl]; exact zIf h1 h2
 ·intro l hl
  refine hy (fun y => Sp (eP D L M) (eM D l y)) (by rw [eM_zero]; exact zG6 _) ?_ ?_
  ·intro a b h1 h2
   rw [eM_sub]; exact zIf h1 h2
  ·exact fun m hm => zEN (mem_eP.2 ⟨l, hl, m, hm, rfl⟩)
def Cl (D : Int) (L M : List El) : Prop := ∃ a b : El, a ≠ (0, 0) ∧ b ≠ (0, 0) ∧ ∀ x, Sp (eL D a L) x ↔ Sp (eL D b M) x
theorem cl_refl (D : Int) (L : List El) : Cl D L L := ⟨(1, 0), (1, 0), by simp, by simp, fun _ => Iff.rfl⟩
theorem cl_symm {D : Int} {L M : List El} (h : Cl D L M) : Cl D M L := by
 obtain ⟨a, b, h1, h2, h3⟩ := h
 exact ⟨b, a, h2, h1, fun x => (h3 x).symm⟩
theorem eL_cong {D : Int} {c a b : El} {L M : List El} (h : ∀ x, Sp (eL D a L) x ↔ Sp (eL D b M) x) (x : El) : Sp (eL D (eM D c a) L) x ↔ Sp (eL D (eM D c b) M) x := by
 simp only [zHU] at h ⊢
 constructor
 ·rintro ⟨y, hy, e⟩
  obtain ⟨z, hz, e2⟩ := (h (eM D a y)).1 ⟨y, hy, rfl⟩
  exact ⟨z, hz, by rw [e, zJb, e2, zJb]⟩
 ·rintro ⟨y, hy, e⟩
  obtain ⟨z, hz, e2⟩ := (h (eM D b y)).2 ⟨y, hy, rfl⟩
  exact ⟨z, hz, by rw [e, zJb, e2, zJb]⟩
theorem zHq {D : Int} (hD : D < 0) {L M N : List El} (h1 : Cl D L M) (h2 : Cl D M N) : Cl D L N := by
 obtain ⟨a, b, ha, hb, h⟩ := h1
 obtain ⟨c, d, hc, hd, k⟩ := h2
 refine ⟨eM D c a, eM D b d, eM_ne hD hc ha, eM_ne hD hb hd, fun x => ?_⟩
 rw [eL_cong h x, eM_comm D c b, eL_cong k x]
theorem sp_iff {L M : List El} (h1 : ∀ l, l ∈ L → Sp M l) (h2 : ∀ l, l ∈ M → Sp L l) (x : El) : Sp L x ↔ Sp M x := ⟨sp_le h1, sp_le h2⟩
theorem cl_mk {D : Int} {a b : El} {L M : List El} (ha : a ≠ (0, 0)) (hb : b ≠ (0, 0)) (h1 : ∀ l, l ∈ L → Sp (eL D b M) (eM D a l)) (h2 : ∀ m, m ∈ M → Sp (eL D a L) (eM D b m)) : Cl D L M := by
 refine ⟨a, b, ha, hb, sp_iff ?_ ?_⟩
 ·intro l hl
  obtain ⟨m, hm, e⟩ := List.mem_map.1 hl
  rw [← e]; exact h1 m hm
 ·intro l hl
  obtain ⟨m, hm, e⟩ := List.mem_map.1 hl
  rw [← e]; exact h2 m hm
theorem zJi {D : Int} {a b c d : El} {L L' M M' : List El} (h : ∀ x, Sp (eL D a L) x ↔ Sp (eL D b L') x) (k : ∀ x, Sp (eL D c M) x ↔ Sp (eL D d M') x) : ∀ l, l ∈ eP D L M → Sp (eL D (eM D b d) (eP D L' M')) (eM D (eM D a c) l) := by
 intro l hl
 obtain ⟨l1, h1, m1, h2, e⟩ := mem_eP.1 hl
 obtain ⟨y, hy, e1⟩ := zHU.1 ((h (eM D a l1)).1 (zHU.2 ⟨l1, zEN h1, rfl⟩))
 obtain ⟨z, hz, e2⟩ := zHU.1 ((k (eM D c m1)).1 (zHU.2 ⟨m1, zEN h2, rfl⟩))
 refine zHU.2 ⟨eM D y z, sp_eP hy hz, ?_⟩
 have e3 : eM D (eM D a c) l = eM D (eM D a l1) (eM D c m1) := by
  rw [e]; exact zAb (by simp only [eM]; grind) (by simp only [eM]; grind)
 rw [e3, e1, e2]
 exact zAb (by simp only [eM]; grind) (by simp only [eM]; grind)
theorem cl_prod {D : Int} (hD : D < 0) {L L' M M' : List El} (h1 : Cl D L L') (h2 : Cl D M M') : Cl D (eP D L M) (eP D L' M') := by
 obtain ⟨a, b, ha, hb, h⟩ := h1
 obtain ⟨c, d, hc, hd, k⟩ := h2
 exact cl_mk (eM_ne hD ha hc) (eM_ne hD hb hd) (zJi h k) (zJi (fun x => (h x).symm) (fun x => (k x).symm))
def fL (f : Int × Int × Int) : List El := [(2 * f.1, 0), (f.2.1, 1)]
def fD (f : Int × Int × Int) : Int := f.2.1 * f.2.1 - 4 * f.1 * f.2.2
def Eqf (f g : Int × Int × Int) : Prop := ∃ p q r s : Int, p * s - q * r = 1 ∧ f.1 = g.1 * p * p + g.2.1 * p * r + g.2.2 * r * r ∧ f.2.1 = 2 * g.1 * p * q + g.2.1 * (p * s + q * r) + 2 * g.2.2 * r * s ∧ f.2.2 = g.1 * q * q + g.2.1 * q * s + g.2.2 * s * s
theorem eqf_disc {f g : Int × Int × Int} (h : Eqf f g) : fD f = fD g := by
 obtain ⟨p, q, r, s, hdet, e1, e2, e3⟩ := h
 simp only [fD]
 have : p * s = 1 + q * r := by omega
 rw [e1, e2, e3]
 grind
theorem cl_of_eqf {f g : Int × Int × Int} (hf : 0 < f.1) (hg : 0 < g.1) (h : Eqf f g) : Cl (fD g) (fL f) (fL g) := by
 have hd := eqf_disc h
 obtain ⟨p, q, r, s, hdet, e1, e2, e3⟩ := h
 obtain ⟨a, b, c⟩ := f
 obtain ⟨a', b', c'⟩ := g
 simp only [fD] at hd hf hg e1 e2 e3 ⊢
 have hps : p * s = 1 + q * r := by omega
 have hne : ((2 * a' * p + b' * r, r) : El) ≠ (0, 0) := by
  intro h0
  have h1 : r = 0 := congrArg Prod.snd h0
  have h2 : 2 * a' * p + b' * r = 0 := congrArg Prod.fst h0
  subst h1
  have h3 : p = 0 := by
   have : 2 * a' * p = 0 := by omega
   rcases Int.mul_eq_zero.1 this with h4 | h4
   ·omega
   ·exact h4
  subst h3
  omega
 have hne2 : ((2 * a, 0) : El) ≠ (0, 0) := by
  intro h0
  have h1 : 2 * a = 0 := congrArg Prod.fst h0
  omega
 have k1 : eM (b' * b' - 4 * a' * c') (2 * a' * p + b' * r, r) (2 * a, 0) = eM (b' * b' - 4 * a' * c') (2 * a, 0) (eA (eK p (2 * a', 0)) (eK r (b', 1))) := zAb (by simp only [eM, eA, eK]; grind) (by simp only [eM, eA, eK]; grind)
 have k2 : eM (b' * b' - 4 * a' * c') (2 * a' * p + b' * r, r) (b, 1) = eM (b' * b' - 4 * a' * c') (2 * a, 0) (eA (eK q (2 * a', 0)) (eK s (b', 1))) := by
  refine zAb ?_ ?_
  ·simp only [eM, eA, eK]
   rw [e1, e2]
   have : (2 * a' * p + b' * r) * (2 * a' * p * q + b' * (p * s + q * r) + 2 * c' * r * s) + (b' * b' - 4 * a' * c') * r * 1 - (2 * (a' * p * p + b' * p * r + c' * r * r) * (q * (2 * a') + s * b') + (b' * b' - 4 * a' * c') * 0 * (q * 0 + s * 1)) = (b' * b' - 4 * a' * c') * r * (1 - (p * s - q * r)) := by grind
   rw [hdet] at this
   omega
  ·simp only [eM, eA, eK]
   rw [e1, e2]
   have : (2 * a' * p + b' * r) * 1 + r * (2 * a' * p * q + b' * (p * s + q * r) + 2 * c' * r * s) - (2 * (a' * p * p + b' * p * r + c' * r * r) * (q * 0 + s * 1) + 0 * (q * (2 * a') + s * b')) = (2 * a' * p + b' * r) * (1 - (p * s - q * r)) := by grind
   rw [hdet] at this
   omega
 refine cl_mk hne hne2 ?_ ?_
 ·intro l hl
  simp only [fL, List.mem_cons, List.not_mem_nil, or_false] at hl
  rcases hl with e | e
  ·subst e; rw [k1]; exact zHU.2 ⟨_, sp_comb p r, rfl⟩
  ·subst e; rw [k2]; exact zHU.2 ⟨_, sp_comb q s, rfl⟩
 ·intro l hl
  have j1 : eA (eK s (eA (eK p (2 * a', 0)) (eK r (b', 1)))) (eK (-r) (eA (eK q (2 * a', 0)) (eK s (b', 1)))) = ((2 * a', 0) : El) := by
   refine zAb ?_ ?_
   ·simp only [eA, eK]
    have : s * (p * (2 * a') + r * b') + -r * (q * (2 * a') + s * b') = 2 * a' * (p * s - q * r) := by grind
    rw [hdet] at this
    omega
   ·simp only [eA, eK]; grind
  have j2 : eA (eK (-q) (eA (eK p (2 * a', 0)) (eK r (b', 1)))) (eK p (eA (eK q (2 * a', 0)) (eK s (b', 1)))) = ((b', 1) : El) := by
   refine zAb ?_ ?_
   ·simp only [eA, eK]
    have : -q * (p * (2 * a') + r * b') + p * (q * (2 * a') + s * b') = b' * (p * s - q * r) := by grind
    rw [hdet] at this
    omega
   ·simp only [eA, eK]; grind
  have m1 : ∀ x y : Int, eM (b' * b' - 4 * a' * c') (2 * a, 0) (eA (eK x (eA (eK p (2 * a', 0)) (eK r (b', 1)))) (eK y (eA (eK q (2 * a', 0)) (eK s (b', 1))))) = eA (eK x (eM (b' * b' - 4 * a' * c') (2 * a, 0) (eA (eK p (2 * a', 0)) (eK r (b', 1))))) (eK y (eM (b' * b' - 4 * a' * c') (2 * a, 0) (eA (eK q (2 * a', 0)) (eK s (b', 1))))) := by
   intro x y
   exact zAb (by simp only [eM, eA, eK]; grind) (by simp only [eM, eA, eK]; grind)
  have m2 : ∀ x y : Int, Sp (eL (b' * b' - 4 * a' * c') (2 * a' * p + b' * r, r) (fL (a, b, c))) (eA (eK x (eM (b' * b' - 4 * a' * c') (2 * a, 0) (eA (eK p (2 * a', 0)) (eK r (b', 1))))) (eK y (eM (b' * b' - 4 * a' * c') (2 * a, 0) (eA (eK q (2 * a', 0)) (eK s (b', 1)))))) := by
   intro x y
   rw [← k1, ← k2]
   exact sp_add (zJs (zHU.2 ⟨_, zEN (by simp [fL]), rfl⟩) x) (zJs (zHU.2 ⟨_, zEN (by simp [fL]), rfl⟩) y)
  simp only [fL, List.mem_cons, List.not_mem_nil, or_false] at hl
  rcases hl with e | e
  ·subst e; rw [← j1, m1]; exact m2 _ _
  ·subst e; rw [← j2, m1]; exact m2 _ _
end Go.Proofs.YtfmjfofocklgpaaGreatDoor
namespace Go.Proofs.YtfmjfofocklgpaaGreatDoor
theorem mem_fP {D : Int} {a b a' b' : Int} {x : El} {c c' : Int} (h : x ∈ eP D (fL (a, b, c)) (fL (a', b', c'))) : x = (4 * a * a', 0) ∨ x = (2 * a * b', 2 * a) ∨ x = (2 * a' * b, 2 * a') ∨ x = (b * b' + D, b + b') := by
 obtain ⟨l, hl, m, hm, e⟩ := mem_eP.1 h
 simp only [fL, List.mem_cons, List.not_mem_nil, or_false] at hl hm
 rcases hl with e1 | e1 <;> rcases hm with e2 | e2 <;> subst e1 e2
 ·left; rw [e]; exact zAb (by simp only [eM]; grind) (by simp only [eM]; grind)
 ·right; left; rw [e]; exact zAb (by simp only [eM]; grind) (by simp only [eM]; grind)
 ·right; right; left; rw [e]; exact zAb (by simp only [eM]; grind) (by simp only [eM]; grind)
 ·right; right; right; rw [e]; exact zAb (by simp only [eM]; grind) (by simp only [eM]; grind)
theorem fP_1 (D a b c a' b' c' : Int) : Sp (eP D (fL (a, b, c)) (fL (a', b', c'))) (4 * a * a', 0) := by
 have : eM D (2 * a, 0) (2 * a', 0) = (4 * a * a', 0) := zAb (by simp only [eM]; grind) (by simp only [eM]; grind)
 rw [← this]; exact sp_eP (zEN (by simp [fL])) (zEN (by simp [fL]))
theorem fP_2 (D a b c a' b' c' : Int) : Sp (eP D (fL (a, b, c)) (fL (a', b', c'))) (2 * a * b', 2 * a) := by
 have : eM D (2 * a, 0) (b', 1) = (2 * a * b', 2 * a) := zAb (by simp only [eM]; grind) (by simp only [eM]; grind)
 rw [← this]; exact sp_eP (zEN (by simp [fL])) (zEN (by simp [fL]))
theorem fP_3 (D a b c a' b' c' : Int) : Sp (eP D (fL (a, b, c)) (fL (a', b', c'))) (2 * a' * b, 2 * a') := by
 have : eM D (b, 1) (2 * a', 0) = (2 * a' * b, 2 * a') := zAb (by simp only [eM]; grind) (by simp only [eM]; grind)
 rw [← this]; exact sp_eP (zEN (by simp [fL])) (zEN (by simp [fL]))
theorem sp_in {L : List El} {x y : El} (h : Sp L x) (e : x = y) : Sp L y := e ▸ h
theorem eM_k (D k : Int) (x : El) : eM D (k, 0) x = eK k x := zAb (by simp only [eM, eK]; grind) (by simp only [eM, eK]; grind)
theorem fS (a b c : Int) (p q x y : Int) (hx : x = 2 * a * p + b * q) (hy : y = q) : Sp (fL (a, b, c)) (x, y) := by
 have := sp_comb (u := (2 * a, 0)) (v := (b, 1)) p q
 exact sp_in this (zAb (by simp only [eA, eK]; rw [hx]; grind) (by simp only [eA, eK]; rw [hy]; grind))
theorem zKN {D k : Int} {L : List El} {x y : El} (h : Sp L x) (e : eK k x = y) : Sp (eL D (k, 0) L) y := zHU.2 ⟨x, h, by rw [eM_k]; exact e.symm⟩
theorem cl_united {D a e b c s t : Int} (hD : D = b * b - 4 * a * e * c) (hst : s * a + t * e = 1) : Cl D (eP D (fL (a, b, e * c)) (fL (e, b, a * c))) (fL (a * e, b, c)) := by
 refine cl_mk (a := (1, 0)) (b := (2, 0)) (by simp) (by simp) ?_ ?_
 ·intro l hl
  rw [eM_k]
  rcases mem_fP hl with h | h | h | h
  ·subst h; exact zKN (fS _ _ _ 1 0 (2 * a * e) 0 (by grind) rfl) (zAb (by simp only [eK]; grind) (by simp only [eK]; grind))
  ·subst h; exact zKN (fS _ _ _ 0 a (a * b) a (by grind) rfl) (zAb (by simp only [eK]; grind) (by simp only [eK]; grind))
  ·subst h; exact zKN (fS _ _ _ 0 e (e * b) e (by grind) rfl) (zAb (by simp only [eK]; grind) (by simp only [eK]; grind))
  ·subst h; exact zKN (fS _ _ _ (-c) b (b * b - 2 * a * e * c) b (by grind) rfl) (zAb (by simp only [eK]; grind) (by simp only [eK]; grind))
 ·intro l hl
  rw [eM_k]
  simp only [fL, List.mem_cons, List.not_mem_nil, or_false] at hl
  rcases hl with h | h
  ·subst h; exact zKN (fP_1 D a b (e * c) e b (a * c)) (zAb (by simp only [eK]; grind) (by simp only [eK]; grind))
  ·subst h
   refine zKN (sp_add (zJs (fP_2 D a b (e * c) e b (a * c)) s) (zJs (fP_3 D a b (e * c) e b (a * c)) t)) (zAb ?_ ?_)
   ·simp only [eK, eA]
    have : 1 * (s * (2 * a * b) + t * (2 * e * b)) = 2 * b * (s * a + t * e) := by grind
    rw [this, hst]; omega
   ·simp only [eK, eA]
    have : 1 * (s * (2 * a) + t * (2 * e)) = 2 * (s * a + t * e) := by grind
    rw [this, hst]; try omega
theorem zHT {x y z : Int} (hx : 0 ≤ x) (h : y ≤ z) : x * y ≤ x * z := Int.mul_le_mul_of_nonneg_left h hx
theorem uq_c {a b c x y : Int} (ha : 1 ≤ a) (hb1 : -a ≤ b) (hb2 : b ≤ a) (hc : a ≤ c) (hy : y ≠ 0) : c ≤ a * x * x + b * x * y + c * y * y := by
 have key : ∀ x y : Int, 0 ≤ x → 1 ≤ y → ∀ b, -a ≤ b → b ≤ a → c ≤ a * x * x + b * x * y + c * y * y := by
  intro x y hx hy b hb1 hb2
  have hxy : 0 ≤ x * y := Int.mul_nonneg hx (by omega)
  have h1 : -(a * (x * y)) ≤ b * (x * y) := by
   have : (-a) * (x * y) ≤ b * (x * y) := Int.mul_le_mul_of_nonneg_right hb1 hxy
   have e : (-a) * (x * y) = -(a * (x * y)) := Int.neg_mul ..
   omega
  have e1 : a * x * x + b * x * y + c * y * y = a * (x * x) + b * (x * y) + c * (y * y) := by grind
  rw [e1]
  rcases Int.le_total y x with h | h
  ·have h2 : a * (x * y) ≤ a * (x * x) := zHT (by omega) (zHT hx h)
   have h3 : c * (1 * 1) ≤ c * (y * y) := zHT (by omega) (Int.mul_le_mul hy hy (by omega) (by omega))
   omega
  ·by_cases h0 : x = 0
   ·subst h0
    have h3 : c * (1 * 1) ≤ c * (y * y) := zHT (by omega) (Int.mul_le_mul hy hy (by omega) (by omega))
    simp only [Int.zero_mul, Int.mul_zero] at *
    omega
   ·have h2 : a * (x * (y - x)) ≤ c * (x * (y - x)) := Int.mul_le_mul_of_nonneg_right hc (Int.mul_nonneg hx (by omega))
    have h4 : x * (y - x) ≤ (y - 1) * y := by
     rcases Int.lt_or_le x y with h5 | h5
     ·have : x * (y - x) ≤ (y - 1) * (y - x) := Int.mul_le_mul_of_nonneg_right (by omega) (by omega)
      have : (y - 1) * (y - x) ≤ (y - 1) * y := zHT (by omega) (by omega)
      omega
     ·have e : y - x = 0 := by omega
      rw [e, Int.mul_zero]
      exact Int.mul_nonneg (by omega) (by omega)
    have h6 : c * (x * (y - x)) ≤ c * ((y - 1) * y) := zHT (by omega) h4
    have e2 : a * (x * (y - x)) = a * (x * y) - a * (x * x) := by grind
    have e3 : c * ((y - 1) * y) = c * (y * y) - c * y := by grind
    have h7 : c * 1 ≤ c * y := zHT (by omega) hy
    omega
 have e2 : a * x * x + b * x * y + c * y * y = a * (-x) * (-x) + (-b) * (-x) * y + c * y * y := by grind
 have e3 : a * x * x + b * x * y + c * y * y = a * x * x + (-b) * x * (-y) + c * (-y) * (-y) := by grind
 have e4 : a * x * x + b * x * y + c * y * y = a * (-x) * (-x) + b * (-x) * (-y) + c * (-y) * (-y) := by grind
 rcases Int.lt_or_le 0 y with h1 | h1 <;> rcases Int.le_total 0 x with h2 | h2
 ·exact key x y h2 h1 b hb1 hb2
 ·rw [e2]; exact key (-x) y (by omega) h1 (-b) (by omega) (by omega)
 ·rw [e3]; exact key x (-y) h2 (by omega) (-b) (by omega) (by omega)
 ·rw [e4]; exact key (-x) (-y) (by omega) (by omega) b hb1 hb2
theorem uq_a {a b c x y : Int} (ha : 1 ≤ a) (hb1 : -a ≤ b) (hb2 : b ≤ a) (hc : a ≤ c) (h : x ≠ 0 ∨ y ≠ 0) : a ≤ a * x * x + b * x * y + c * y * y := by
 by_cases hy : y = 0
 ·subst hy
  have hx : x ≠ 0 := by omega
  have h1 : 1 ≤ x * x := by
   have h2 : 0 < x * x := by
    rcases Int.lt_or_le 0 x with h3 | h3
    ·exact Int.mul_pos h3 h3
    ·exact Int.mul_pos_of_neg_of_neg (by omega) (by omega)
   omega
  have h2 : a * 1 ≤ a * (x * x) := zHT (by omega) h1
  have e : a * x * x + b * x * 0 + c * 0 * 0 = a * (x * x) := by grind
  omega
 ·have := uq_c (x := x) ha hb1 hb2 hc hy
  omega
theorem unite_run {a b c e hB hC : Int} {mm : Int × Int × Int × Int} {b0 k1 : Int} (ha : 1 ≤ a) (ha2 : a ≤ 26) (he : 1 ≤ e) (he2 : e ≤ 10000) (hb0 : 0 ≤ b0) (hb02 : b0 < 2 * a) (hB0 : 0 ≤ hB) (hB2 : hB < 2 * e) (hk1 : k1 < e) (hd : 2 * e ∣ b0 + 2 * a * k1 - hB) : ∀ (n : Nat) (k : Int), 0 ≤ k → k ≤ k1 → (k1 - k).toNat < n →
  ∃ k2, zCW (a, b, c) ((e, hB, hC), mm) n (b0 + 2 * a * k) = some (b0 + 2 * a * k2) ∧ k ≤ k2 ∧ k2 ≤ k1 ∧ 2 * e ∣ b0 + 2 * a * k2 - hB
 | 0, k, h0, h1, hn => by omega
 | n + 1, k, h0, h1, hn => by
  have m1 : (2 * a * k).natAbs ≤ 2 * 26 * 10000 := q7 (q7 (by omega) (by omega)) (by omega)
  rw [zCW]
  simp only []
  rw [zJ (n := b0 + 2 * a * k - hB) (by omega), zJ (n := 2 * e) (by omega), zBg (by omega) (by omega)]
  simp only [Option.bind_some]
  by_cases hz : (b0 + 2 * a * k - hB) % (2 * e) = 0
  ·rw [hz, zDN]
   exact ⟨k, rfl, Int.le_refl _, h1, Int.dvd_of_emod_eq_zero hz⟩
  ·rw [zDn hz]
   simp only [Bool.not_false, cond_true, qA]
   have hne : k ≠ k1 := by
    intro e
    rw [e] at hz
    exact hz (Int.emod_eq_zero_of_dvd hd)
   have e1 : b0 + 2 * a * k + 2 * a = b0 + 2 * a * (k + 1) := by rw [Int.mul_add]; omega
   rw [zJ (n := 2 * a) (by omega), zJ (n := b0 + 2 * a * k + 2 * a) (by omega), e1]
   obtain ⟨k2, j1, j2, j3, j4⟩ := unite_run ha ha2 he he2 hb0 hb02 hB0 hB2 hk1 hd n (k + 1) (by omega) (by omega) (by omega)
   exact ⟨k2, j1, by omega, j3, j4⟩
theorem bez_nat : ∀ (a b : Nat), ∃ x y : Int, x * a + y * b = (Nat.gcd a b : Int) := by
 intro a b
 induction a, b using Nat.gcd.induction with
 | H0 n => exact ⟨0, 1, by simp⟩
 | H1 m n hm ih =>
  obtain ⟨x, y, h⟩ := ih
  refine ⟨y - x * (n / m : Nat), x, ?_⟩
  rw [Nat.gcd_rec, ← h]
  have e : (n : Int) = (n % m : Nat) + m * (n / m : Nat) := by exact_mod_cast (Nat.mod_add_div n m).symm
  rw [e]
  grind
theorem bez_int (a b : Int) : ∃ x y : Int, x * a + y * b = (Int.gcd a b : Int) := by
 obtain ⟨x, y, h⟩ := bez_nat a.natAbs b.natAbs
 have sg : ∀ z : Int, ∃ t : Int, (z.natAbs : Int) = t * z := by
  intro z
  rcases Int.le_total 0 z with h | h
  ·exact ⟨1, by omega⟩
  ·exact ⟨-1, by omega⟩
 obtain ⟨s, hs⟩ := sg a
 obtain ⟨t, ht⟩ := sg b
 refine ⟨x * s, y * t, ?_⟩
 rw [hs, ht] at h
 rw [show Int.gcd a b = Nat.gcd a.natAbs b.natAbs from rfl, ← h]
 grind
theorem cop_canc {a e v x : Int} (hi : e ∣ 1 - v * a) (h : e ∣ a * x) : e ∣ x := by
 obtain ⟨i, hi⟩ := hi
 obtain ⟨j, hj⟩ := h
 exact ⟨i * x + v * j, by grind⟩
theorem small_dvd {e x : Int} (h : e ∣ x) (h1 : -e < x) (h2 : x < e) : x = 0 := by
 have h3 : e.natAbs ∣ x.natAbs := Int.natAbs_dvd_natAbs.2 h
 rcases Nat.eq_zero_or_pos x.natAbs with h4 | h4
 ·omega
 ·have := Nat.le_of_dvd h4 h3
  omega
structure Uni (a b c A B C D x y q s e hB hC b1 c1 α β : Int) : Prop where
  mh : MatInv A B C x q y s e hB hC
  e1 : 1 ≤ e
  e2 : e ≤ 10000
  t : ∃ u v : Int, u * a + v * e = 1
  bα : b1 = b + 2 * a * α
  bβ : b1 = hB + 2 * e * β
  b0 : 0 ≤ b1
  b2 : b1 < 2 * a * e
  dis : b1 * b1 - 4 * a * e * c1 = D
  qb : q.natAbs ≤ 100000
  sb : s.natAbs ≤ 100000
  xy : 0 ≤ x ∧ x ≤ 3 ∧ 0 ≤ y ∧ y ≤ 3
theorem uni_c {a b c D e hB hC b1 α β : Int} (hd : b * b - 4 * a * c = D) (hh : hB * hB - 4 * e * hC = D) {u v : Int} (huv : u * a + v * e = 1) (bα : b1 = b + 2 * a * α) (bβ : b1 = hB + 2 * e * β) : b1 * b1 - 4 * a * e * (u * (hC + hB * β + e * β * β) + v * (c + b * α + a * α * α)) = D := by
 have f1 : b1 * b1 - D = 4 * a * (c + b * α + a * α * α) := by rw [bα, ← hd]; grind
 have f2 : b1 * b1 - D = 4 * e * (hC + hB * β + e * β * β) := by rw [bβ, ← hh]; grind
 generalize hC + hB * β + e * β * β = X at *
 generalize c + b * α + a * α * α = Y at *
 have f3 : (b1 * b1 - D) * 1 = 4 * a * e * (u * X + v * Y) := by
  rw [← huv]
  have : (b1 * b1 - D) * (u * a + v * e) = u * a * (b1 * b1 - D) + v * e * (b1 * b1 - D) := by grind
  rw [this]
  rw [show u * a * (b1 * b1 - D) = u * a * (4 * e * X) by rw [f2], show v * e * (b1 * b1 - D) = v * e * (4 * a * Y) by rw [f1]]
  grind
 omega
theorem uni_c1 {a e b1 c1 D : Int} (ha : 1 ≤ a) (he : 1 ≤ e) (b0 : 0 ≤ b1) (b2 : b1 < 2 * a * e) (hD1 : -2000 ≤ D) (hD2 : D < 0) (dis : b1 * b1 - 4 * a * e * c1 = D) : 1 ≤ c1 ∧ c1 ≤ a * e + 500 := by
 have hae : 1 * 1 ≤ a * e := Int.mul_le_mul ha he (by omega) (by omega)
 have e1 : 2 * a * e = 2 * (a * e) := Int.mul_assoc ..
 have e2 : 4 * a * e * c1 = 4 * (a * e * c1) := by grind
 generalize a * e = m at *
 have hbb : 0 ≤ b1 * b1 := Int.mul_nonneg b0 b0
 have hbb2 : b1 * b1 ≤ 2 * m * (2 * m) := Int.mul_le_mul (by omega) (by omega) b0 (by omega)
 have e3 : 2 * m * (2 * m) = 4 * (m * m) := by grind
 constructor
 ·rcases Int.lt_or_le 0 c1 with h | h
  ·exact h
  ·have : m * c1 ≤ m * 0 := Int.mul_le_mul_of_nonneg_left h (by omega)
   omega
 ·rcases Int.lt_or_le (m + 500) c1 with h | h
  ·have k1 : m * (m + 501) ≤ m * c1 := Int.mul_le_mul_of_nonneg_left (by omega) (by omega)
   have k2 : m * (m + 501) = m * m + 501 * m := by grind
   omega
  ·exact h
end Go.Proofs.YtfmjfofocklgpaaGreatDoor
namespace Go.Proofs.YtfmjfofocklgpaaGreatDoor
theorem par_eq {b h D m n : Int} (h1 : b * b - 4 * m = D) (h2 : h * h - 4 * n = D) : b % 2 = h % 2 := by
 have k : ∀ z : Int, (z * z) % 2 = z % 2 := by
  intro z
  obtain ⟨t, ht | ht⟩ : ∃ t, z = 2 * t ∨ z = 2 * t + 1 := ⟨z / 2, by omega⟩
  ·rw [ht, show 2 * t * (2 * t) = 2 * (2 * t * t) by grind]; omega
  ·rw [ht, show (2 * t + 1) * (2 * t + 1) = 2 * (2 * t * t + 2 * t) + 1 by grind]; omega
 have := k b
 have := k h
 omega
theorem common_ex {a e b0 hB : Int} (he : 1 ≤ e) (hg : Int.gcd a e = 1) (hp : b0 % 2 = hB % 2) : ∃ k1 v1, 0 ≤ k1 ∧ k1 < e ∧ 2 * e ∣ b0 + 2 * a * k1 - hB ∧ e ∣ 1 - v1 * a := by
 obtain ⟨v1, w1, h1⟩ := bez_int a e
 rw [hg] at h1
 obtain ⟨H, hH⟩ : ∃ H, hB - b0 = 2 * H := ⟨(hB - b0) / 2, by omega⟩
 have k0 := Int.emod_nonneg (H * v1) (b := e) (by omega)
 have k2 := Int.emod_lt_of_pos (H * v1) (b := e) (by omega)
 have k3 := Int.emod_add_mul_ediv (H * v1) e
 refine ⟨H * v1 % e, v1, k0, k2, ?_, ⟨w1, by have : e * w1 = w1 * e := Int.mul_comm ..; omega⟩⟩
 refine ⟨-(H * w1) - a * (H * v1 / e), ?_⟩
 have e1 : H * v1 % e = H * v1 - e * (H * v1 / e) := by omega
 generalize H * v1 / e = W at *
 have e2 : v1 * a = 1 - w1 * e := by omega
 have e3 : ∀ k, b0 + 2 * a * k - hB = 2 * (a * k - H) := by
  intro k
  have : 2 * a * k = 2 * (a * k) := Int.mul_assoc ..
  omega
 rw [e3, e1]
 have e4 : a * (H * v1 - e * W) - H = H * (v1 * a) - H - a * e * W := by grind
 rw [e4, e2]
 grind
theorem zLs {a e b0 hB k k1 v1 : Int} (k0 : 0 ≤ k) (k2 : k < e) (k3 : 0 ≤ k1) (k4 : k1 < e) (h1 : 2 * e ∣ b0 + 2 * a * k1 - hB) (h2 : 2 * e ∣ b0 + 2 * a * k - hB) (h3 : e ∣ 1 - v1 * a) : k = k1 := by
 have d1 : 2 * e ∣ 2 * (a * (k1 - k)) := by
  obtain ⟨i, hi⟩ := h1
  obtain ⟨j, hj⟩ := h2
  refine ⟨i - j, ?_⟩
  have e1 : 2 * (a * (k1 - k)) = 2 * a * k1 - 2 * a * k := by grind
  have e2 : 2 * e * (i - j) = 2 * e * i - 2 * e * j := Int.mul_sub ..
  rw [e1, e2]
  omega
 have d2 : e ∣ a * (k1 - k) := by
  obtain ⟨i, hi⟩ := d1
  exact ⟨i, by have : 2 * e * i = 2 * (e * i) := Int.mul_assoc ..; omega⟩
 have := small_dvd (cop_canc h3 d2) (by omega) (by omega)
 omega
theorem common_val {a e b0 hB : Int} (ha : 1 ≤ a) (ha2 : a ≤ 26) (he : 1 ≤ e) (he2 : e ≤ 10000) (hg : Int.gcd a e = 1) (hb0 : 0 ≤ b0) (hb02 : b0 < 2 * a) (hB0 : 0 ≤ hB) (hB2 : hB < 2 * e) (hp : b0 % 2 = hB % 2) :
  ∃ k1 z v1, zCV b0 (2 * a) hB (2 * e) = some (b0 + 2 * a * k1, z, true) ∧ 0 ≤ k1 ∧ k1 < e ∧ 2 * e ∣ b0 + 2 * a * k1 - hB ∧ e ∣ 1 - v1 * a := by
 have hc : ∀ c : Int, c ∣ e → c ∣ a → c ∣ 1 := by
  intro c h1 h2
  have := Int.dvd_coe_gcd h2 h1
  rw [hg] at this
  exact this
 obtain ⟨v1, j1, j2, j3, j4⟩ := inv_val (n := e) (m := a) he (by omega) (by omega) hc
 obtain ⟨H, hH⟩ : ∃ H, hB - b0 = 2 * H := ⟨(hB - b0) / 2, by omega⟩
 have k0 := Int.emod_nonneg (H * v1) (b := e) (by omega)
 have k2 := Int.emod_lt_of_pos (H * v1) (b := e) (by omega)
 have k3 := Int.emod_add_mul_ediv (H * v1) e
 have m1 : (H * v1).natAbs ≤ 10000 * 10000 := q7 (by omega) (by omega)
 generalize hk : H * v1 % e = k1 at *
 have m2 : (2 * a * k1).natAbs ≤ 2 * 26 * 10000 := q7 (q7 (by omega) (by omega)) (by omega)
 have hdiv : 2 * e ∣ b0 + 2 * a * k1 - hB := by
  obtain ⟨w, hw⟩ := j2
  refine ⟨-(H * w) - a * (H * v1 / e), ?_⟩
  have e1 : k1 = H * v1 - e * (H * v1 / e) := by omega
  generalize H * v1 / e = W at *
  have e2 : v1 * a = 1 - e * w := by omega
  have e3 : b0 + 2 * a * k1 - hB = 2 * (a * k1 - H) := by
   have : 2 * a * k1 = 2 * (a * k1) := Int.mul_assoc ..
   omega
  rw [e3, e1]
  have e4 : a * (H * v1 - e * W) - H = H * (v1 * a) - H - a * e * W := by grind
  rw [e4, e2]
  grind
 have hak : 2 * a * k1 ≤ 2 * a * (e - 1) := Int.mul_le_mul_of_nonneg_left (by omega) (by omega)
 have hak0 : 0 ≤ 2 * a * k1 := Int.mul_nonneg (by omega) k0
 have hae : (a * (2 * e)).natAbs ≤ 26 * 20000 := q7 (by omega) (by omega)
 have hae1 : 2 * a * (e - 1) = a * (2 * e) - 2 * a := by grind
 have hae2 : 1 * 2 ≤ a * (2 * e) := Int.mul_le_mul ha (by omega) (by omega) (by omega)
 have hgg : Int.gcd (2 * a) (2 * e) = 2 := by rw [Int.gcd_mul_left, hg]; rfl
 refine ⟨k1, a * (2 * e), v1, ?_, k0, k2, hdiv, j2⟩
 unfold zCV
 rw [zHV (by omega) (by omega), hgg]
 simp only [Option.bind_some]
 rw [show ((2 : Nat) : Int) = 2 from rfl, zFI (show (2 : Int) ≠ 0 by decide), zJ (n := hB - b0) (by omega), tz (by decide), decide_eq_true (show (2 : Int) ∣ hB - b0 from ⟨H, hH⟩)]
 simp only [Option.bind_some, Bool.not_true, cond_false]
 rw [tdv (a := 2 * a) (c := a) (by decide) rfl, tdv (a := 2 * e) (c := e) (by decide) rfl, zJ (n := a) (by omega), zJ (n := e) (by omega), j1]
 simp only [Option.bind_some]
 rw [tdv (a := hB - b0) (c := H) (by decide) hH.symm, zJ (n := H) (by omega), zJ (n := H * v1) (by omega), zFp, zBg he (by omega), hk]
 simp only [Option.bind_some, qA]
 rw [zJ (n := a * (2 * e)) (by omega), zJ (n := 2 * a * k1) (by omega), zJ (n := b0 + 2 * a * k1) (by omega), zFp, zBg (by omega) (by omega), Int.emod_eq_of_lt (by omega) (by omega)]
 rfl
def PrRc (D : Int) (f : Int × Int × Int) : Prop := 1 ≤ f.1 ∧ zCg f.1 f.2.1 f.2.2 ∧ f.2.1 * f.2.1 - 4 * f.1 * f.2.2 = D ∧ ∀ k : Int, k ∣ f.1 → k ∣ f.2.1 → k ∣ f.2.2 → k ∣ 1
theorem zKB {D : Int} {f : Int × Int × Int} (hD1 : -2000 ≤ D) (h : PrRc D f) : Rb f.1 f.2.1 f.2.2 ∧ f.1 ≤ 25 := by
 obtain ⟨h1, h2, h3, h4⟩ := h
 obtain ⟨⟨i1, i2⟩, i3⟩ := h2
 have hbb : f.2.1 * f.2.1 ≤ f.1 * f.1 := by
  rcases Int.le_total 0 f.2.1 with h4 | h4
  ·exact Int.mul_le_mul i2 i2 h4 (by omega)
  ·have : (-f.2.1) * (-f.2.1) ≤ f.1 * f.1 := Int.mul_le_mul (by omega) (by omega) (by omega) (by omega)
   have e : (-f.2.1) * (-f.2.1) = f.2.1 * f.2.1 := by grind
   omega
 have h7 : 4 * f.1 * f.1 ≤ 4 * f.1 * f.2.2 := Int.mul_le_mul_of_nonneg_left (by omega) (by omega)
 have e1 : 4 * f.1 * f.1 = 4 * (f.1 * f.1) := Int.mul_assoc ..
 have ha : f.1 ≤ 25 := by
  rcases Int.lt_or_le 25 f.1 with h8 | h8
  ·have : 26 * 26 ≤ f.1 * f.1 := Int.mul_le_mul (by omega) (by omega) (by omega) (by omega)
   omega
  ·exact h8
 have haa : f.1 * f.1 ≤ 25 * 25 := Int.mul_le_mul ha ha (by omega) (by omega)
 have h9 : 4 * 1 * f.2.2 ≤ 4 * f.1 * f.2.2 := Int.mul_le_mul_of_nonneg_right (by omega) (by omega)
 exact ⟨⟨h1, by omega, by omega, by omega, by omega, by omega⟩, ha⟩
theorem unite_spec {D a b c A B C x y q s e hB hC b0 b1 z cc α β : Int} (ha : 1 ≤ a) (ra : a ≤ 25) (rb : b.natAbs ≤ 26) (hv1 : 1 ≤ e) (v2 : e ≤ 10000) (hD1 : -2000 ≤ D) (hD2 : D < 0) (f3 : b * b - 4 * a * c = D) (p2 : zCO (A, B, C) a = some (x, y)) (c2 : zAi (A, B, C) x y = some ((e, hB, hC), (x, q, y, s))) (hb0 : b % (2 * a) = b0) (k2 : zCV b0 (2 * a) hB (2 * e) = some (b1, z, true)) (eα : 2 * a * α = b1 - b) (eβ : 2 * e * β = b1 - hB) (hB0 : hB.natAbs ≤ 30000) (hb1 : b1.natAbs ≤ 520000) (hbb : (b1 * b1).natAbs ≤ 270400000000) (e5 : 4 * a * e * cc = b1 * b1 - D) (hbα : α.natAbs ≤ 1000000) (hbβ : β.natAbs ≤ 1000000) (hcc : cc.natAbs ≤ 300000) (h4 : 1 ≤ 4 * a * e) (h42 : 4 * a * e ≤ 1040000) {f0 g0 : Int × Int × Int} {mf mg : Int × Int × Int × Int} (h1 : jN f0 = some ((a, b, c), mf)) (h2 : jN g0 = some ((A, B, C), mg)) : zCN f0 g0 = (qO mg (x, q, y, s)).bind fun N1 => (qO mf (1, α, 0, 1)).bind fun M => (qO N1 (1, β, 0, 1)).bind fun N => some ((a, b1, e * cc), (e, b1, a * cc), M, N) := by
 unfold zCN
 rw [h1, Option.bind_some, h2, Option.bind_some]
 simp only []
 rw [p2, Option.bind_some]
 simp only []
 rw [c2, Option.bind_some]
 simp only []
 cases hN1 : qO mg (x, q, y, s) with
 | none => rfl
 | some N1 =>
  simp only [Option.bind_some]
  have m3 : (e * cc).natAbs ≤ 10000 * 300000 := q7 (by omega) (by omega)
  have m4 : (a * cc).natAbs ≤ 26 * 300000 := q7 (by omega) (by omega)
  rw [zJ (n := 2 * a) (by omega), zFp, zBg (by omega) (by omega), hb0, Option.bind_some, zJ (n := 2 * e) (by omega), k2, Option.bind_some, zFI (show 2 * a ≠ 0 by omega), Option.bind_some]
  simp only [zD7, Option.bind_some]
  rw [zJ (n := b1 - b) (by omega), tdv (b := 2 * a) (by omega) eα, zJ (n := α) (by omega)]
  cases hM : qO mf (1, α, 0, 1) with
  | none => rfl
  | some M =>
   simp only [Option.bind_some]
   rw [zFI (show 2 * e ≠ 0 by omega), Option.bind_some, zJ (n := b1 - hB) (by omega), tdv (b := 2 * e) (by omega) eβ, zJ (n := β) (by omega)]
   cases hN : qO N1 (1, β, 0, 1) with
   | none => rfl
   | some N =>
    simp only [Option.bind_some, qA]
    rw [zLF, disc_w, f3, zJ (n := D) (by omega), Option.bind_some, zJ (n := 4 * a) (by omega), zJ (n := 4 * a * e) (by omega), zFI (show 4 * a * e ≠ 0 by omega), Option.bind_some, zJ (n := b1 * b1) (by omega), zJ (n := b1 * b1 - D) (by omega), tdv (b := 4 * a * e) (by omega) e5, zJ (n := cc) (by omega), zJ (n := a * cc) (by omega), zJ (n := e * cc) (by omega)]
theorem unite_impl {D : Int} {a b c A B C : Int} (hD1 : -2000 ≤ D) (hD2 : D < 0) (hf : PrRc D (a, b, c)) (hg : PrRc D (A, B, C)) :
  ∃ x y q s e hB hC b1 c1 α β, Uni a b c A B C D x y q s e hB hC b1 c1 α β ∧ zDI (a, b, c) (A, B, C) = (qG (x, q, y, s) (1, β, 0, 1)).bind (fun N => some (a, e, b1, c1, (1, α, 0, 1), N)) ∧ zCO (A, B, C) a = some (x, y) ∧ zAi (A, B, C) x y = some ((e, hB, hC), (x, q, y, s)) ∧ (0 ≤ hB ∧ hB < 2 * e ∧ hB.natAbs ≤ 30000) ∧ α.natAbs ≤ 1000000 ∧ β.natAbs ≤ 1000000 ∧ Int.gcd a e = 1 := by
 have hF := FUge
 obtain ⟨rf, ra⟩ := zKB hD1 hf
 obtain ⟨rg, rA⟩ := zKB hD1 hg
 obtain ⟨f1, f2, f3, f4⟩ := hf
 obtain ⟨g1, g2, g3, g4⟩ := hg
 simp only [] at rf ra rg rA f1 f2 f3 f4 g1 g2 g3 g4
 obtain ⟨⟨x, y⟩, p1, p2, p3, p4⟩ := point_both rg f1 ra g4
 simp only [] at p3 p4
 have hxy : x ≠ 0 ∨ y ≠ 0 := by
  simp only [ptL, List.mem_cons, Prod.mk.injEq, List.not_mem_nil, or_false] at p3
  omega
 obtain ⟨⟨u1, u2⟩, u3⟩ := g2
 have hv1 : 1 ≤ Vl A B C x y := by
  have := uq_a g1 (show -A ≤ B by omega) u2 (show A ≤ C by omega) hxy
  unfold Vl
  omega
 obtain ⟨q, s, hB, hC, c1, c2, em, t1, t2, v2, qb, sb, x1, x2, y1, y2⟩ := complete_both rg g3 hD1 (by omega) p3 rfl hv1
 generalize he : Vl A B C x y = e at *
 have hh : hB * hB - 4 * e * hC = D := by rw [zLH em, g3]
 have b0a := Int.emod_nonneg b (b := 2 * a) (by omega)
 have b0b := Int.emod_lt_of_pos b (b := 2 * a) (by omega)
 have b0c := Int.emod_add_mul_ediv b (2 * a)
 have hpar := par_eq (b := b) (h := hB) (D := D) (m := a * c) (n := e * hC) (by rw [← f3]; grind) (by rw [← hh]; grind)
 generalize hb0 : b % (2 * a) = b0 at *
 have hpar0 : b0 % 2 = hB % 2 := by
  have : 2 * a * (b / (2 * a)) = 2 * (a * (b / (2 * a))) := Int.mul_assoc ..
  omega
 have hga : Int.gcd a e = 1 := by rw [Int.gcd_comm]; exact p4
 obtain ⟨k1, v1, k3, k4, k5, k6⟩ := common_ex (a := a) (e := e) hv1 hga hpar0
 obtain ⟨k, l1, l2, l3, l4⟩ := unite_run (c := c) (b := b) (hC := hC) (mm := (x, q, y, s)) f1 (by omega) hv1 v2 b0a b0b t1 t2 k4 k5 FU 0 (by omega) k3 (by omega)
 have hk : k = k1 := zLs l2 (by omega) k3 k4 k5 l4 k6
 subst hk
 generalize hb1 : b0 + 2 * a * k = b1 at *
 obtain ⟨β, hβ⟩ := k5
 have hα : b1 = b + 2 * a * (k - b / (2 * a)) := by rw [Int.mul_sub]; omega
 generalize k - b / (2 * a) = α at *
 have hβ' : b1 = hB + 2 * e * β := by omega
 have hak : 2 * a * k ≤ 2 * a * (e - 1) := Int.mul_le_mul_of_nonneg_left (by omega) (by omega)
 have hak0 : 0 ≤ 2 * a * k := Int.mul_nonneg (by omega) k3
 have hae : (2 * a * e).natAbs ≤ 2 * 26 * 10000 := q7 (q7 (by omega) (by omega)) (by omega)
 have hae1 : 2 * a * (e - 1) = 2 * a * e - 2 * a := by grind
 have b1lt : b1 < 2 * a * e := by omega
 have b1ge : 0 ≤ b1 := by omega
 obtain ⟨w, hw⟩ := k6
 have huv : v1 * a + w * e = 1 := by have : w * e = e * w := Int.mul_comm ..; omega
 have dis := uni_c (b1 := b1) f3 hh huv hα hβ'
 generalize hc1 : v1 * (hC + hB * β + e * β * β) + w * (c + b * α + a * α * α) = cc at *
 obtain ⟨cc1, cc2⟩ := uni_c1 f1 hv1 b1ge b1lt hD1 hD2 dis
 have hm1 : a * e ≤ 25 * 10000 := Int.mul_le_mul ra v2 (by omega) (by omega)
 have hm0 : 1 * 1 ≤ a * e := Int.mul_le_mul f1 hv1 (by omega) (by omega)
 have hbb : b1 * b1 ≤ 520000 * 520000 := Int.mul_le_mul (by omega) (by omega) b1ge (by omega)
 have hbb0 : 0 ≤ b1 * b1 := Int.mul_nonneg b1ge b1ge
 have hbα : α.natAbs ≤ 1000000 := by
  rcases Int.lt_or_le 1000000 α with h | h
  ·have : 2 * a * 1000001 ≤ 2 * a * α := Int.mul_le_mul_of_nonneg_left (by omega) (by omega)
   have := rf.b1; omega
  ·rcases Int.lt_or_le α (-1000000) with h' | h'
   ·have : 2 * a * α ≤ 2 * a * (-1000001) := Int.mul_le_mul_of_nonneg_left (by omega) (by omega)
    have := rf.b2; omega
   ·omega
 have hbβ : β.natAbs ≤ 1000000 := by
  rcases Int.lt_or_le 1000000 β with h | h
  ·have : 2 * e * 1000001 ≤ 2 * e * β := Int.mul_le_mul_of_nonneg_left (by omega) (by omega)
   omega
  ·rcases Int.lt_or_le β (-1000000) with h' | h'
   ·have : 2 * e * β ≤ 2 * e * (-1000001) := Int.mul_le_mul_of_nonneg_left (by omega) (by omega)
    omega
   ·omega
 have e4 : 4 * a * e = 2 * (2 * a * e) := by grind
 have e5 : 4 * a * e * cc = b1 * b1 - D := by omega
 have eα : 2 * a * α = b1 - b := by omega
 have eβ : 2 * e * β = b1 - hB := by omega
 have rb1 := rf.b1
 have rb2 := rf.b2
 refine ⟨x, y, q, s, e, hB, hC, b1, cc, α, β, ⟨em, hv1, v2, ⟨v1, w, huv⟩, hα, hβ', b1ge, b1lt, dis, qb, sb, x1, x2, y1, y2⟩, ?_, p2, c2, ⟨t1, t2, by omega⟩, hbα, hbβ, hga⟩
 ·unfold zDI
  simp only []
  rw [p1, Option.bind_some]
  simp only []
  rw [c1, Option.bind_some]
  simp only []
  rw [zJ (n := 2 * a) (by omega), zBg (by omega) (by omega), hb0, Option.bind_some]
  rw [show b0 = b0 + 2 * a * 0 by omega, l1, Option.bind_some, zJ (n := 2 * a * e) (by omega), zBg (by omega) (by omega), Int.emod_eq_of_lt b1ge b1lt, Option.bind_some, disc_w, f3, zJ (n := D) (by omega), Option.bind_some, zJ (n := 4 * a) (by omega), zJ (n := 4 * a * e) (by omega), zFI (show 4 * a * e ≠ 0 by omega), Option.bind_some, zJ (n := b1 * b1) (by omega), zJ (n := b1 * b1 - D) (by omega), tdv (b := 4 * a * e) (by omega) e5, zFI (show 2 * a ≠ 0 by omega)]
  simp only [qA, Option.bind_some]
  rw [zJ (n := cc) (by omega), zJ (n := b1 - b) (by omega), tdv (b := 2 * a) (by omega) eα, zJ (n := α) (by omega), zJ (n := 2 * e) (by omega), zFI (show 2 * e ≠ 0 by omega), Option.bind_some, zJ (n := b1 - hB) (by omega), tdv (b := 2 * e) (by omega) eβ, zJ (n := β) (by omega)]
theorem unite_both {D : Int} {a b c A B C : Int} (hD1 : -2000 ≤ D) (hD2 : D < 0) (hf : PrRc D (a, b, c)) (hg : PrRc D (A, B, C)) :
  ∃ x y q s e hB hC b1 c1 α β, Uni a b c A B C D x y q s e hB hC b1 c1 α β ∧ zDI (a, b, c) (A, B, C) = (qG (x, q, y, s) (1, β, 0, 1)).bind (fun N => some (a, e, b1, c1, (1, α, 0, 1), N)) ∧
   ∀ f0 g0 mf mg, jN f0 = some ((a, b, c), mf) → jN g0 = some ((A, B, C), mg) → zCN f0 g0 = (qO mg (x, q, y, s)).bind fun N1 => (qO mf (1, α, 0, 1)).bind fun M => (qO N1 (1, β, 0, 1)).bind fun N => some ((a, b1, e * c1), (e, b1, a * c1), M, N) := by
 obtain ⟨rf, ra⟩ := zKB hD1 hf
 have f1 : 1 ≤ a := hf.1
 have f3 : b * b - 4 * a * c = D := hf.2.2.1
 have g3 : B * B - 4 * A * C = D := hg.2.2.1
 simp only [] at rf ra
 obtain ⟨x, y, q, s, e, hB, hC, b1, c1, α, β, u, k1, p2, c2, ⟨hB1, hB2, n1⟩, n2, n3, hga⟩ := unite_impl hD1 hD2 hf hg
 have ku := u
 obtain ⟨mh, e1, e2, ⟨m, n, hmn⟩, bα, bβ, b0, b2, dis, qb, sb, xy⟩ := u
 have hh : hB * hB - 4 * e * hC = D := by rw [zLH mh, g3]
 have t1 := Int.emod_nonneg b (b := 2 * a) (by omega)
 have t2 := Int.emod_lt_of_pos b (b := 2 * a) (by omega)
 have t3 := Int.emod_add_mul_ediv b (2 * a)
 have hpar := par_eq (b := b) (h := hB) (D := D) (m := a * c) (n := e * hC) (by rw [← f3]; grind) (by rw [← hh]; grind)
 generalize hb0 : b % (2 * a) = r at *
 have hpar0 : r % 2 = hB % 2 := by
  have : 2 * a * (b / (2 * a)) = 2 * (a * (b / (2 * a))) := Int.mul_assoc ..
  omega
 obtain ⟨k, z, v1, j2, j3, j4, j5, j6⟩ := common_val (a := a) (e := e) f1 (by omega) e1 e2 hga t1 t2 hB1 hB2 hpar0
 have hb1 : r + 2 * a * k = b1 := by
  have e5 : b1 = r + 2 * a * (α + b / (2 * a)) := by rw [Int.mul_add]; omega
  have hlo : 0 ≤ α + b / (2 * a) := by
   rcases Int.lt_or_le (α + b / (2 * a)) 0 with h | h
   ·have : 2 * a * (α + b / (2 * a)) ≤ 2 * a * (-1) := Int.mul_le_mul_of_nonneg_left (by omega) (by omega)
    omega
   ·exact h
  have hhi : α + b / (2 * a) < e := by
   rcases Int.lt_or_le (α + b / (2 * a)) e with h | h
   ·exact h
   ·have : 2 * a * e ≤ 2 * a * (α + b / (2 * a)) := Int.mul_le_mul_of_nonneg_left h (by omega)
    omega
  have := zLs (a := a) (e := e) (b0 := r) (hB := hB) j3 j4 hlo hhi ⟨β, by omega⟩ j5 j6
  rw [e5, this]
 rw [hb1] at j2
 obtain ⟨cc1, cc2⟩ := uni_c1 f1 e1 b0 b2 hD1 hD2 dis
 have hae : a * e ≤ 25 * 10000 := Int.mul_le_mul ra e2 (by omega) (by omega)
 have hae0 : 1 * 1 ≤ a * e := Int.mul_le_mul f1 e1 (by omega) (by omega)
 have hae2 : 2 * a * e = 2 * (a * e) := Int.mul_assoc ..
 have hae4 : 4 * a * e = 4 * (a * e) := Int.mul_assoc ..
 have hbb : b1 * b1 ≤ 520000 * 520000 := Int.mul_le_mul (by omega) (by omega) b0 (by omega)
 have hbb0 : 0 ≤ b1 * b1 := Int.mul_nonneg b0 b0
 have rb1 := rf.b1
 have rb2 := rf.b2
 refine ⟨x, y, q, s, e, hB, hC, b1, c1, α, β, ku, k1, fun f0 g0 mf mg h1 h2 => ?_⟩
 exact unite_spec f1 ra (by omega) e1 e2 hD1 hD2 f3 p2 c2 hb0 j2 (by omega) (by omega) n1 (by omega) (by omega) (by omega) n2 n3 (by omega) (by omega) (by omega) h1 h2
end Go.Proofs.YtfmjfofocklgpaaGreatDoor
namespace Go.Proofs.YtfmjfofocklgpaaGreatDoor
abbrev F3 := Int × Int × Int
def CF (D : Int) (f : F3) : Prop := RedInv f.1 f.2.1 f.2.2 D 1 ∧ f.2.2 ≤ 1000000
theorem cf_of_class {f : F3} (h : qC f = some true) : CF (f.2.1 * f.2.1 - 4 * f.1 * f.2.2) f := by
 have h1 := red_of_class (a := f.1) (b := f.2.1) (c := f.2.2) h
 obtain ⟨_, _, hc, _⟩ := zGq (a := f.1) (b := f.2.1) (c := f.2.2) h
 exact ⟨h1, (zEJ.1 hc).2⟩
theorem zGh {D : Int} {f : F3} (h : PrRc D f) : 0 < f.1 := by have := h.1; omega
theorem con_one {a b c d : Int} (h : RedInv a b c d 1) (k : Int) (h1 : k ∣ a) (h2 : k ∣ b) (h3 : k ∣ c) : k ∣ 1 := (h.con k).1 ⟨h1, h2, h3⟩
theorem red_cf {D : Int} {f : F3} (h : CF D f) : ∃ g m1 m2 m3 m4, zAs f = some (g, (m1, m2, m3, m4)) ∧ jN f = some (g, (m1, m2, m3, m4)) ∧ PrRc D g ∧ Eqf g f ∧ MatInv f.1 f.2.1 f.2.2 m1 m2 m3 m4 g.1 g.2.1 g.2.2 ∧ m1.natAbs ≤ 2000 ∧ m2.natAbs ≤ 2000 ∧ m3.natAbs ≤ 2000 ∧ m4.natAbs ≤ 2000 ∧ CF D g := by
 obtain ⟨a, b, c⟩ := f
 obtain ⟨h1, h2⟩ := h
 have hd := h1.dis
 simp only [] at h1 h2 hd
 have h1' : RedInv a b c (b * b - 4 * a * c) 1 := by rw [hd]; exact h1
 obtain ⟨m1, m2, m3, m4, a2, b2, c2, k1, k2, k3, k4, k5, k6, k7, k8, k9⟩ := red_full h1' h2
 rw [hd] at k3
 have hp : PrRc D (a2, b2, c2) := ⟨k3.a1, k4, k3.dis, con_one k3⟩
 have e := k5
 obtain ⟨e1, e2, e3, e4⟩ := e
 refine ⟨(a2, b2, c2), m1, m2, m3, m4, k1, k2, hp, ⟨m1, m2, m3, m4, e4, ?_, ?_, ?_⟩, k5, k6, k7, k8, k9, k3, ?_⟩
 ·exact e1.symm
 ·exact e2.symm
 ·exact e3.symm
 ·show c2 ≤ 1000000
  have h3 := k3.nrm
  obtain ⟨⟨g1, g2⟩, g3⟩ := k4
  have h4 := k3.cM
  rcases h3 with h3 | h3
  ·have q1 := k3.aM
   have q2 := k3.a1
   -- a reduced form's last coefficient
   rcases Int.lt_or_le 1000000 c2 with h5 | h5
   ·exfalso
    have n1 : a2 * a2 ≤ a2 * c2 := Int.mul_le_mul_of_nonneg_left (by omega) (by omega)
    have hbb : b2 * b2 ≤ a2 * a2 := by
     rcases Int.le_total 0 b2 with h4 | h4
     ·exact Int.mul_le_mul g2 g2 h4 (by omega)
     ·have : (-b2) * (-b2) ≤ a2 * a2 := Int.mul_le_mul (by omega) (by omega) (by omega) (by omega)
      have e : (-b2) * (-b2) = b2 * b2 := by grind
      omega
    have hdd := k3.dis
    have e9 : 4 * a2 * c2 = 4 * (a2 * c2) := Int.mul_assoc ..
    have hneg := k3.neg
    -- the value at the original form's last coefficient is at least c2 or the form is not moved
    have hv : c = a2 * (-m2) * (-m2) + b2 * (-m2) * m1 + c2 * m1 * m1 := by rw [← e1, ← e2, ← e3]; grind
    have hv2 : a = a2 * m4 * m4 + b2 * m4 * (-m3) + c2 * (-m3) * (-m3) := by rw [← e1, ← e2, ← e3]; grind
    have ha2 := h1.aM
    by_cases hm : m1 = 0
    ·have hm3 : m3 ≠ 0 := by
      intro h0
      rw [hm, h0] at e4
      simp at e4
     have := uq_c (x := m4) q2 (by omega) g2 (show a2 ≤ c2 by omega) (show (-m3) ≠ 0 by omega)
     omega
    ·have := uq_c (x := -m2) q2 (by omega) g2 (show a2 ≤ c2 by omega) hm
     omega
   ·exact h5
  ·exact h3
theorem zKR {D : Int} {f g : F3} (hf : 0 < f.1) (hD : fD f = D) (h : Eqf g f) (hg : 0 < g.1) : Cl D (fL g) (fL f) := by
 have := cl_of_eqf hg hf h
 rw [hD] at this
 exact this
theorem bez3 {a b c : Int} (h : ∀ k : Int, k ∣ a → k ∣ b → k ∣ c → k ∣ 1) : ∃ x y z : Int, x * a + y * b + z * c = 1 := by
 obtain ⟨x, y, h1⟩ := bez_int a b
 obtain ⟨u, v, h2⟩ := bez_int (Int.gcd a b) c
 have h3 : ((Int.gcd (Int.gcd a b) c : Nat) : Int) ∣ 1 := by
  refine h _ ?_ ?_ ?_
  ·exact Int.dvd_trans (Int.gcd_dvd_left _ _) (Int.gcd_dvd_left _ _)
  ·exact Int.dvd_trans (Int.gcd_dvd_left _ _) (Int.gcd_dvd_right _ _)
  ·exact Int.gcd_dvd_right _ _
 have h4 : ((Int.gcd (Int.gcd a b) c : Nat) : Int) = 1 := Int.eq_one_of_dvd_one (by omega) h3
 refine ⟨u * x, u * y, v, ?_⟩
 rw [← h4, ← h2, ← h1]
 grind
theorem prim_eqf {f g : F3} (h : Eqf f g) (hg : ∀ k : Int, k ∣ g.1 → k ∣ g.2.1 → k ∣ g.2.2 → k ∣ 1) (k : Int) (h1 : k ∣ f.1) (h2 : k ∣ f.2.1) (h3 : k ∣ f.2.2) : k ∣ 1 := by
 obtain ⟨p, q, r, s, hdet, e1, e2, e3⟩ := h
 obtain ⟨x, hx⟩ := h1
 obtain ⟨y, hy⟩ := h2
 obtain ⟨z, hz⟩ := h3
 have back : ∀ A B C : Int, (A * p * p + B * p * r + C * r * r) * s * s - (2 * A * p * q + B * (p * s + q * r) + 2 * C * r * s) * s * r + (A * q * q + B * q * s + C * s * s) * r * r = A * ((p * s - q * r) * (p * s - q * r)) := by intro A B C; grind
 have back2 : ∀ A B C : Int, (A * p * p + B * p * r + C * r * r) * q * q - (2 * A * p * q + B * (p * s + q * r) + 2 * C * r * s) * p * q + (A * q * q + B * q * s + C * s * s) * p * p = C * ((p * s - q * r) * (p * s - q * r)) := by intro A B C; grind
 have back3 : ∀ A B C : Int, (2 * A * p * q + B * (p * s + q * r) + 2 * C * r * s) * (p * s + q * r) - 2 * (A * p * p + B * p * r + C * r * r) * q * s - 2 * (A * q * q + B * q * s + C * s * s) * p * r = B * ((p * s - q * r) * (p * s - q * r)) := by intro A B C; grind
 have b1 := back g.1 g.2.1 g.2.2
 have b2 := back2 g.1 g.2.1 g.2.2
 have b3 := back3 g.1 g.2.1 g.2.2
 rw [← e1, ← e2, ← e3, hdet, hx, hy, hz] at b1 b2 b3
 refine hg k ⟨x * s * s - y * s * r + z * r * r, ?_⟩ ⟨y * (p * s + q * r) - 2 * x * q * s - 2 * z * p * r, ?_⟩ ⟨x * q * q - y * p * q + z * p * p, ?_⟩
 ·have : k * x * s * s - k * y * s * r + k * z * r * r = k * (x * s * s - y * s * r + z * r * r) := by grind
  omega
 ·have : k * y * (p * s + q * r) - 2 * (k * x) * q * s - 2 * (k * z) * p * r = k * (y * (p * s + q * r) - 2 * x * q * s - 2 * z * p * r) := by grind
  omega
 ·have : k * x * q * q - k * y * p * q + k * z * p * p = k * (x * q * q - y * p * q + z * p * p) := by grind
  omega
theorem uni_prim {a e b c : Int} (h1 : ∃ x y z : Int, x * a + y * b + z * (e * c) = 1) (h2 : ∃ x y z : Int, x * e + y * b + z * (a * c) = 1) (k : Int) (k1 : k ∣ a * e) (k2 : k ∣ b) (k3 : k ∣ c) : k ∣ 1 := by
 obtain ⟨x, y, z, h1⟩ := h1
 obtain ⟨x', y', z', h2⟩ := h2
 obtain ⟨i, hi⟩ := k1
 obtain ⟨j, hj⟩ := k2
 obtain ⟨l, hl⟩ := k3
 have h3 : (x * a + y * b + z * (e * c)) * (x' * e + y' * b + z' * (a * c)) = 1 := by rw [h1, h2]; rfl
 refine ⟨x * x' * i + j * (x * a * y' + y * (x' * e + y' * b + z' * (a * c)) + z * (e * c) * y') + l * (x * a * (z' * a) + z * e * (x' * e) + z * e * (z' * (a * c))), ?_⟩
 rw [← h3]
 have e1 : k * (x * x' * i + j * (x * a * y' + y * (x' * e + y' * b + z' * (a * c)) + z * (e * c) * y') + l * (x * a * (z' * a) + z * e * (x' * e) + z * e * (z' * (a * c)))) = x * x' * (k * i) + (k * j) * (x * a * y' + y * (x' * e + y' * b + z' * (a * c)) + z * (e * c) * y') + (k * l) * (x * a * (z' * a) + z * e * (x' * e) + z * e * (z' * (a * c))) := by grind
 rw [e1, ← hi, ← hj, ← hl]
 grind
end Go.Proofs.YtfmjfofocklgpaaGreatDoor
namespace Go.Proofs.YtfmjfofocklgpaaGreatDoor
theorem four_canc {a x y : Int} (ha : 1 ≤ a) (h : 4 * a * x = 4 * a * y) : x = y := Int.eq_of_mul_eq_mul_left (by omega) h
theorem uni_f {a b c e c1 b1 α D : Int} (ha : 1 ≤ a) (hd : b * b - 4 * a * c = D) (bα : b1 = b + 2 * a * α) (dis : b1 * b1 - 4 * a * e * c1 = D) : e * c1 = a * α * α + b * α + c := by
 refine four_canc ha ?_
 have e1 : 4 * a * (a * α * α + b * α + c) = b1 * b1 - (b * b - 4 * a * c) := by rw [bα]; grind
 have e2 : 4 * a * (e * c1) = 4 * a * e * c1 := by grind
 rw [e1, hd, e2]; omega
theorem uni_eqf1 {a b c e c1 b1 α D : Int} (ha : 1 ≤ a) (hd : b * b - 4 * a * c = D) (bα : b1 = b + 2 * a * α) (dis : b1 * b1 - 4 * a * e * c1 = D) : Eqf (a, b1, e * c1) (a, b, c) := by
 refine ⟨1, α, 0, 1, by omega, ?_, ?_, ?_⟩
 ·simp only []; omega
 ·simp only []; rw [bα]; grind
 ·simp only []; rw [uni_f ha hd bα dis]; grind
theorem uni_eqf2 {a e c1 b1 β D A B C x q y s hB hC : Int} (he : 1 ≤ e) (mh : MatInv A B C x q y s e hB hC) (hd : B * B - 4 * A * C = D) (bβ : b1 = hB + 2 * e * β) (dis : b1 * b1 - 4 * a * e * c1 = D) : Eqf (e, b1, a * c1) (A, B, C) ∧ MatInv A B C x (x * β + q) y (y * β + s) e b1 (a * c1) := by
 have hd2 : hB * hB - 4 * e * hC = D := by rw [zLH mh, hd]
 have hf := uni_f (e := a) (c1 := c1) he hd2 bβ (by rw [← dis]; grind)
 have m := mh.norm β
 rw [← hf, show 2 * e * β + hB = b1 by omega] at m
 obtain ⟨e1, e2, e3, e4⟩ := m
 exact ⟨⟨x, x * β + q, y, y * β + s, e4, e1.symm, e2.symm, e3.symm⟩, e1, e2, e3, e4⟩
structure Cmps (D : Int) (f g h f' g' : F3) (p1 p2 p3 p4 q1 q2 q3 q4 x y q s e hB hC b1 c1 α β : Int) : Prop where
  rf : zAs f = some (f', (p1, p2, p3, p4))
  rg : zAs g = some (g', (q1, q2, q3, q4))
  pf : PrRc D f'
  pg : PrRc D g'
  mf : MatInv f.1 f.2.1 f.2.2 p1 p2 p3 p4 f'.1 f'.2.1 f'.2.2
  mg : MatInv g.1 g.2.1 g.2.2 q1 q2 q3 q4 g'.1 g'.2.1 g'.2.2
  uni : Uni f'.1 f'.2.1 f'.2.2 g'.1 g'.2.1 g'.2.2 D x y q s e hB hC b1 c1 α β
  imp : zDI f' g' = some (f'.1, e, b1, c1, (1, α, 0, 1), (w64 (x + q * 0), w64 (x * β + q), w64 (y + s * 0), w64 (y * β + s)))
  spc : zCN f g = (qO (q1, q2, q3, q4) (x, q, y, s)).bind fun N1 => (qO (p1, p2, p3, p4) (1, α, 0, 1)).bind fun M => (qO N1 (1, β, 0, 1)).bind fun N => some ((f'.1, b1, e * c1), (e, b1, f'.1 * c1), M, N)
  cf : CF D (f'.1 * e, b1, c1)
  ae : f'.1 * e ≤ 250000
  ec : e * c1 ≤ 3000000000 ∧ 0 ≤ e * c1 ∧ 1 ≤ c1
  pb : p1.natAbs ≤ 2000 ∧ p2.natAbs ≤ 2000 ∧ p3.natAbs ≤ 2000 ∧ p4.natAbs ≤ 2000
  qb : q1.natAbs ≤ 2000 ∧ q2.natAbs ≤ 2000 ∧ q3.natAbs ≤ 2000 ∧ q4.natAbs ≤ 2000
  cl : Cl D (eP D (fL f) (fL g)) (fL (f'.1 * e, b1, c1))
theorem cmps_mk {D : Int} (hD1 : -2000 ≤ D) (hD2 : D < 0) {f g : F3} (hf : CF D f) (hg : CF D g) : ∃ f' g' p1 p2 p3 p4 q1 q2 q3 q4 x y q s e hB hC b1 c1 α β, ∀ h, Cmps D f g h f' g' p1 p2 p3 p4 q1 q2 q3 q4 x y q s e hB hC b1 c1 α β := by
 obtain ⟨⟨a, b, c⟩, p1, p2, p3, p4, i1, i2, i3, i4, i5, i6, i7, i8, i9, i10⟩ := red_cf hf
 obtain ⟨⟨A, B, C⟩, q1, q2, q3, q4, j1, j2, j3, j4, j5, j6, j7, j8, j9, j10⟩ := red_cf hg
 obtain ⟨x, y, q, s, e, hB, hC, b1, c1, α, β, u, k1, k2⟩ := unite_both hD1 hD2 i3 j3
 have ku := u
 obtain ⟨mh, e1, e2, ⟨m, n, hmn⟩, bα, bβ, b0, b2, dis, qb, sb, xy⟩ := u
 have ha : 1 ≤ a := i3.1
 have hd : b * b - 4 * a * c = D := i3.2.2.1
 have hD : B * B - 4 * A * C = D := j3.2.2.1
 obtain ⟨rb1, ra⟩ := zKB hD1 i3
 simp only [] at ra
 have hpa : 0 < A := zGh j3
 have E1 := uni_eqf1 (e := e) ha hd bα dis
 obtain ⟨E2, _⟩ := uni_eqf2 (a := a) e1 mh hD bβ dis
 obtain ⟨z1, z2⟩ := uni_c1 ha e1 b0 b2 hD1 hD2 dis
 have hae : a * e ≤ 25 * 10000 := Int.mul_le_mul ra e2 (by omega) (by omega)
 have hae0 : 1 * 1 ≤ a * e := Int.mul_le_mul ha e1 (by omega) (by omega)
 have hae2 : 2 * a * e = 2 * (a * e) := Int.mul_assoc ..
 have hec : e * c1 ≤ 10000 * 300000 := Int.mul_le_mul e2 (by omega) (by omega) (by omega)
 have hec0 : 0 ≤ e * c1 := Int.mul_nonneg (by omega) (by omega)
 have P1 := prim_eqf E1 i3.2.2.2
 have P2 := prim_eqf E2 j3.2.2.2
 have P := uni_prim (bez3 P1) (bez3 P2)
 have hcf : CF D (a * e, b1, c1) := by
  refine ⟨⟨by omega, by simp only []; omega, by simp only []; omega, by simp only []; omega, z1, by simp only []; omega, ?_, hD2, .inr (by simp only []; omega), ?_⟩, by simp only []; omega⟩
  ·simp only []
   rw [← dis]; grind
  ·intro k
   constructor
   ·rintro ⟨t1, t2, t3⟩; exact P k t1 t2 t3
   ·intro t
    exact ⟨Int.dvd_trans t (Int.one_dvd _), Int.dvd_trans t (Int.one_dvd _), Int.dvd_trans t (Int.one_dvd _)⟩
 have hfD : fD f = D := hf.1.dis
 have hgD : fD g = D := hg.1.dis
 have hfp : 0 < f.1 := by have := hf.1.a1; omega
 have hgp : 0 < g.1 := by have := hg.1.a1; omega
 have hcl : Cl D (eP D (fL f) (fL g)) (fL (a * e, b1, c1)) := by
  have w1 := zKR hfp hfD i4 (zGh i3)
  have w2 := zKR hgp hgD j4 (zGh j3)
  have w3 := zKR (f := (a, b, c)) (g := (a, b1, e * c1)) (D := D) (zGh i3) hd E1 (by show 0 < a; omega)
  have w4 := zKR (f := (A, B, C)) (g := (e, b1, a * c1)) (D := D) (zGh j3) hD E2 (by show 0 < e; omega)
  have w5 := cl_prod hD2 (zHq hD2 w3 w1) (zHq hD2 w4 w2)
  exact zHq hD2 (cl_symm w5) (cl_united dis.symm hmn)
 refine ⟨(a, b, c), (A, B, C), p1, p2, p3, p4, q1, q2, q3, q4, x, y, q, s, e, hB, hC, b1, c1, α, β, fun h => ⟨i1, j1, i3, j3, i5, j5, ku, ?_, k2 f g _ _ i2 j2, hcf, hae, ⟨hec, hec0, z1⟩, ⟨i6, i7, i8, i9⟩, ⟨j6, j7, j8, j9⟩, hcl⟩⟩
 rw [k1, times_w]
 simp only [Option.bind_some, Int.mul_one, Int.mul_zero, Int.add_zero]
theorem compose_both {D : Int} (hD1 : -2000 ≤ D) (hD2 : D < 0) {f g : F3} (hf : CF D f) (hg : CF D g) : ∃ h, zCr f g = some h ∧ zDl f g = some h ∧ PrRc D h ∧ CF D h ∧ Cl D (eP D (fL f) (fL g)) (fL h) := by
 obtain ⟨f', g', p1, p2, p3, p4, q1, q2, q3, q4, x, y, q, s, e, hB, hC, b1, c1, α, β, k⟩ := cmps_mk hD1 hD2 hf hg
 obtain ⟨rf, rg, pf, pg, mf, mg, uni, imp, spc, cf, ae, ec, pb, qb, cl⟩ := k f
 obtain ⟨h, m1, m2, m3, m4, i1, i2, i3, i4, i5, i6, i7, i8, i9, i10⟩ := red_cf cf
 have ha : 1 ≤ f'.1 := pf.1
 have e1 := uni.e1
 have hae0 : 1 * 1 ≤ f'.1 * e := Int.mul_le_mul ha e1 (by omega) (by omega)
 have hcl : Cl D (eP D (fL f) (fL g)) (fL h) := by
  refine zHq hD2 cl (cl_symm (zKR ?_ ?_ i4 (zGh i3)))
  ·show 0 < f'.1 * e; omega
  ·exact cf.1.dis
 refine ⟨h, ?_, ?_, i3, i10, hcl⟩
 ·simp only [zCr, jZ, rf, rg, imp, zBl, Option.bind_some, qA]
  rw [zJ (n := f'.1 * e) (by omega), i1]
  rfl
 ·unfold zDl
  rw [spc, dsc_mul, times_w]
  simp only [Option.bind_some, times_w]
  unfold zEH
  simp only []
  rw [zFI (show e ≠ 0 by omega)]
  simp only [Option.bind_some, qA]
  rw [zJ (n := f'.1 * e) (by omega), tdv (a := e * c1) (b := e) (c := c1) (by omega) rfl, zJ (n := c1) (by
   have h1 : 1 * c1 ≤ e * c1 := Int.mul_le_mul_of_nonneg_right e1 (by omega)
   omega)]
  simp only [Option.bind_some, zAq, i2]
def gS (D : Int) (hD : D < 0) : Setoid (List El) := ⟨Cl D, cl_refl D, cl_symm, zHq hD⟩
def GG (D : Int) (hD : D < 0) : Type := Quotient (gS D hD)
def gM {D : Int} {hD : D < 0} (x y : GG D hD) : GG D hD := Quotient.lift₂ (s₁ := gS D hD) (s₂ := gS D hD) (fun l m => (Quotient.mk (gS D hD) (eP D l m) : GG D hD)) (fun _ _ _ _ h k => Quotient.sound (s := gS D hD) (cl_prod hD h k)) x y
def gC (D : Int) (hD : D < 0) (f : F3) : GG D hD := Quotient.mk (gS D hD) (fL f)
theorem gC_eq {D : Int} {hD : D < 0} {f g : F3} : gC D hD f = gC D hD g ↔ Cl D (fL f) (fL g) := ⟨fun h => Quotient.exact h, fun h => Quotient.sound h⟩
theorem gM_of {D : Int} {hD : D < 0} {f g h : F3} (k : Cl D (eP D (fL f) (fL g)) (fL h)) : gM (gC D hD f) (gC D hD g) = gC D hD h := Quotient.sound (s := gS D hD) k
def pF (D : Int) : F3 := (1, D % 2, (D % 2 - D) / 4)
def g1 (D : Int) (hD : D < 0) : GG D hD := gC D hD (pF D)
theorem cf_of_prc {D : Int} (hD1 : -2000 ≤ D) (hD2 : D < 0) {f : F3} (h : PrRc D f) : CF D f := by
 obtain ⟨r, ra⟩ := zKB hD1 h
 obtain ⟨h1, h2, h3, h4⟩ := h
 obtain ⟨r1, r2, r3, r4, r5, r6⟩ := r
 refine ⟨⟨h1, by omega, by omega, by omega, r5, by omega, h3, hD2, .inr (by omega), fun k => ⟨fun ⟨a, b, c⟩ => h4 k a b c, fun t => ?_⟩⟩, by omega⟩
 exact ⟨Int.dvd_trans t (Int.one_dvd _), Int.dvd_trans t (Int.one_dvd _), Int.dvd_trans t (Int.one_dvd _)⟩
theorem cf_pos {D : Int} {f : F3} (h : CF D f) : 0 < f.1 := by have := h.1.a1; omega
theorem cf_disc {D : Int} {f : F3} (h : CF D f) : fD f = D := h.1.dis
theorem compG {D : Int} (hD1 : -2000 ≤ D) (hD : D < 0) {f g : F3} (hf : CF D f) (hg : CF D g) : ∃ h, zCr f g = some h ∧ zDl f g = some h ∧ PrRc D h ∧ CF D h ∧ gC D hD h = gM (gC D hD f) (gC D hD g) := by
 obtain ⟨h, h1, h2, h3, h4, h5⟩ := compose_both hD1 hD hf hg
 exact ⟨h, h1, h2, h3, h4, (gM_of h5).symm⟩
theorem redG {D : Int} (hD : D < 0) {f : F3} (hf : CF D f) : ∃ g, jZ f = some g ∧ zAq f = some g ∧ PrRc D g ∧ CF D g ∧ gC D hD g = gC D hD f := by
 obtain ⟨g, m1, m2, m3, m4, k1, k2, k3, k4, k5, k6, k7, k8, k9, k10⟩ := red_cf hf
 exact ⟨g, by simp only [jZ, k1, Option.bind_some], by simp only [zAq, k2, Option.bind_some], k3, k10, gC_eq.2 (zKR (cf_pos hf) (cf_disc hf) k4 (zGh k3))⟩
def opF (f : F3) : F3 := (f.1, -f.2.1, f.2.2)
theorem cf_opp {D : Int} {f : F3} (h : CF D f) : CF D (opF f) := by
 obtain ⟨⟨a1, aM, b1, b2, c1, cM, dis, neg, nrm, con⟩, h2⟩ := h
 refine ⟨⟨a1, aM, by show -1900000 ≤ -f.2.1; omega, by show -f.2.1 ≤ 1900000; omega, c1, cM, ?_, neg, .inr h2, fun k => ?_⟩, h2⟩
 ·show -f.2.1 * -f.2.1 - 4 * f.1 * f.2.2 = D
  rw [← dis]; grind
 ·rw [← con k]
  constructor
  ·rintro ⟨x, y, z⟩; exact ⟨x, (Int.dvd_neg).1 y, z⟩
  ·rintro ⟨x, y, z⟩; exact ⟨x, (Int.dvd_neg).2 y, z⟩
theorem opp_val {D : Int} {f : F3} (h : CF D f) : zAE f = some (opF f) := by
 have := h.1.b1
 have := h.1.b2
 simp only [zAE, qA]
 rw [zJ (n := 0 - f.2.1) (by omega)]
 simp [opF]
end Go.Proofs.YtfmjfofocklgpaaGreatDoor
namespace Go.Proofs.YtfmjfofocklgpaaGreatDoor
theorem zKf {D : Int} (hD1 : -2000 ≤ D) {f : F3} (h : CF D f) : qI f = some D := by
 obtain ⟨a, b, c⟩ := f
 have := h.1.dis
 have hn := h.1.neg
 simp only [] at this
 rw [disc_w, this, zJ (by omega)]
theorem class_of_prc {D : Int} (hD1 : -2000 ≤ D) (hD : D < 0) {f : F3} (h : PrRc D f) : qC f = some true ∧ qI f = some D := by
 obtain ⟨r, ra⟩ := zKB hD1 h
 have hdv := zKf hD1 (cf_of_prc hD1 hD h)
 obtain ⟨a, b, c⟩ := f
 obtain ⟨h1, h2, h3, h4⟩ := h
 obtain ⟨r1, r2, r3, r4, r5, r6⟩ := r
 dsimp only at h1 h2 h3 h4 r1 r2 r3 r4 r5 r6
 have ha : inN a = true := zEJ.2 (by omega)
 have hb : inN b = true := zEJ.2 (by omega)
 have hc : inN c = true := zEJ.2 (by omega)
 have hg : Int.gcd a (Int.gcd b c) = 1 := by
  have h5 : ((Int.gcd a (Int.gcd b c) : Nat) : Int) ∣ 1 := h4 _ (Int.gcd_dvd_left _ _) (Int.dvd_trans (Int.gcd_dvd_right _ _) (Int.gcd_dvd_left _ _)) (Int.dvd_trans (Int.gcd_dvd_right _ _) (Int.gcd_dvd_right _ _))
  have h6 := Int.eq_one_of_dvd_one (by omega) h5
  omega
 refine ⟨?_, hdv⟩
 simp only [qC, jT, zAU, zGU, ha, hb, hc, Bool.and_true, Option.bind_some, hdv, cond_true, zFq ha hb hc, hg, zP, q9, decide_eq_true (show D < 0 by omega), decide_eq_true (show 0 < a by omega), decide_eq_true hD1]
 rfl
def CFc (D : Int) (f : F3) : Prop := qC f = some true ∧ qI f = some D ∧ CF D f ∧ -2000 ≤ D ∧ D < 0
theorem cfc_of {f : F3} (h : qC f = some true) : CFc (f.2.1 * f.2.1 - 4 * f.1 * f.2.2) f := by
 have h1 := cf_of_class h
 obtain ⟨_, _, _, k1, k2, _⟩ := zGq (a := f.1) (b := f.2.1) (c := f.2.2) h
 exact ⟨h, zKf k2 h1, h1, k2, k1⟩
theorem cfc_opp {D : Int} {f : F3} (h : CFc D f) : zAE f = some (opF f) ∧ CF D (opF f) := ⟨opp_val h.2.2.1, cf_opp h.2.2.1⟩
end Go.Proofs.YtfmjfofocklgpaaGreatDoor
namespace Go.Proofs.YtfmjfofocklgpaaGreatDoor
open Go.Lib
theorem find_run (l : List E4) (nm : ByteArray) (hl : l.length ≤ 100000) : ∀ (m n k : Nat), l.length - k = m → m < n → k ≤ l.length → zBf l nm n (k : Int) = some (match fnE nm (l.drop k) with | some f => .inr (f, true) | none => .inl ()) := by
 intro m
 induction m with
 | zero =>
  intro n k hk hn hkl
  obtain ⟨n, rfl⟩ : ∃ m, n = m + 1 := ⟨n - 1, by omega⟩
  unfold zBf
  rw [zP, decide_eq_false (by omega), cond_false, List.drop_of_length_le (by omega)]
  rfl
 | succ m ih =>
  intro n k hk hn hkl
  obtain ⟨n, rfl⟩ : ∃ m, n = m + 1 := ⟨n - 1, by omega⟩
  have hlt : k < l.length := by omega
  have hg : getI l (k : Int) = some (l[k]'hlt) := zDV hlt
  have hdr : l.drop k = l[k]'hlt :: l.drop (k + 1) := List.drop_eq_getElem_cons hlt
  generalize l[k]'hlt = e at hg hdr
  unfold zBf
  rw [zP, decide_eq_true (by omega), cond_true]
  simp only [hg, Option.bind_some, eqS, qA]
  rw [hdr, zCC (by omega), ih n (k + 1) (by omega) (by omega) (by omega)]
  rw [fnE_cons]
  by_cases he : e.1 = nm
  ·rw [decide_eq_true he, if_pos he, cond_true]
  ·rw [decide_eq_false he, if_neg he, cond_false]
theorem zLm (l : List E4) (nm : ByteArray) (hl : l.length ≤ 100000) : zBV l nm = some (match fnE nm l with | some f => (f, true) | none => ((0, 0, 0), false)) := by
 have hF : 200000000 < FU := by decide
 have h := find_run l nm hl l.length FU 0 rfl (by omega) (by omega)
 have h : zBf l nm FU 0 = _ := h
 unfold zBV
 rw [h, List.drop_zero]
 cases fnE nm l <;> rfl
theorem lgFind_run (l : List E4) (nm : ByteArray) (hl : l.length ≤ 100000) : ∀ (m n k : Nat), l.length - k = m → m < n → k ≤ l.length → zBA l nm n (k : Int) = some (match ixE nm (l.drop k) with | some i => .inr ((k + i : Nat) : Int) | none => .inl ()) := by
 intro m
 induction m with
 | zero =>
  intro n k hk hn hkl
  obtain ⟨n, rfl⟩ : ∃ m, n = m + 1 := ⟨n - 1, by omega⟩
  unfold zBA
  rw [zP, decide_eq_false (by omega), cond_false, List.drop_of_length_le (by omega)]
  rfl
 | succ m ih =>
  intro n k hk hn hkl
  obtain ⟨n, rfl⟩ : ∃ m, n = m + 1 := ⟨n - 1, by omega⟩
  have hlt : k < l.length := by omega
  have hg : getI l (k : Int) = some (l[k]'hlt) := zDV hlt
  have hdr : l.drop k = l[k]'hlt :: l.drop (k + 1) := List.drop_eq_getElem_cons hlt
  generalize l[k]'hlt = e at hg hdr
  unfold zBA
  rw [zP, decide_eq_true (by omega), cond_true]
  simp only [hg, Option.bind_some, eqS, qA]
  rw [hdr, zCC (by omega), ih n (k + 1) (by omega) (by omega) (by omega)]
  rw [ixE_cons]
  by_cases he : e.1 = nm
  ·rw [decide_eq_true he, if_pos he, cond_true]
   rfl
  ·rw [decide_eq_false he, if_neg he, cond_false]
   cases ixE nm (l.drop (k + 1)) with
   | none => rfl
   | some i =>
    show some (Sum.inr (((k + 1 + i : Nat)) : Int)) = some (Sum.inr ((k + (i + 1) : Nat) : Int))
    rw [show k + 1 + i = k + (i + 1) by omega]
def ixI (nm : ByteArray) (l : List E4) : Int := match ixE nm l with
 | some i => (i : Int)
 | none => -1
theorem zLe (l : List E4) (nm : ByteArray) (hl : l.length ≤ 100000) : zBI l nm = some (ixI nm l) := by
 have hF : 200000000 < FU := by decide
 have h := lgFind_run l nm hl l.length FU 0 rfl (by omega) (by omega)
 have h : zBA l nm FU 0 = _ := h
 unfold zBI ixI
 rw [h, List.drop_zero]
 cases ixE nm l with
 | none => rfl
 | some i =>
  show some (((0 + i : Nat)) : Int) = _
  rw [Nat.zero_add]
theorem wo_run (l : List E4) (nm : ByteArray) (hl : l.length ≤ 100000) : ∀ (m n k : Nat) (acc : List E4), l.length - k = m → m < n → k ≤ l.length → acc.length ≤ k → jG l nm n (k : Int) acc = some (acc ++ woE nm (l.drop k)) := by
 intro m
 induction m with
 | zero =>
  intro n k acc hk hn hkl ha
  obtain ⟨n, rfl⟩ : ∃ m, n = m + 1 := ⟨n - 1, by omega⟩
  unfold jG
  rw [zP, decide_eq_false (by omega), cond_false, List.drop_of_length_le (by omega)]
  simp [woE]
 | succ m ih =>
  intro n k acc hk hn hkl ha
  obtain ⟨n, rfl⟩ : ∃ m, n = m + 1 := ⟨n - 1, by omega⟩
  have hlt : k < l.length := by omega
  have hg : getI l (k : Int) = some (l[k]'hlt) := zDV hlt
  have hdr : l.drop k = l[k]'hlt :: l.drop (k + 1) := List.drop_eq_getElem_cons hlt
  generalize l[k]'hlt = e at hg hdr
  unfold jG
  rw [zP, decide_eq_true (by omega), cond_true]
  simp only [hg, Option.bind_some, eqS, qA]
  rw [hdr, zCC (by omega)]
  rw [woE_cons]
  by_cases he : e.1 = nm
  ·rw [decide_eq_true he, if_pos he, Bool.not_true, cond_false]
   exact ih n (k + 1) acc (by omega) (by omega) (by omega) (by omega)
  ·rw [decide_eq_false he, if_neg he, Bool.not_false, cond_true, zCA (by simp; omega), Option.bind_some, ih n (k + 1) _ (by omega) (by omega) (by omega) (by simp; omega), List.append_assoc]
   rfl
theorem zK4 (l : List E4) (nm : ByteArray) (hl : l.length ≤ 100000) : zBP l nm = some (woE nm l) := by
 have hF : 200000000 < FU := by decide
 have h := wo_run l nm hl l.length FU 0 [] rfl (by omega) (by omega) (by simp)
 have h : jG l nm FU 0 [] = _ := h
 unfold zBP
 rw [h, List.drop_zero]
 rfl
theorem we_run (f : Int × Int × Int) (nm : ByteArray) (l : List E4) (hl : l.length ≤ 100000) (hne : ∀ x ∈ l, x.1 ≠ nm) : ∀ (m n k : Nat) (d : Bool) (acc : List E4), l.length - k = m → m < n → k ≤ l.length → acc.length ≤ k + (if d then 1 else 0) →
  ∃ r, jW f nm l n d (k : Int) acc = some r ∧ r.2.length ≤ l.length + 1 ∧ (if r.1 then r.2 else r.2 ++ [(nm, f)]) = acc ++ (if d then l.drop k else putE (nm, f) (l.drop k)) := by
 intro m
 induction m with
 | zero =>
  intro n k d acc hk hn hkl ha
  have ha2 : acc.length ≤ k + 1 := by split at ha <;> omega
  obtain ⟨n, rfl⟩ : ∃ m, n = m + 1 := ⟨n - 1, by omega⟩
  unfold jW
  rw [zP, decide_eq_false (by omega), cond_false, List.drop_of_length_le (by omega)]
  refine ⟨_, rfl, by simp only; omega, ?_⟩
  cases d with
  | false => rfl
  | true => simp
 | succ m ih =>
  intro n k d acc hk hn hkl ha
  have ha2 : acc.length ≤ k + 1 := by split at ha <;> omega
  obtain ⟨n, rfl⟩ : ∃ m, n = m + 1 := ⟨n - 1, by omega⟩
  have hlt : k < l.length := by omega
  have hg : getI l (k : Int) = some (l[k]'hlt) := zDV hlt
  have hdr : l.drop k = l[k]'hlt :: l.drop (k + 1) := List.drop_eq_getElem_cons hlt
  have hx := hne _ (List.getElem_mem hlt)
  generalize l[k]'hlt = e at hg hdr hx
  unfold jW
  rw [zP, decide_eq_true (by omega), cond_true]
  simp only [hg, Option.bind_some, qA]
  rw [hdr, zCC (by omega), show Op.bytesLess nm.toList e.1.toList = nl nm e.1 from rfl]
  cases d with
  | true =>
   simp only [Bool.not_true, cond_false]
   rw [zCA (by simp; omega), Option.bind_some]
   obtain ⟨r, h1, h2, h3⟩ := ih n (k + 1) true (acc ++ [e]) (by omega) (by omega) (by omega) (by simp; omega)
   refine ⟨r, h1, h2, ?_⟩
   rw [h3]
   simp
  | false =>
   simp only [Bool.not_false, cond_true]
   have hnl : nl nm e.1 = !nl e.1 nm := nl_not hx
   rw [hnl]
   rw [zKA]
   cases he : nl e.1 nm with
   | true =>
    simp only [Bool.not_true, cond_false, he, if_true]
    rw [zCA (by simp; omega), Option.bind_some]
    obtain ⟨r, h1, h2, h3⟩ := ih n (k + 1) false (acc ++ [e]) (by omega) (by omega) (by omega) (by simp at ha ⊢; omega)
    refine ⟨r, h1, h2, ?_⟩
    rw [h3]
    simp
   | false =>
    simp only [Bool.not_false, cond_true, he, if_false, Bool.false_eq_true]
    rw [zCA (by simp; omega), Option.bind_some, zCA (by simp; omega), Option.bind_some]
    obtain ⟨r, h1, h2, h3⟩ := ih n (k + 1) true ((acc ++ [(nm, f)]) ++ [e]) (by omega) (by omega) (by omega) (by simp at ha ⊢; omega)
    refine ⟨r, h1, h2, ?_⟩
    rw [h3]
    simp
theorem zHS (l : List E4) (nm : ByteArray) (f : Int × Int × Int) (hl : l.length ≤ 100000) : zCJ l nm f = some (putE (nm, f) (woE nm l)) := by
 have hF : 200000000 < FU := by decide
 have hw := len_wo nm l
 obtain ⟨r, h1, h2, h3⟩ := we_run f nm (woE nm l) (by omega) (fun x hx => (zIr.1 hx).2) (woE nm l).length FU 0 false [] rfl (by omega) (by omega) (by simp)
 have h1 : jW f nm (woE nm l) FU false 0 [] = some r := h1
 unfold zCJ
 rw [zK4 l nm hl, Option.bind_some, h1, Option.bind_some]
 simp only [List.drop_zero, List.nil_append, Bool.false_eq_true, if_false] at h3
 cases hr : r.1 with
 | true =>
  rw [hr] at h3
  rw [← h3]
  rfl
 | false =>
  rw [hr] at h3
  simp only [Bool.not_false, cond_true]
  rw [zCA (by simp; omega), Option.bind_some, ← h3]
  rfl
theorem put_run (e : E4) (l : List E4) (hl : l.length ≤ 100000) : ∀ (m n k : Nat), l.length - k = m → m < n → k ≤ l.length → zBT e l n (k : Int) = some ((k + ptNm e (l.drop k) : Nat) : Int) := by
 intro m
 induction m with
 | zero =>
  intro n k hk hn hkl
  obtain ⟨n, rfl⟩ : ∃ m, n = m + 1 := ⟨n - 1, by omega⟩
  unfold zBT
  rw [zP, decide_eq_false (by omega), cond_false, List.drop_of_length_le (by omega)]
  rfl
 | succ m ih =>
  intro n k hk hn hkl
  obtain ⟨n, rfl⟩ : ∃ m, n = m + 1 := ⟨n - 1, by omega⟩
  have hlt : k < l.length := by omega
  have hg : getI l (k : Int) = some (l[k]'hlt) := zDV hlt
  have hdr : l.drop k = l[k]'hlt :: l.drop (k + 1) := List.drop_eq_getElem_cons hlt
  generalize l[k]'hlt = x at hg hdr
  unfold zBT
  rw [zP, decide_eq_true (by omega), cond_true]
  simp only [hg, Option.bind_some, qA]
  rw [hdr, zCC (by omega), show Op.bytesLess x.1.toList e.1.toList = nl x.1 e.1 from rfl, ptNm_cons, ih n (k + 1) (by omega) (by omega) (by omega)]
  cases nl x.1 e.1 with
  | true =>
   simp only [cond_true, if_true]
   rw [show k + 1 + ptNm e (l.drop (k + 1)) = k + (ptNm e (l.drop (k + 1)) + 1) by omega]
  | false => rfl
theorem zIL (l : List E4) (e : E4) (hl : l.length ≤ 100000) : zDk l e = some (putE e l) := by
 have hF : 200000000 < FU := by decide
 have h := put_run e l hl l.length FU 0 rfl (by omega) (by omega)
 have h : zBT e l FU 0 = _ := h
 obtain ⟨h1, h2⟩ := put_ptNm e l
 unfold zDk
 rw [h, List.drop_zero, Nat.zero_add, Option.bind_some]
 have s1 : slc l.length 0 ((ptNm e l : Nat) : Int) = some () := zEk (l := 0) (by omega) h1
 have s2 : slc l.length ((ptNm e l : Nat) : Int) (l.length : Int) = some () := zEk h1 (Nat.le_refl _)
 have u1 : subl l 0 ((ptNm e l : Nat) : Int) = l.take (ptNm e l) := by
  unfold subl
  rw [Int.toNat_natCast, show Int.toNat 0 = 0 from rfl, List.drop_zero, Nat.sub_zero]
 have u2 : subl l ((ptNm e l : Nat) : Int) (l.length : Int) = l.drop (ptNm e l) := by
  unfold subl
  rw [Int.toNat_natCast, Int.toNat_natCast, List.take_of_length_le (by simp)]
 rw [s1, s2, u1, u2]
 simp only [Option.bind_some, List.nil_append]
 rw [zCA (by simp; omega), Option.bind_some, zCA (by simp; omega), Option.bind_some, zCA (by simp; omega), Option.bind_some, h2]
 simp
theorem zLf (l : List E4) (nm : ByteArray) {i : Nat} (hl : l.length ≤ 100000) (hs : Srt l) (h : ixE nm l = some i) : zDP l (i : Int) = some (woE nm l) := by
 obtain ⟨hi, _⟩ := ix_some h
 unfold zDP
 have s1 : slc l.length 0 (i : Int) = some () := zEk (l := 0) (by omega) (by omega)
 have s2 : slc l.length ((i + 1 : Nat) : Int) (l.length : Int) = some () := zEk (by omega) (Nat.le_refl _)
 have u1 : subl l 0 (i : Int) = l.take i := by
  unfold subl
  rw [Int.toNat_natCast, show Int.toNat 0 = 0 from rfl, List.drop_zero, Nat.sub_zero]
 have u2 : subl l ((i + 1 : Nat) : Int) (l.length : Int) = l.drop (i + 1) := by
  unfold subl
  rw [Int.toNat_natCast, Int.toNat_natCast, List.take_of_length_le (by simp)]
 rw [zCC (by omega), s1, s2, u1, u2]
 simp only [Option.bind_some, List.nil_append]
 rw [zCA (by simp; omega), Option.bind_some, zCA (by simp; omega), Option.bind_some, wo_ix hs h]
structure Cg (l : List E4) : Prop where
  srt : Srt l
  len : l.length ≤ 20
  good : ∀ e ∈ l, nmB e.1 = true ∧ cls e.2 = true
theorem cg_nil : Cg [] := ⟨List.Pairwise.nil, by simp, fun e h => by cases h⟩
theorem cg_put {l : List E4} (h : Cg l) {nm : ByteArray} {f : Int × Int × Int} (hn : nmB nm = true) (hf : cls f = true) (hlen : (woE nm l).length + 1 ≤ 20) : Cg (putE (nm, f) (woE nm l)) := by
 refine ⟨srt_put (srt_wo h.srt) fun x hx => (zIr.1 hx).2, by rw [zIM]; exact hlen, fun e he => ?_⟩
 rcases mem_put.1 he with rfl | he
 ·exact ⟨hn, hf⟩
 ·exact h.good e (zIr.1 he).1
theorem cg_wo {l : List E4} (h : Cg l) (nm : ByteArray) : Cg (woE nm l) := ⟨srt_wo h.srt, Nat.le_trans (len_wo nm l) h.len, fun e he => h.good e (zIr.1 he).1⟩
theorem zLI {f : Int × Int × Int} (h : cls f = true) : ∃ D, CFc D f := ⟨_, cfc_of (by rw [zJh, h])⟩
theorem disc_same (f : Int × Int × Int) : zAM f = qI f := rfl
theorem opp_same (f : Int × Int × Int) : zDZ f = zAE f := rfl
theorem cls_prc {D : Int} (h1 : -2000 ≤ D) (h2 : D < 0) {f : Int × Int × Int} (h : PrRc D f) : cls f = true := by
 have := (class_of_prc h1 h2 h).1
 rw [zJh] at this
 exact Option.some.inj this
theorem red_all {f : Int × Int × Int} (h : cls f = true) : ∃ g, jZ f = some g ∧ zAq f = some g ∧ cls g = true := by
 obtain ⟨D, hD⟩ := zLI h
 obtain ⟨g, g1, g2, g3, _⟩ := redG hD.2.2.2.2 hD.2.2.1
 exact ⟨g, g1, g2, cls_prc hD.2.2.2.1 hD.2.2.2.2 g3⟩
theorem inv_all {f : Int × Int × Int} (h : cls f = true) : ∃ o g, zAE f = some o ∧ jZ o = some g ∧ zCq f = some g ∧ cls g = true := by
 obtain ⟨D, hD⟩ := zLI h
 obtain ⟨h1, h2⟩ := cfc_opp hD
 obtain ⟨g, g1, g2, g3, _⟩ := redG hD.2.2.2.2 h2
 refine ⟨_, g, h1, g1, ?_, cls_prc hD.2.2.2.1 hD.2.2.2.2 g3⟩
 unfold zCq
 rw [opp_same, h1, Option.bind_some, g2]
 rfl
theorem eq3_comm (x y : Int × Int × Int) : ((x.1 == y.1) && ((x.2.1 == y.2.1) && (x.2.2 == y.2.2))) = ((y.1 == x.1) && ((y.2.1 == x.2.1) && (y.2.2 == x.2.2))) := by
 rw [Bool.eq_iff_iff]
 simp only [Bool.and_eq_true, beq_iff_eq]
 constructor <;> rintro ⟨h1, h2, h3⟩ <;> exact ⟨h1.symm, h2.symm, h3.symm⟩
theorem ixI_none {nm : ByteArray} {l : List E4} (h : fnE nm l = none) : ixI nm l = -1 := by
 unfold ixI
 rw [ix_none.2 h]
theorem ixI_some {nm : ByteArray} {l : List E4} {f : Int × Int × Int} (h : fnE nm l = some f) : ∃ i : Nat, ixE nm l = some i ∧ ixI nm l = (i : Int) ∧ ∃ e : E4, getI l (i : Int) = some e ∧ e.2 = f := by
 cases hi : ixE nm l with
 | none => rw [ix_none.1 hi] at h; cases h
 | some i =>
  obtain ⟨h1, h2, h3⟩ := ix_some hi
  refine ⟨i, rfl, by unfold ixI; rw [hi], _, zDV h1, ?_⟩
  rw [h] at h3
  exact (Option.some.inj h3).symm
theorem zEW {l : List E4} (hl : l.length ≤ 100000) (nm : ByteArray) : (∃ f, fnE nm l = some f ∧ zBV l nm = some (f, true) ∧ ∃ i : Nat, ixE nm l = some i ∧ zBI l nm = some (i : Int) ∧ ∃ e : E4, getI l (i : Int) = some e ∧ e.2 = f) ∨ (fnE nm l = none ∧ zBV l nm = some ((0, 0, 0), false) ∧ zBI l nm = some (-1)) := by
 have h1 := zLm l nm hl
 have h2 := zLe l nm hl
 cases hf : fnE nm l with
 | none =>
  rw [hf] at h1
  rw [ixI_none hf] at h2
  exact .inr ⟨rfl, h1, h2⟩
 | some f =>
  rw [hf] at h1
  obtain ⟨i, i1, i2, i3⟩ := ixI_some hf
  rw [i2] at h2
  exact .inl ⟨f, rfl, h1, i, i1, h2, i3⟩
theorem zF3 {l : List E4} (hl : l.length ≤ 100000) (nm : ByteArray) : ∃ a b, zBV l nm = some a ∧ zBI l nm = some b := ⟨_, _, zLm l nm hl, zLe l nm hl⟩
theorem nm_emp {a : ByteArray} (h : nmB a = true) : decide (a = emp) = false := decide_eq_false (nm_ne h)
theorem zH7 {l : List E4} (hl : Cg l) {c : Cmd} (hc : cmdB c = true) : ∃ r, qV l c = some r ∧ zDC l c = some r ∧ (r.2 = 0 → Cg r.1) := by
 have hll : l.length ≤ 100000 := by have := hl.len; omega
 have hlen := hl.len
 have good : ∀ {nm f}, fnE nm l = some f → cls f = true := fun h => (hl.good _ (fn_mem h)).2
 have ee : (⟨#[]⟩ : ByteArray) = emp := rfl
 have h22 : ltI 0 0 = false := rfl
 obtain ⟨nm, hn, hcase⟩ := zKQ hc
 obtain ⟨p0, q0, hp0, hq0⟩ := zF3 hll emp
 unfold qV zD8 zDC
 rcases hcase with ⟨f, hf, rfl | rfl⟩ | rfl | ⟨a, b, ha, hb, rfl⟩ | ⟨a, ha, rfl⟩
 ·-- add
  simp only [hp0, hq0, eqS, ee, decide_true, Bool.not_true, show eqI (1 : Int) 1 = true from rfl, show eqI (1 : Int) 2 = false from rfl, show eqI (1 : Int) 3 = false from rfl, show eqI (1 : Int) 4 = false from rfl, show eqI (1 : Int) 5 = false from rfl, cond_true, cond_false, Option.bind_some, Bool.not_false]
  rcases zEW hll nm with ⟨g, f1, f2, i, f3, f4, _⟩ | ⟨f1, f2, f3⟩
  ·simp only [f2, f4, Option.bind_some, q9, cond_true]
   rw [decide_eq_true (show (0 : Int) ≤ (i : Int) by omega)]
   exact ⟨_, rfl, rfl, fun h => by cases h⟩
  ·simp only [f2, f3, Option.bind_some, show leI 0 (-1) = false from rfl, cond_false, show eqI 0 0 = true from rfl, Bool.not_true, zHS l nm f hll, zEE f1, zIM, q9, zP]
   by_cases h20 : 20 ≤ l.length
   ·rw [decide_eq_true (show (20 : Int) < ((l.length + 1 : Nat) : Int) by omega), decide_eq_true (show (20 : Int) ≤ ((l.length : Nat) : Int) by omega)]
    exact ⟨_, rfl, rfl, fun h => by cases h⟩
   ·rw [decide_eq_false (show ¬ (20 : Int) < ((l.length + 1 : Nat) : Int) by omega), decide_eq_false (show ¬ (20 : Int) ≤ ((l.length : Nat) : Int) by omega), zIL l _ hll]
    refine ⟨_, rfl, rfl, fun _ => ?_⟩
    have := cg_put hl hn hf (by rw [zEE f1]; omega)
    rw [zEE f1] at this
    exact this
 ·-- move
  simp only [hp0, hq0, eqS, ee, decide_true, Bool.not_true, show eqI (5 : Int) 1 = false from rfl, show eqI (5 : Int) 2 = false from rfl, show eqI (5 : Int) 3 = false from rfl, show eqI (5 : Int) 4 = false from rfl, show eqI (5 : Int) 5 = true from rfl, cond_true, cond_false, Option.bind_some, Bool.not_false]
  rcases zEW hll nm with ⟨g, f1, f2, i, f3, f4, e, f5, f6⟩ | ⟨f1, f2, f3⟩
  ·obtain ⟨g', g1, g2, _⟩ := red_all (good f1)
   obtain ⟨f', k1, k2, _⟩ := red_all hf
   simp only [f2, f4, Option.bind_some, Bool.not_true, cond_false, zP, g1, g2, k1, k2, f5, f6]
   rw [decide_eq_false (show ¬ (i : Int) < 0 by omega)]
   simp only [cond_false, Option.bind_some]
   rw [eq3_comm f' g']
   cases he : ((g'.1 == f'.1) && ((g'.2.1 == f'.2.1) && (g'.2.2 == f'.2.2))) with
   | false =>
    exact ⟨_, rfl, rfl, fun h => by cases h⟩
   | true =>
    have hlt := len_wo_lt f1
    simp only [Bool.not_true, cond_false, show eqI 0 0 = true from rfl, Option.bind_some, zHS l nm f hll, zLf l nm hll hl.srt f3, zIM]
    rw [decide_eq_false (show ¬ (20 : Int) < (((woE nm l).length + 1 : Nat) : Int) by omega), zIL _ _ (by omega)]
    exact ⟨_, rfl, rfl, fun _ => cg_put hl hn hf (by omega)⟩
  ·simp only [f2, f3, Option.bind_some, Bool.not_false, cond_true, show ltI (-1) 0 = true from rfl]
   exact ⟨_, rfl, rfl, fun h => by cases h⟩
 ·-- drop
  simp only [hp0, hq0, eqS, ee, decide_true, Bool.not_true, show eqI (2 : Int) 1 = false from rfl, show eqI (2 : Int) 2 = true from rfl, show eqI (2 : Int) 3 = false from rfl, show eqI (2 : Int) 4 = false from rfl, show eqI (2 : Int) 5 = false from rfl, cond_true, cond_false, Option.bind_some, Bool.not_false]
  rcases zEW hll nm with ⟨g, f1, f2, i, f3, f4, e, f5, f6⟩ | ⟨f1, f2, f3⟩
  ·simp only [f2, f4, Option.bind_some, Bool.not_true, cond_false, zP]
   rw [decide_eq_false (show ¬ (i : Int) < 0 by omega)]
   simp only [cond_false, show eqI 0 0 = true from rfl, Bool.not_true, Option.bind_some, zK4 l nm hll, zLf l nm hll hl.srt f3]
   exact ⟨_, rfl, rfl, fun _ => cg_wo hl nm⟩
  ·simp only [f2, f3, Option.bind_some, Bool.not_false, cond_true, show ltI (-1) 0 = true from rfl]
   exact ⟨_, rfl, rfl, fun h => by cases h⟩
 ·-- mul
  simp only [eqS, ee, decide_true, nm_emp ha, nm_emp hb, Bool.not_true, show eqI (3 : Int) 1 = false from rfl, show eqI (3 : Int) 2 = false from rfl, show eqI (3 : Int) 3 = true from rfl, show eqI (3 : Int) 4 = false from rfl, show eqI (3 : Int) 5 = false from rfl, cond_true, cond_false, Bool.not_false]
  rcases zEW hll nm with ⟨g, f1, f2, i, f3, f4, _⟩ | ⟨f1, f2, f3⟩
  ·obtain ⟨p1, q1, hp1, hq1⟩ := zF3 hll a
   obtain ⟨p2, q2, hp2, hq2⟩ := zF3 hll b
   simp only [f2, f4, hp1, hq1, hp2, hq2, Option.bind_some, q9, cond_true]
   rw [decide_eq_true (show (0 : Int) ≤ (i : Int) by omega)]
   exact ⟨_, rfl, rfl, fun h => by cases h⟩
  ·simp only [f2, f3, Option.bind_some, show leI 0 (-1) = false from rfl, cond_false]
   rcases zEW hll a with ⟨fa, a1, a2, ia, a3, a4, ea, a5, a6⟩ | ⟨a1, a2, a3⟩
   ·rcases zEW hll b with ⟨fb, b1, b2, ib, b3, b4, eb, b5, b6⟩ | ⟨b1, b2, b3⟩
    ·obtain ⟨Da, hDa⟩ := zLI (good a1)
     obtain ⟨Db, hDb⟩ := zLI (good b1)
     simp only [a2, a4, b2, b4, Option.bind_some, Bool.not_true, cond_false, zP, cond_true, a5, a6, b5, b6, disc_same, hDa.2.1, hDb.2.1]
     rw [decide_eq_false (show ¬ (ia : Int) < 0 by omega), decide_eq_false (show ¬ (ib : Int) < 0 by omega)]
     simp only [cond_false, Option.bind_some]
     by_cases hD : Da = Db
     ·subst hD
      obtain ⟨h, m1, m2, m3, _⟩ := compG hDa.2.2.2.1 hDa.2.2.2.2 hDa.2.2.1 hDb.2.2.1
      have hcls := cls_prc hDa.2.2.2.1 hDa.2.2.2.2 m3
      simp only [zEu, Bool.not_true, cond_false, Option.bind_some, m1, m2, zHS l nm _ hll, zEE f1, zIM, q9]
      by_cases h20 : 20 ≤ l.length
      ·rw [decide_eq_true (show (20 : Int) < ((l.length + 1 : Nat) : Int) by omega), decide_eq_true (show (20 : Int) ≤ ((l.length : Nat) : Int) by omega)]
       exact ⟨_, rfl, rfl, fun h => by cases h⟩
      ·rw [decide_eq_false (show ¬ (20 : Int) < ((l.length + 1 : Nat) : Int) by omega), decide_eq_false (show ¬ (20 : Int) ≤ ((l.length : Nat) : Int) by omega), zIL l _ hll]
       refine ⟨_, rfl, rfl, fun _ => ?_⟩
       have := cg_put hl hn hcls (by rw [zEE f1]; omega)
       rw [zEE f1] at this
       exact this
     ·simp only [eqNe hD, Bool.not_false, cond_true]
      exact ⟨_, rfl, rfl, fun h => by cases h⟩
    ·simp only [a2, a4, b2, b3, Option.bind_some, Bool.not_true, Bool.not_false, cond_false, cond_true, zP, show decide ((-1 : Int) < 0) = true from rfl]
     rw [decide_eq_false (show ¬ (ia : Int) < 0 by omega)]
     exact ⟨_, rfl, rfl, fun h => by cases h⟩
   ·obtain ⟨p2, q2, hp2, hq2⟩ := zF3 hll b
    simp only [a2, a3, hp2, hq2, Option.bind_some, Bool.not_false, cond_true, cond_false, show ltI (-1) 0 = true from rfl]
    exact ⟨_, rfl, rfl, fun h => by cases h⟩
 ·-- inv
  simp only [hp0, hq0, eqS, ee, decide_true, nm_emp ha, Bool.not_true, show eqI (4 : Int) 1 = false from rfl, show eqI (4 : Int) 2 = false from rfl, show eqI (4 : Int) 3 = false from rfl, show eqI (4 : Int) 4 = true from rfl, show eqI (4 : Int) 5 = false from rfl, cond_true, cond_false, Bool.not_false]
  rcases zEW hll nm with ⟨g, f1, f2, i, f3, f4, _⟩ | ⟨f1, f2, f3⟩
  ·obtain ⟨p1, q1, hp1, hq1⟩ := zF3 hll a
   simp only [f2, f4, hp1, hq1, Option.bind_some, q9, cond_true]
   rw [decide_eq_true (show (0 : Int) ≤ (i : Int) by omega)]
   exact ⟨_, rfl, rfl, fun h => by cases h⟩
  ·simp only [f2, f3, Option.bind_some, show leI 0 (-1) = false from rfl, cond_false]
   rcases zEW hll a with ⟨fa, a1, a2, ia, a3, a4, ea, a5, a6⟩ | ⟨a1, a2, a3⟩
   ·obtain ⟨o, g, o1, o2, o3, o4⟩ := inv_all (good a1)
    simp only [a2, a4, Option.bind_some, Bool.not_true, cond_false, zP, cond_true, a5, a6, o1, o2, o3, show eqI 0 0 = true from rfl]
    rw [decide_eq_false (show ¬ (ia : Int) < 0 by omega)]
    simp only [cond_false, Option.bind_some, zHS l nm _ hll, zEE f1, zIM, q9]
    by_cases h20 : 20 ≤ l.length
    ·rw [decide_eq_true (show (20 : Int) < ((l.length + 1 : Nat) : Int) by omega), decide_eq_true (show (20 : Int) ≤ ((l.length : Nat) : Int) by omega)]
     exact ⟨_, rfl, rfl, fun h => by cases h⟩
    ·rw [decide_eq_false (show ¬ (20 : Int) < ((l.length + 1 : Nat) : Int) by omega), decide_eq_false (show ¬ (20 : Int) ≤ ((l.length : Nat) : Int) by omega), zIL l _ hll]
     refine ⟨_, rfl, rfl, fun _ => ?_⟩
     have := cg_put hl hn o4 (by rw [zEE f1]; omega)
     rw [zEE f1] at this
     exact this
   ·simp only [a2, a3, Option.bind_some, Bool.not_false, cond_true, cond_false, show ltI (-1) 0 = true from rfl]
    exact ⟨_, rfl, rfl, fun h => by cases h⟩
def fi (c : UInt8) : List UInt8 → Option Nat
 | [] => none
 | b :: l => if b = c then some 0 else (fi c l).map (· + 1)
theorem zEa (c b : UInt8) (l : List UInt8) : fi c (b :: l) = if b = c then some 0 else (fi c l).map (· + 1) := rfl
theorem zLD {c : UInt8} : ∀ {l : List UInt8}, fi c l = none → ∀ b ∈ l, b ≠ c
 | [], _, b, hb => by cases hb
 | x :: l, h, b, hb => by
  rw [zEa] at h
  split at h
  ·cases h
  ·rename_i hx
   rcases List.mem_cons.1 hb with rfl | hb
   ·exact hx
   ·exact zLD (Option.map_eq_none_iff.1 h) b hb
theorem zGo {c : UInt8} : ∀ {l : List UInt8} {i : Nat}, fi c l = some i → i < l.length ∧ l.take (i + 1) = l.take i ++ [c] ∧ ∀ b ∈ l.take i, b ≠ c
 | [], i, h => by cases h
 | x :: l, i, h => by
  rw [zEa] at h
  split at h
  ·rename_i hx
   injection h with h
   subst h hx
   exact ⟨by simp, rfl, fun b hb => by cases hb⟩
  ·rename_i hx
   cases hi : fi c l with
   | none => rw [hi] at h; cases h
   | some j =>
    rw [hi] at h
    injection h with h
    subst h
    obtain ⟨h1, h2, h3⟩ := zGo hi
    refine ⟨by simp; omega, ?_, fun b hb => ?_⟩
    ·rw [List.take_succ_cons, h2]
     rfl
    ·rw [List.take_succ_cons] at hb
     rcases List.mem_cons.1 hb with rfl | hb
     ·exact hx
     ·exact h3 b hb
theorem idx_some (s : ByteArray) (c : UInt8) {i : Nat} (hi : i < s.size) (h1 : s.data.toList[i]'hi = c) (h2 : ∀ j (hj : j < i), s.data.toList[j]'(Nat.lt_trans hj hi) ≠ c) : firstIdx s c = (i : Int) := by
 unfold firstIdx
 have get : ∀ j (hj : j < s.size), s[j]! = s.data.toList[j]'hj := fun j hj => by
  rw [getElem!_pos s j hj]
  rfl
 have hf : (List.range s.size).find? (fun i => s[i]! == c) = some i := by
  rw [List.find?_range_eq_some]
  refine ⟨by rw [get i hi, h1]; simp, List.mem_range.2 hi, fun j hj => ?_⟩
  rw [get j (Nat.lt_trans hj hi)]
  simpa using h2 j hj
 rw [hf]
theorem idx_fi (l : List UInt8) (c : UInt8) : firstIdx (bl l) c = match fi c l with
 | some i => (i : Int)
 | none => -1 := by
 cases h : fi c l with
 | none => exact firstIdx_none (bl l) c (by rw [zBX]; exact zLD h)
 | some i =>
  obtain ⟨h1, h2, h3⟩ := zGo h
  have hd : (bl l).data.toList = l := zBX l
  have hi : i < (bl l).size := by rw [jI]; exact h1
  refine idx_some (bl l) c hi ?_ fun j hj => ?_
  ·have h4 : l.take (i + 1) = l.take i ++ [l[i]] := by
    rw [List.take_succ_eq_append_getElem h1]
    rfl
   rw [h2] at h4
   have h5 := List.append_cancel_left h4
   injection h5 with h5
   simp only [hd]
   exact h5.symm
  ·simp only [hd]
   exact h3 _ (List.mem_take_iff_getElem.2 ⟨j, by omega, rfl⟩)
theorem cut_fi (c : UInt8) (l : List UInt8) : (cut l [c]).1 = match fi c l with
 | some i => l.take i
 | none => l := by
 have key : ∀ l : List UInt8, index l [c] = match fi c l with
   | some i => (i : Int)
   | none => -1 := by
  intro l
  induction l with
  | nil => rfl
  | cons b l ih =>
   by_cases h : b = c
   ·subst h
    rw [index_eq, zEa, if_pos rfl]
    rfl
   ·rw [index_ne h, zEa, if_neg h, ih]
    cases fi c l with
    | none => rfl
    | some i =>
     have : ((i : Int) == -1) = false := by rw [beq_eq_false_iff_ne]; omega
     show (if ((i : Int) == -1) = true then (-1 : Int) else (i : Int) + 1) = ((i + 1 : Nat) : Int)
     rw [this]
     rfl
 unfold cut
 rw [key l]
 cases fi c l with
 | none => rfl
 | some i => simp
theorem zLt (s : ByteArray) : ∀ (n : Nat) (b i : Int), zBh s n b i = qE s n b i
 | 0, b, i => rfl
 | n + 1, b, i => by
  unfold zBh qE
  simp only [zLt s n]
theorem zFY (s : ByteArray) (b : Int) : zCM s b = qD s b := by
 unfold zCM qD
 rw [zLt]
def CkB (b : Int) : Prop := 0 ≤ b ∧ b ≤ 9972
theorem check_run (s : ByteArray) (hs : s.size ≤ 100000000) : ∀ (k n i : Nat) (b : Int), s.size - i = k → k < n → CkB b → ∃ r, qE s n b (i : Int) = some r ∧ CkB r := by
 intro k
 induction k with
 | zero =>
  intro n i b hk hn hb
  obtain ⟨n, rfl⟩ : ∃ m, n = m + 1 := ⟨n - 1, by omega⟩
  unfold qE
  rw [zP, decide_eq_false (by omega), cond_false]
  exact ⟨b, rfl, hb⟩
 | succ k ih =>
  intro n i b hk hn hb
  obtain ⟨n, rfl⟩ : ∃ m, n = m + 1 := ⟨n - 1, by omega⟩
  have hlt : i < s.size := by omega
  have hg := zDd hlt
  generalize s.data.toList[i]'hlt = x at hg
  have hx : x.toNat < 256 := x.toNat_lt
  unfold qE
  rw [zP, decide_eq_true (by omega), cond_true]
  simp only [hg, Option.bind_some, qA]
  obtain ⟨b1, b2⟩ := hb
  have e1 : w64 (31 * b) = 31 * b := zJ (by omega)
  have e2 : IntKind.i64.wrap ((x.toNat : Nat) : Int) = ((x.toNat : Nat) : Int) := zF1 (by omega)
  have e3 : w64 (31 * b + ((x.toNat : Nat) : Int)) = 31 * b + ((x.toNat : Nat) : Int) := zJ (by omega)
  rw [e1, e2, e3, zJ (by omega), zCC (by omega), Int.tmod_eq_emod_of_nonneg (by omega)]
  exact ih n (i + 1) _ (by omega) (by omega) ⟨by omega, by omega⟩
theorem check_tot (s : ByteArray) (hs : s.size ≤ 100000000) {b : Int} (hb : CkB b) : ∃ r, qD s b = some r ∧ CkB r := by
 have hF : 200000000 < FU := by decide
 obtain ⟨r, h1, h2⟩ := check_run s hs s.size FU 0 b rfl (by omega) hb
 have h1 : qE s FU b 0 = _ := h1
 refine ⟨r, ?_, h2⟩
 unfold qD
 rw [h1]
 rfl
def recB (ws : List (List UInt8)) (k : Int) : List UInt8 := jn 32 ws ++ 35 :: (itoa k ++ [10])
theorem zFH {c : Cmd} {ws : List (List UInt8)} (h : CT c ws) {b : Int} (hb : CkB b) : ∃ k, CkB k ∧ qD (bl (jn 32 ws)) b = some k ∧ zBL c b = some (bl (recB ws k), k) ∧ zBp c b = some (bl (recB ws k)) := by
 have hsz := h.cw.size
 obtain ⟨k, h1, h2⟩ := check_tot (bl (jn 32 ws)) (by rw [jI]; omega) hb
 obtain ⟨k0, k1⟩ := h2
 have hil : (itoa k).length ≤ 8 := zEQ (by omega) (by omega)
 have e35 : (⟨#[35]⟩ : ByteArray) = bl [35] := rfl
 have e10 : (⟨#[10]⟩ : ByteArray) = bl [10] := rfl
 have hit : zAo k = some (bl (itoa k)) := zLA ⟨by omega, by omega⟩
 have hnum : zB7 FU k = some (bl (itoa k)) := by
  have hF : 18 < FU := by decide
  have := zIN FU 18 k.toNat (by omega) (by omega) hF
  rw [show ((k.toNat : Nat) : Int) = k by omega] at this
  rw [this, zF0 k0]
 have er : jn 32 ws ++ [35] ++ itoa k ++ [10] = recB ws k := by simp [recB]
 refine ⟨k, ⟨k0, k1⟩, h1, ?_, ?_⟩
 ·unfold zBL
  rw [h.i, Option.bind_some, h1]
  simp only [Option.bind_some, e35, e10, hit]
  rw [zCu (by simp; omega), Option.bind_some, zBW, zCu (by simp; omega), Option.bind_some, zBW, zCu (by simp; omega), Option.bind_some, zBW, er]
 ·unfold zBp
  rw [h.s, Option.bind_some, zFY, h1]
  simp only [Option.bind_some, e35, e10]
  rw [zCu (by simp; omega), Option.bind_some, zBW, hnum, Option.bind_some, zCu (by simp; omega), Option.bind_some, zBW, zCu (by simp; omega), Option.bind_some, zBW, er]
def fiN (c : UInt8) (l : List UInt8) : Nat := (fi c l).getD l.length
theorem fiN_cons (c b : UInt8) (l : List UInt8) : fiN c (b :: l) = if b = c then 0 else fiN c l + 1 := by
 unfold fiN
 rw [zEa]
 split
 ·rfl
 ·cases fi c l <;> rfl
theorem zKL (c : UInt8) (l : List UInt8) : fiN c l ≤ l.length := by
 unfold fiN
 cases h : fi c l with
 | none => exact Nat.le_refl _
 | some i => exact Nat.le_of_lt (zGo h).1
theorem end_run (ck : Int) (l : List E4) (rc vat : Int) (s : ByteArray) (hs : s.size ≤ 100000000) : ∀ (k n p : Nat), s.size - p = k → k < n → p ≤ s.size → zAf ck l rc vat s n (p : Int) = some ((p + fiN 10 (s.data.toList.drop p) : Nat) : Int) := by
 have hsz : s.data.toList.length = s.size := rfl
 intro k
 induction k with
 | zero =>
  intro n p hk hn hp
  obtain ⟨n, rfl⟩ : ∃ m, n = m + 1 := ⟨n - 1, by omega⟩
  unfold zAf
  rw [zP, decide_eq_false (by omega), cond_false, List.drop_of_length_le (by omega)]
  rfl
 | succ k ih =>
  intro n p hk hn hp
  obtain ⟨n, rfl⟩ : ∃ m, n = m + 1 := ⟨n - 1, by omega⟩
  have hlt : p < s.size := by omega
  have hdr : s.data.toList.drop p = s.data.toList[p]'hlt :: s.data.toList.drop (p + 1) := List.drop_eq_getElem_cons hlt
  have hg := zDd hlt
  generalize s.data.toList[p]'hlt = b at hdr hg
  unfold zAf
  rw [zP, decide_eq_true (by omega), cond_true, hg]
  have hbe : eqI ((b.toNat : Nat) : Int) 10 = decide (b = 10) := by rw [zBN]; exact zLJ b 10
  simp only [Option.bind_some, qA, hbe]
  rw [hdr, fiN_cons, zCC (by omega), ih n (p + 1) (by omega) (by omega) (by omega)]
  by_cases hb : b = 10
  ·rw [decide_eq_true hb, if_pos hb]
   rfl
  ·rw [decide_eq_false hb, if_neg hb, Bool.not_false, cond_true]
   congr 2
   omega
theorem mark_run2 (ck : Int) (l : List E4) (rc vat : Int) (s : ByteArray) (hs : s.size ≤ 100000000) {e : Nat} (he : e ≤ s.size) : ∀ (k n p : Nat), e - p = k → k < n → p ≤ e → zAe ck l (e : Int) rc vat s n (p : Int) = some ((p + fiN 35 ((s.data.toList.drop p).take (e - p)) : Nat) : Int) := by
 have hsz : s.data.toList.length = s.size := rfl
 intro k
 induction k with
 | zero =>
  intro n p hk hn hp
  obtain ⟨n, rfl⟩ : ∃ m, n = m + 1 := ⟨n - 1, by omega⟩
  unfold zAe
  rw [zP, decide_eq_false (by omega), cond_false, hk]
  rfl
 | succ k ih =>
  intro n p hk hn hp
  obtain ⟨n, rfl⟩ : ∃ m, n = m + 1 := ⟨n - 1, by omega⟩
  have hlt : p < s.size := by omega
  have hdr : s.data.toList.drop p = s.data.toList[p]'hlt :: s.data.toList.drop (p + 1) := List.drop_eq_getElem_cons hlt
  have hg := zDd hlt
  generalize s.data.toList[p]'hlt = b at hdr hg
  unfold zAe
  rw [zP, decide_eq_true (by omega), cond_true, hg]
  have hbe : eqI ((b.toNat : Nat) : Int) 35 = decide (b = 35) := by rw [zBN]; exact zLJ b 35
  simp only [Option.bind_some, qA, hbe]
  rw [hdr, hk, List.take_succ_cons, fiN_cons, zCC (by omega), ih n (p + 1) (by omega) (by omega) (by omega), show e - (p + 1) = k by omega]
  by_cases hb : b = 35
  ·rw [decide_eq_true hb, if_pos hb]
   rfl
  ·rw [decide_eq_false hb, if_neg hb, Bool.not_false, cond_true]
   congr 2
   omega
theorem zKM (s : ByteArray) {a b : Nat} : s.extract (Int.toNat (a : Int)) (Int.toNat (b : Int)) = bl ((s.data.toList.drop a).take (b - a)) := by
 rw [Int.toNat_natCast, Int.toNat_natCast, zHm]
theorem replay_run (s : ByteArray) (hs : s.size ≤ 1000000) : ∀ (k f m a : Nat) (ck : Int) (l : List E4), 40 - m = k → k < f → m ≤ 40 → a ≤ s.size → CkB ck → Cg l →
  ∃ (l' : List E4) (m' a' : Nat) (ck' : Int), jO s f (m : Int) (a : Int) ck l = some ((m' : Int), (a' : Int), ck', l') ∧ jD s f l (m : Int) (a : Int) ck = some (l', (m' : Int), (a' : Int), ck') ∧ m' ≤ 40 ∧ a' ≤ s.size ∧ CkB ck' ∧ Cg l' := by
 have hsz : s.data.toList.length = s.size := rfl
 have hF : 200000000 < FU := by decide
 intro k
 induction k with
 | zero =>
  intro f m a ck l hk hf hm ha hck hl
  obtain ⟨f, rfl⟩ : ∃ m, f = m + 1 := ⟨f - 1, by omega⟩
  refine ⟨l, m, a, ck, ?_, ?_, hm, ha, hck, hl⟩
  ·unfold jO
   rw [zP, decide_eq_false (by omega), cond_false]
  ·unfold jD
   rw [zP, decide_eq_false (by omega), cond_false]
 | succ k ih =>
  intro f m a ck l hk hf hm ha hck hl
  obtain ⟨f, rfl⟩ : ∃ m, f = m + 1 := ⟨f - 1, by omega⟩
  have stop : ∀ {x : Option (Int × Int × Int × List E4)} {y : Option (List E4 × Int × Int × Int)}, x = some ((m : Int), (a : Int), ck, l) → y = some (l, (m : Int), (a : Int), ck) →
    ∃ (l' : List E4) (m' a' : Nat) (ck' : Int), x = some ((m' : Int), (a' : Int), ck', l') ∧ y = some (l', (m' : Int), (a' : Int), ck') ∧ m' ≤ 40 ∧ a' ≤ s.size ∧ CkB ck' ∧ Cg l' := fun hx hy => ⟨l, m, a, ck, hx, hy, hm, ha, hck, hl⟩
  have hDl : (s.data.toList.drop a).length = s.size - a := by simp
  have hN := zKL 10 (s.data.toList.drop a)
  have hend := end_run ck l (m : Int) (a : Int) s (by omega) (s.size - a) FU a rfl (by omega) ha
  have hmark := mark_run2 ck l (m : Int) (a : Int) s (by omega) (e := a + fiN 10 (s.data.toList.drop a)) (by omega) _ FU a rfl (by omega) (by omega)
  have hN2 := zKL 35 ((s.data.toList.drop a).take (a + fiN 10 (s.data.toList.drop a) - a))
  have hN3 : ((s.data.toList.drop a).take (a + fiN 10 (s.data.toList.drop a) - a)).length ≤ fiN 10 (s.data.toList.drop a) := by
   rw [List.length_take]
   omega
  unfold jO jD
  rw [zP, decide_eq_true (by omega), cond_true, cond_true, zEk ha (Nat.le_refl _), hend, Option.bind_some, Option.bind_some, hmark, Option.bind_some]
  rw [show (s.extract (Int.toNat (a : Int)) (Int.toNat ((s.size : Nat) : Int))) = bl (s.data.toList.drop a) by rw [zKM, List.take_of_length_le (by omega)]]
  unfold zBu jS idxB
  rw [show ((10 : Int).toNat.toUInt8) = (10 : UInt8) from rfl, idx_fi]
  rw [zEk (by omega) (by omega), Option.bind_some, zKM]
  simp only [qA, Option.bind_some]
  cases hfi : fi 10 (s.data.toList.drop a) with
  | none =>
   have hfn : fiN 10 (s.data.toList.drop a) = s.size - a := by unfold fiN; rw [hfi]; exact hDl
   obtain ⟨r, _, hr, _⟩ := zDc (bl ((s.data.toList.drop a).take (a + fiN 35 ((s.data.toList.drop a).take (a + fiN 10 (s.data.toList.drop a) - a)) - a))) (by rw [jI, List.length_take]; omega)
   refine stop ?_ ?_
   ·rfl
   ·rw [hr, Option.bind_some, show eqI ((a + fiN 10 (s.data.toList.drop a) : Nat) : Int) (s.size : Int) = true by rw [hfn, show a + (s.size - a) = s.size by omega, zEu]]
    rfl
  | some i =>
   obtain ⟨hi1, hi2, hi3⟩ := zGo hfi
   have hfn : fiN 10 (s.data.toList.drop a) = i := by unfold fiN; rw [hfi]; rfl
   rw [hfn]
   have hle : i < s.size - a := by omega
   have e1 : w64 ((a : Int) + (i : Int)) = ((a + i : Nat) : Int) := by rw [zJ (by omega)]; omega
   have e2 : w64 (w64 ((a : Int) + (i : Int)) + 1) = ((a + i + 1 : Nat) : Int) := by rw [e1, zJ (by omega)]; omega
   have e3 : w64 (((a + i : Nat) : Int) + 1) = ((a + i + 1 : Nat) : Int) := by rw [zJ (by omega)]; omega
   simp only [e2, e3]
   rw [zP, decide_eq_false (by omega), cond_false, zEk (by omega) (by omega), Option.bind_some, zKM, show a + i + 1 - a = i + 1 by omega, hi2, show a + i - a = i by omega, eqNe (show ((a + i : Nat) : Int) ≠ (s.size : Int) by omega)]
   generalize hW : (s.data.toList.drop a).take i = W at hi2 hi3
   have hWl : W.length = i := by rw [← hW, List.length_take]; omega
   have hcut : zCD (bl (W ++ [10])) ⟨#[35]⟩ = some (bl (cut (W ++ [10]) [35]).1, bl (cut (W ++ [10]) [35]).2.1, (cut (W ++ [10]) [35]).2.2) := by
    unfold zCD
    rw [if_pos (by rw [jI]; simp; omega)]
    rfl
   rw [hcut, Option.bind_some]
   simp only [cut_fi]
   have hfi35 : fi 35 (W ++ [10]) = fi 35 W := by
    clear hfn hN hN2 hN3 hmark hcut
    generalize W = W'
    induction W' with
    | nil => rfl
    | cons b w ihw => rw [List.cons_append, zEa, zEa, ihw]
   have htk : (s.data.toList.drop a).take (a + fiN 35 W - a) = W.take (fiN 35 W) := by
    rw [← hW, List.take_take, show a + fiN 35 ((s.data.toList.drop a).take i) - a = fiN 35 ((s.data.toList.drop a).take i) by omega, Nat.min_eq_left]
    have := zKL 35 ((s.data.toList.drop a).take i)
    rw [List.length_take] at this
    omega
   rw [htk, hfi35]
   cases hj : fi 35 W with
   | none =>
    have hfn2 : fiN 35 W = W.length := by unfold fiN; rw [hj]; rfl
    rw [hfn2, List.take_length]
    obtain ⟨r, hr, _, hr2⟩ := zDc (bl (W ++ [10])) (by rw [jI]; simp; omega)
    obtain ⟨q, _, hq, hq2⟩ := zDc (bl W) (by rw [jI]; omega)
    have hr3 : r = (zC, false) := by
     rcases hr2 with h | ⟨c, ws, _, h1, h2⟩
     ·exact h
     ·exfalso
      have h3 := zDX h2
      exact (h1.cw.byte 10 (by rw [← h3]; simp)).2 rfl
    refine stop ?_ ?_
    ·simp only [hr, hr3, Option.bind_some, Bool.not_false, cond_true]
    ·rw [hq, Option.bind_some]
     rcases hq2 with rfl | ⟨c, ws, rfl, h1, h2⟩
     ·rfl
     ·obtain ⟨kk, _, _, _, h3⟩ := zFH h1 hck
      have hne : bl (W ++ [10]) ≠ bl (recB ws kk) := fun e => by
       have e := zDX e
       have h4 : (35 : UInt8) ∈ W ++ [10] := by rw [e]; simp [recB]
       rw [List.mem_append] at h4
       rcases h4 with h4 | h4
       ·exact zLD hj 35 h4 rfl
       ·exact absurd h4 (by decide)
      simp only [Bool.not_true, cond_false]
      simp only [Option.bind_some, h3, eqS, decide_eq_false hne, Bool.not_false, cond_true]
   | some j =>
    obtain ⟨hj1, hj2, hj3⟩ := zGo hj
    have hfn2 : fiN 35 W = j := by unfold fiN; rw [hj]; rfl
    rw [hfn2]
    have htk2 : (W ++ [10]).take j = W.take j := by rw [List.take_append_of_le_length (by omega)]
    simp only [htk2]
    obtain ⟨r, hr, hq, hr2⟩ := zDc (bl (W.take j)) (by rw [jI, List.length_take]; omega)
    rw [hr, hq]
    rcases hr2 with rfl | ⟨c, ws, rfl, h1, h2⟩
    ·exact stop rfl rfl
    ·obtain ⟨kk, hkk, h3, h4, h5⟩ := zFH h1 hck
     obtain ⟨q, q1, q2, q3⟩ := zH7 hl h1.good
     simp only [Option.bind_some, Bool.not_true, cond_false, h4, q1, h5, eqS]
     by_cases he : bl (recB ws kk) = bl (W ++ [10])
     ·rw [decide_eq_true he, decide_eq_true he.symm]
      simp only [Bool.not_true, cond_false, q2, Option.bind_some]
      by_cases h0 : q.2 = 0
      ·rw [h0, show eqI 0 0 = true from rfl]
       simp only [Bool.not_true, cond_false]
       rw [zFY, h2, h3, Option.bind_some, zCC (by omega), jI]
       have e4 : w64 ((a : Int) + (((W ++ [10]).length : Nat) : Int)) = ((a + i + 1 : Nat) : Int) := by
        rw [zJ (by simp; omega)]
        simp
        omega
       rw [e4]
       exact ih f (m + 1) (a + i + 1) kk q.1 (by omega) (by omega) (by omega) (by omega) hkk (q3 h0)
      ·rw [eqNe h0]
       exact stop rfl rfl
     ·rw [decide_eq_false he, decide_eq_false (fun e => he e.symm)]
      exact stop rfl rfl
theorem replay_both (s : ByteArray) (hs : s.size ≤ 1000000) : ∃ (l : List E4) (m a : Nat) (ck : Int), zA5 s = some (l, (m : Int), (a : Int), ck) ∧ zA4 s = some (l, (m : Int), (a : Int), ck) ∧ m ≤ 40 ∧ a ≤ s.size ∧ CkB ck ∧ Cg l := by
 have hF : 200000000 < FU := by decide
 obtain ⟨l, m, a, ck, h1, h2, h3, h4, h5, h6⟩ := replay_run s hs 40 FU 0 0 0 [] rfl (by omega) (by omega) (by omega) ⟨by omega, by omega⟩ cg_nil
 have h1 : jO s FU 0 0 0 [] = _ := h1
 have h2 : jD s FU [] 0 0 0 = _ := h2
 refine ⟨l, m, a, ck, ?_, ?_, h3, h4, h5, h6⟩
 ·unfold zA5
  rw [h1]
  rfl
 ·unfold zA4
  rw [h2]
  rfl
def Stp (s : ByteArray) (m a : Nat) (ck : Int) (l : List E4) (c : Cmd) (kk : Int) (n : Nat) (l' : List E4) : Prop :=
 m < 40 ∧ ∃ ws, CT c ws ∧ CkB kk ∧ qD (bl (jn 32 ws)) ck = some kk ∧ n = (recB ws kk).length ∧ recB ws kk <+: s.data.toList.drop a ∧ qV l c = some (l', 0)
inductive Rch (s : ByteArray) : Nat → Nat → Int → List E4 → List Cmd → Nat → Nat → Int → List E4 → Prop
  | refl {m a ck l} : Rch s m a ck l [] m a ck l
  | step {m a ck l c kk n l1 cs m' a' ck' l'} (h : Stp s m a ck l c kk n l1) (t : Rch s (m + 1) (a + n) kk l1 cs m' a' ck' l') : Rch s m a ck l (c :: cs) m' a' ck' l'
def Stk (s : ByteArray) (m a : Nat) (ck : Int) (l : List E4) : Prop := ∀ c kk n l', ¬ Stp s m a ck l c kk n l'
theorem zGp {c : UInt8} : ∀ {X : List UInt8} {E : List UInt8}, (∀ b ∈ X, b ≠ c) → fi c (X ++ c :: E) = some X.length
 | [], E, h => by rw [List.nil_append, zEa, if_pos rfl]; rfl
 | b :: X, E, h => by
  rw [List.cons_append, zEa, if_neg (h b (by simp)), zGp fun x hx => h x (List.mem_cons_of_mem _ hx)]
  rfl
theorem itoa_inj {x y : Int} (h : itoa x = itoa y) : x = y := by
 have h1 := zG0 x
 rw [h, zG0] at h1
 exact (Option.some.inj h1).symm
theorem zLr {c : Cmd} {ws : List (List UInt8)} (h : CT c ws) : qX (bl (jn 32 ws)) = some (c, true) := by
 obtain ⟨ws2, h1, h2, h3, h4, h5⟩ := zIS h.good
 rw [h.i] at h2
 rw [Option.some.inj h2]
 exact h4
theorem zHb {c : Cmd} {ws : List (List UInt8)} (h : CT c ws) (kk : Int) {D : List UInt8} (hp : recB ws kk <+: D) : fi 10 D = some ((recB ws kk).length - 1) ∧ D.take ((recB ws kk).length - 1) = jn 32 ws ++ 35 :: itoa kk ∧ fi 35 (jn 32 ws ++ 35 :: itoa kk) = some (jn 32 ws).length := by
 obtain ⟨E, rfl⟩ := hp
 have e : recB ws kk ++ E = (jn 32 ws ++ 35 :: itoa kk) ++ 10 :: E := by simp [recB]
 have el : (recB ws kk).length - 1 = (jn 32 ws ++ 35 :: itoa kk).length := by simp [recB]
 rw [e, el]
 refine ⟨zGp fun b hb => ?_, ?_, zGp fun b hb => (h.cw.byte b hb).1⟩
 ·rw [List.mem_append, List.mem_cons] at hb
  rcases hb with hb | rfl | hb
  ·exact (h.cw.byte b hb).2
  ·decide
  ·exact zFZ kk 10 (by decide) b hb
 ·exact List.take_left
theorem rec_fi {c : Cmd} {ws : List (List UInt8)} (h : CT c ws) (kk : Int) : fi 35 (jn 32 ws ++ 35 :: itoa kk) = some (jn 32 ws).length := zGp fun b hb => (h.cw.byte b hb).1
theorem replay_rel (s : ByteArray) (hs : s.size ≤ 1000000) : ∀ (k f m a : Nat) (ck : Int) (l : List E4), 40 - m = k → k < f → m ≤ 40 → a ≤ s.size → CkB ck → Cg l →
  ∃ (l' : List E4) (m' a' : Nat) (ck' : Int), jO s f (m : Int) (a : Int) ck l = some ((m' : Int), (a' : Int), ck', l') ∧ jD s f l (m : Int) (a : Int) ck = some (l', (m' : Int), (a' : Int), ck') ∧ m' ≤ 40 ∧ a' ≤ s.size ∧ CkB ck' ∧ Cg l' ∧ (∃ cs, Rch s m a ck l cs m' a' ck' l') ∧ Stk s m' a' ck' l' := by
 have hsz : s.data.toList.length = s.size := rfl
 have hF : 200000000 < FU := by decide
 intro k
 induction k with
 | zero =>
  intro f m a ck l hk hf hm ha hck hl
  obtain ⟨f, rfl⟩ : ∃ m, f = m + 1 := ⟨f - 1, by omega⟩
  refine ⟨l, m, a, ck, ?_, ?_, hm, ha, hck, hl, ⟨_, .refl⟩, fun c kk n l' h => absurd h.1 (by omega)⟩
  ·unfold jO
   rw [zP, decide_eq_false (by omega), cond_false]
  ·unfold jD
   rw [zP, decide_eq_false (by omega), cond_false]
 | succ k ih =>
  intro f m a ck l hk hf hm ha hck hl
  obtain ⟨f, rfl⟩ : ∃ m, f = m + 1 := ⟨f - 1, by omega⟩
  have stop : Stk s m a ck l → ∀ {x : Option (Int × Int × Int × List E4)} {y : Option (List E4 × Int × Int × Int)}, x = some ((m : Int), (a : Int), ck, l) → y = some (l, (m : Int), (a : Int), ck) →
    ∃ (l' : List E4) (m' a' : Nat) (ck' : Int), x = some ((m' : Int), (a' : Int), ck', l') ∧ y = some (l', (m' : Int), (a' : Int), ck') ∧ m' ≤ 40 ∧ a' ≤ s.size ∧ CkB ck' ∧ Cg l' ∧ (∃ cs, Rch s m a ck l cs m' a' ck' l') ∧ Stk s m' a' ck' l' := fun hst {x y} hx hy => ⟨l, m, a, ck, hx, hy, hm, ha, hck, hl, ⟨_, .refl⟩, hst⟩
  have hDl : (s.data.toList.drop a).length = s.size - a := by simp
  have hN := zKL 10 (s.data.toList.drop a)
  have hend := end_run ck l (m : Int) (a : Int) s (by omega) (s.size - a) FU a rfl (by omega) ha
  have hmark := mark_run2 ck l (m : Int) (a : Int) s (by omega) (e := a + fiN 10 (s.data.toList.drop a)) (by omega) _ FU a rfl (by omega) (by omega)
  have hN2 := zKL 35 ((s.data.toList.drop a).take (a + fiN 10 (s.data.toList.drop a) - a))
  have hN3 : ((s.data.toList.drop a).take (a + fiN 10 (s.data.toList.drop a) - a)).length ≤ fiN 10 (s.data.toList.drop a) := by
   rw [List.length_take]
   omega
  unfold jO jD
  rw [zP, decide_eq_true (by omega), cond_true, cond_true, zEk ha (Nat.le_refl _), hend, Option.bind_some, Option.bind_some, hmark, Option.bind_some]
  rw [show (s.extract (Int.toNat (a : Int)) (Int.toNat ((s.size : Nat) : Int))) = bl (s.data.toList.drop a) by rw [zKM, List.take_of_length_le (by omega)]]
  unfold zBu jS idxB
  rw [show ((10 : Int).toNat.toUInt8) = (10 : UInt8) from rfl, idx_fi]
  rw [zEk (by omega) (by omega), Option.bind_some, zKM]
  simp only [qA, Option.bind_some]
  cases hfi : fi 10 (s.data.toList.drop a) with
  | none =>
   have hfn : fiN 10 (s.data.toList.drop a) = s.size - a := by unfold fiN; rw [hfi]; exact hDl
   obtain ⟨r, _, hr, _⟩ := zDc (bl ((s.data.toList.drop a).take (a + fiN 35 ((s.data.toList.drop a).take (a + fiN 10 (s.data.toList.drop a) - a)) - a))) (by rw [jI, List.length_take]; omega)
   refine stop (fun c kk n l' h => ?_) ?_ ?_
   ·obtain ⟨_, ws, g1, _, _, _, g2, _⟩ := h
    rw [(zHb g1 kk g2).1] at hfi
    cases hfi
   ·rfl
   ·rw [hr, Option.bind_some, show eqI ((a + fiN 10 (s.data.toList.drop a) : Nat) : Int) (s.size : Int) = true by rw [hfn, show a + (s.size - a) = s.size by omega, zEu]]
    rfl
  | some i =>
   obtain ⟨hi1, hi2, hi3⟩ := zGo hfi
   have hfn : fiN 10 (s.data.toList.drop a) = i := by unfold fiN; rw [hfi]; rfl
   rw [hfn]
   have hle : i < s.size - a := by omega
   have e1 : w64 ((a : Int) + (i : Int)) = ((a + i : Nat) : Int) := by rw [zJ (by omega)]; omega
   have e2 : w64 (w64 ((a : Int) + (i : Int)) + 1) = ((a + i + 1 : Nat) : Int) := by rw [e1, zJ (by omega)]; omega
   have e3 : w64 (((a + i : Nat) : Int) + 1) = ((a + i + 1 : Nat) : Int) := by rw [zJ (by omega)]; omega
   simp only [e2, e3]
   rw [zP, decide_eq_false (by omega), cond_false, zEk (by omega) (by omega), Option.bind_some, zKM, show a + i + 1 - a = i + 1 by omega, hi2, show a + i - a = i by omega, eqNe (show ((a + i : Nat) : Int) ≠ (s.size : Int) by omega)]
   generalize hW : (s.data.toList.drop a).take i = W at hi2 hi3
   have hWl : W.length = i := by rw [← hW, List.length_take]; omega
   have hst : ∀ c kk n l', Stp s m a ck l c kk n l' → ∃ ws, CT c ws ∧ qD (bl (jn 32 ws)) ck = some kk ∧ W = jn 32 ws ++ 35 :: itoa kk ∧ qV l c = some (l', 0) := fun c kk n l' h => by
    obtain ⟨_, ws, g1, _, g2, _, g3, g4⟩ := h
    obtain ⟨g5, g6, _⟩ := zHb g1 kk g3
    rw [hfi] at g5
    exact ⟨ws, g1, g2, by rw [← hW, Option.some.inj g5, g6], g4⟩
   have hcut : zCD (bl (W ++ [10])) ⟨#[35]⟩ = some (bl (cut (W ++ [10]) [35]).1, bl (cut (W ++ [10]) [35]).2.1, (cut (W ++ [10]) [35]).2.2) := by
    unfold zCD
    rw [if_pos (by rw [jI]; simp; omega)]
    rfl
   rw [hcut, Option.bind_some]
   simp only [cut_fi]
   have hfi35 : fi 35 (W ++ [10]) = fi 35 W := by
    clear hfn hN hN2 hN3 hmark hcut
    generalize W = W'
    induction W' with
    | nil => rfl
    | cons b w ihw => rw [List.cons_append, zEa, zEa, ihw]
   have htk : (s.data.toList.drop a).take (a + fiN 35 W - a) = W.take (fiN 35 W) := by
    rw [← hW, List.take_take, show a + fiN 35 ((s.data.toList.drop a).take i) - a = fiN 35 ((s.data.toList.drop a).take i) by omega, Nat.min_eq_left]
    have := zKL 35 ((s.data.toList.drop a).take i)
    rw [List.length_take] at this
    omega
   rw [htk, hfi35]
   cases hj : fi 35 W with
   | none =>
    have hfn2 : fiN 35 W = W.length := by unfold fiN; rw [hj]; rfl
    rw [hfn2, List.take_length]
    obtain ⟨r, hr, _, hr2⟩ := zDc (bl (W ++ [10])) (by rw [jI]; simp; omega)
    obtain ⟨q, _, hq, hq2⟩ := zDc (bl W) (by rw [jI]; omega)
    have hr3 : r = (zC, false) := by
     rcases hr2 with h | ⟨c, ws, _, h1, h2⟩
     ·exact h
     ·exfalso
      have h3 := zDX h2
      exact (h1.cw.byte 10 (by rw [← h3]; simp)).2 rfl
    refine stop (fun c kk n l' h => ?_) ?_ ?_
    ·obtain ⟨ws, g1, _, g2, _⟩ := hst _ _ _ _ h
     rw [g2, rec_fi g1] at hj
     cases hj
    ·simp only [hr, hr3, Option.bind_some, Bool.not_false, cond_true]
    ·rw [hq, Option.bind_some]
     rcases hq2 with rfl | ⟨c, ws, rfl, h1, h2⟩
     ·rfl
     ·obtain ⟨kk, _, _, _, h3⟩ := zFH h1 hck
      have hne : bl (W ++ [10]) ≠ bl (recB ws kk) := fun e => by
       have e := zDX e
       have h4 : (35 : UInt8) ∈ W ++ [10] := by rw [e]; simp [recB]
       rw [List.mem_append] at h4
       rcases h4 with h4 | h4
       ·exact zLD hj 35 h4 rfl
       ·exact absurd h4 (by decide)
      simp only [Bool.not_true, cond_false]
      simp only [Option.bind_some, h3, eqS, decide_eq_false hne, Bool.not_false, cond_true]
   | some j =>
    obtain ⟨hj1, hj2, hj3⟩ := zGo hj
    have hfn2 : fiN 35 W = j := by unfold fiN; rw [hj]; rfl
    rw [hfn2]
    have htk2 : (W ++ [10]).take j = W.take j := by rw [List.take_append_of_le_length (by omega)]
    simp only [htk2]
    obtain ⟨r, hr, hq, hr2⟩ := zDc (bl (W.take j)) (by rw [jI, List.length_take]; omega)
    rw [hr, hq]
    have hst2 : ∀ c kk n l', Stp s m a ck l c kk n l' → r = (c, true) ∧ ∃ ws, CT c ws ∧ W.take j = jn 32 ws ∧ qD (bl (jn 32 ws)) ck = some kk ∧ W = jn 32 ws ++ 35 :: itoa kk ∧ qV l c = some (l', 0) := fun c kk n l' h => by
     obtain ⟨ws, g1, g2, g3, g4⟩ := hst _ _ _ _ h
     have g5 := hj
     rw [g3, rec_fi g1] at g5
     have g6 : W.take j = jn 32 ws := by rw [← Option.some.inj g5, g3, List.take_left]
     rw [g6, zLr g1] at hr
     exact ⟨(Option.some.inj hr).symm, ws, g1, g6, g2, g3, g4⟩
    rcases hr2 with rfl | ⟨c, ws, rfl, h1, h2⟩
    ·exact stop (fun c kk n l' h => by cases (hst2 _ _ _ _ h).1) rfl rfl
    ·obtain ⟨kk, hkk, h3, h4, h5⟩ := zFH h1 hck
     obtain ⟨q, q1, q2, q3⟩ := zH7 hl h1.good
     simp only [Option.bind_some, Bool.not_true, cond_false, h4, q1, h5, eqS]
     have hst3 : ∀ c2 kk2 n l', Stp s m a ck l c2 kk2 n l' → c2 = c ∧ kk2 = kk ∧ recB ws kk = W ++ [10] ∧ q = (l', 0) := fun c2 kk2 n l' h => by
      obtain ⟨g1, ws2, g2, g3, g4, g5, g6⟩ := hst2 _ _ _ _ h
      have g1 : c = c2 := congrArg Prod.fst g1
      subst g1
      have g7 := zDX h2
      rw [g3] at g7
      rw [g7, h3] at g4
      have g4 := Option.some.inj g4
      rw [q1] at g6
      refine ⟨rfl, g4.symm, ?_, Option.some.inj g6⟩
      rw [g5, g7, g4]
      simp [recB]
     by_cases he : bl (recB ws kk) = bl (W ++ [10])
     ·rw [decide_eq_true he, decide_eq_true he.symm]
      simp only [Bool.not_true, cond_false, q2, Option.bind_some]
      by_cases h0 : q.2 = 0
      ·rw [h0, show eqI 0 0 = true from rfl]
       simp only [Bool.not_true, cond_false]
       rw [zFY, h2, h3, Option.bind_some, zCC (by omega), jI]
       have e4 : w64 ((a : Int) + (((W ++ [10]).length : Nat) : Int)) = ((a + i + 1 : Nat) : Int) := by
        rw [zJ (by simp; omega)]
        simp
        omega
       rw [e4]
       obtain ⟨l', m', a', ck', j1, j2, j3, j4, j5, j6, ⟨cs, j7⟩, j8⟩ := ih f (m + 1) (a + i + 1) kk q.1 (by omega) (by omega) (by omega) (by omega) hkk (q3 h0)
       refine ⟨l', m', a', ck', j1, j2, j3, j4, j5, j6, ⟨c :: cs, .step (kk := kk) (n := i + 1) (l1 := q.1) ⟨by omega, ws, h1, hkk, h3, ?_, ?_, ?_⟩ j7⟩, j8⟩
       ·rw [zDX he]; simp; omega
       ·rw [zDX he, ← hi2]; exact List.take_prefix _ _
       ·rw [q1, ← h0]
      ·rw [eqNe h0]
       exact stop (fun c kk n l' h => h0 (congrArg Prod.snd (hst3 _ _ _ _ h).2.2.2)) rfl rfl
     ·rw [decide_eq_false he, decide_eq_false (fun e => he e.symm)]
      exact stop (fun c kk n l' h => he (by rw [(hst3 _ _ _ _ h).2.2.1])) rfl rfl
theorem zGf (s : ByteArray) (hs : s.size ≤ 1000000) : ∃ (l : List E4) (m a : Nat) (ck : Int), zA5 s = some (l, (m : Int), (a : Int), ck) ∧ zA4 s = some (l, (m : Int), (a : Int), ck) ∧ m ≤ 40 ∧ a ≤ s.size ∧ CkB ck ∧ Cg l ∧ (∃ cs, Rch s 0 0 0 [] cs m a ck l) ∧ Stk s m a ck l := by
 have hF : 200000000 < FU := by decide
 obtain ⟨l, m, a, ck, h1, h2, h3, h4, h5, h6, h7, h8⟩ := replay_rel s hs 40 FU 0 0 0 [] rfl (by omega) (by omega) (by omega) ⟨by omega, by omega⟩ cg_nil
 have h1 : jO s FU 0 0 0 [] = _ := h1
 have h2 : jD s FU [] 0 0 0 = _ := h2
 refine ⟨l, m, a, ck, ?_, ?_, h3, h4, h5, h6, h7, h8⟩
 ·unfold zA5
  rw [h1]
  rfl
 ·unfold zA4
  rw [h2]
  rfl
theorem Stp.det {s : ByteArray} {m a : Nat} {ck : Int} {l : List E4} {c c2 : Cmd} {kk kk2 : Int} {n n2 : Nat} {l1 l2 : List E4} (h : Stp s m a ck l c kk n l1) (h2 : Stp s m a ck l c2 kk2 n2 l2) : c2 = c ∧ kk2 = kk ∧ n2 = n ∧ l2 = l1 := by
 obtain ⟨_, ws, g1, _, g2, g3, g4, g5⟩ := h
 obtain ⟨_, vs, k1, _, k2, k3, k4, k5⟩ := h2
 obtain ⟨a1, a2, a3⟩ := zHb g1 kk g4
 obtain ⟨b1, b2, b3⟩ := zHb k1 kk2 k4
 rw [a1] at b1
 have e1 := Option.some.inj b1
 rw [← e1, a2] at b2
 rw [← b2, a3] at b3
 have e2 := Option.some.inj b3
 have e3 : jn 32 ws = jn 32 vs := by
  have := congrArg (List.take (jn 32 ws).length) b2
  rw [List.take_left, e2, List.take_left] at this
  exact this
 have e4 : qX (bl (jn 32 ws)) = some (c2, true) := by rw [e3]; exact zLr k1
 rw [zLr g1] at e4
 have e5 : c = c2 := congrArg Prod.fst (Option.some.inj e4)
 subst e5
 rw [← e3, g2] at k2
 have e6 := Option.some.inj k2
 subst e6
 rw [g5] at k5
 refine ⟨rfl, rfl, ?_, (congrArg Prod.fst (Option.some.inj k5)).symm⟩
 rw [k3, g3, recB, recB, e3]
theorem Rch.trans {s : ByteArray} {m a : Nat} {ck : Int} {l : List E4} {cs : List Cmd} {m1 a1 : Nat} {ck1 : Int} {l1 : List E4} (h : Rch s m a ck l cs m1 a1 ck1 l1) : ∀ {ds m2 a2 ck2 l2}, Rch s m1 a1 ck1 l1 ds m2 a2 ck2 l2 → Rch s m a ck l (cs ++ ds) m2 a2 ck2 l2 := by
 induction h with
 | refl => exact fun h => h
 | step h _ ih => exact fun h2 => .step h (ih h2)
theorem Rch.max {s : ByteArray} {m a : Nat} {ck : Int} {l : List E4} {cs : List Cmd} {m1 a1 : Nat} {ck1 : Int} {l1 : List E4} (h : Rch s m a ck l cs m1 a1 ck1 l1) : ∀ {ds m2 a2 ck2 l2}, Rch s m a ck l ds m2 a2 ck2 l2 → Stk s m2 a2 ck2 l2 → ∃ es, ds = cs ++ es ∧ Rch s m1 a1 ck1 l1 es m2 a2 ck2 l2 := by
 induction h with
 | refl => exact fun h _ => ⟨_, rfl, h⟩
 | step h t ih =>
  intro ds m2 a2 ck2 l2 h2 hs
  cases h2 with
  | refl => exact absurd h (hs _ _ _ _)
  | step k u =>
   obtain ⟨e1, e2, e3, e4⟩ := h.det k
   subst e1 e2 e3 e4
   obtain ⟨es, f1, f2⟩ := ih u hs
   exact ⟨es, by rw [f1, List.cons_append], f2⟩
theorem Rch.uniq {s : ByteArray} {m a : Nat} {ck : Int} {l : List E4} {cs ds : List Cmd} {m1 a1 m2 a2 : Nat} {ck1 ck2 : Int} {l1 l2 : List E4} (h : Rch s m a ck l cs m1 a1 ck1 l1) (hs : Stk s m1 a1 ck1 l1) (h2 : Rch s m a ck l ds m2 a2 ck2 l2) (hs2 : Stk s m2 a2 ck2 l2) : ds = cs ∧ m2 = m1 ∧ a2 = a1 ∧ ck2 = ck1 ∧ l2 = l1 := by
 obtain ⟨es, e1, e2⟩ := h.max h2 hs2
 cases e2 with
 | refl => exact ⟨by rw [e1, List.append_nil], rfl, rfl, rfl, rfl⟩
 | step k u => exact absurd k (hs _ _ _ _)
theorem replay_of {s : ByteArray} (hs : s.size ≤ 1000000) {cs : List Cmd} {m a : Nat} {ck : Int} {l : List E4} (h : Rch s 0 0 0 [] cs m a ck l) (hk : Stk s m a ck l) : zA5 s = some (l, (m : Int), (a : Int), ck) := by
 obtain ⟨l', m', a', ck', h1, _, _, _, _, _, ⟨ds, h2⟩, h3⟩ := zGf s hs
 obtain ⟨_, rfl, rfl, rfl, rfl⟩ := h.uniq hk h2 h3
 exact h1
theorem Stp.mono {s t : ByteArray} {m a : Nat} {ck : Int} {l : List E4} {c : Cmd} {kk : Int} {n : Nat} {l1 : List E4} (h : Stp s m a ck l c kk n l1) (hp : s.data.toList.drop a <+: t.data.toList.drop a) : Stp t m a ck l c kk n l1 := by
 obtain ⟨g0, ws, g1, g2, g3, g4, g5, g6⟩ := h
 exact ⟨g0, ws, g1, g2, g3, g4, g5.trans hp, g6⟩
theorem pre_drop {x y : List UInt8} (h : x <+: y) (a : Nat) : x.drop a <+: y.drop a := by
 obtain ⟨z, rfl⟩ := h
 rw [List.drop_append]
 exact List.prefix_append _ _
theorem Rch.mono {s t : ByteArray} (hp : s.data.toList <+: t.data.toList) {m a : Nat} {ck : Int} {l : List E4} {cs : List Cmd} {m1 a1 : Nat} {ck1 : Int} {l1 : List E4} (h : Rch s m a ck l cs m1 a1 ck1 l1) : Rch t m a ck l cs m1 a1 ck1 l1 := by
 induction h with
 | refl => exact .refl
 | step h _ ih => exact .step (h.mono (pre_drop hp _)) ih
theorem rec_len {ws : List (List UInt8)} {kk : Int} : (recB ws kk).length = (jn 32 ws).length + 2 + (itoa kk).length := by simp [recB]; omega
theorem Rch.len {s : ByteArray} {m a : Nat} {ck : Int} {l : List E4} {cs : List Cmd} {m1 a1 : Nat} {ck1 : Int} {l1 : List E4} (h : Rch s m a ck l cs m1 a1 ck1 l1) : m1 = m + cs.length ∧ a ≤ a1 := by
 induction h with
 | refl => exact ⟨by simp, Nat.le_refl _⟩
 | step h _ ih =>
  obtain ⟨h1, h2⟩ := ih
  exact ⟨by rw [h1, List.length_cons]; omega, by omega⟩
theorem stk_end {s : ByteArray} {m a : Nat} {ck : Int} {l : List E4} (h : s.size ≤ a) : Stk s m a ck l := fun c kk n l' hs => by
 obtain ⟨_, ws, g1, _, _, _, g4, _⟩ := hs
 rw [List.drop_of_length_le (by simpa using h)] at g4
 have := g4.length_le
 simp [recB] at this
theorem zKP {c : Cmd} {ws : List (List UInt8)} (h : CT c ws) {kk : Int} (hk : CkB kk) : (recB ws kk).length ≤ 52 := by
 have h1 := h.cw.sz
 have h2 : (itoa kk).length ≤ 8 := zEQ (by have := hk.1; omega) (by have := hk.2; omega)
 rw [rec_len]
 omega
theorem cmd_size {c : Cmd} (h : cmdB c = true) : c.2.1.size ≤ 8 ∧ c.2.2.1.size ≤ 8 ∧ c.2.2.2.1.size ≤ 8 := by
 have e0 : emp.size ≤ 8 := by decide
 obtain ⟨nm, hn, hc⟩ := zKQ h
 have h1 := (zEI hn).2.1
 rcases hc with ⟨f, _, rfl | rfl⟩ | rfl | ⟨a, b, ha, hb, rfl⟩ | ⟨a, ha, rfl⟩
 ·exact ⟨h1, e0, e0⟩
 ·exact ⟨h1, e0, e0⟩
 ·exact ⟨h1, e0, e0⟩
 ·exact ⟨h1, (zEI ha).2.1, (zEI hb).2.1⟩
 ·exact ⟨h1, (zEI ha).2.1, e0⟩
inductive JT : Int → List Cmd → List UInt8 → Int → Prop
  | nil {ck : Int} : JT ck [] [] ck
  | cons {ck : Int} {c : Cmd} {ws : List (List UInt8)} {kk : Int} {cs : List Cmd} {t : List UInt8} {ck' : Int} (h : CT c ws) (hk : CkB kk) (hc : qD (bl (jn 32 ws)) ck = some kk) (ht : JT kk cs t ck') : JT ck (c :: cs) (recB ws kk ++ t) ck'
theorem jt_ex : ∀ (cs : List Cmd) (ck : Int), (∀ c ∈ cs, cmdB c = true) → CkB ck → ∃ t ck', JT ck cs t ck' ∧ CkB ck' ∧ t.length ≤ 52 * cs.length
 | [], ck, _, hk => ⟨[], ck, .nil, hk, by simp⟩
 | c :: cs, ck, h, hk => by
  obtain ⟨ws, hw⟩ := ct_of (h c (by simp))
  obtain ⟨kk, g1, g2, _, _⟩ := zFH hw hk
  obtain ⟨t, ck', i1, i2, i3⟩ := jt_ex cs kk (fun x hx => h x (List.mem_cons_of_mem _ hx)) g1
  refine ⟨_, ck', .cons hw g1 g2 i1, i2, ?_⟩
  have := zKP hw g1
  rw [List.length_append, List.length_cons]
  omega
theorem rm47_of {n : Nat} (h : n ≤ 100000000) : rm47 n = some () := by
 unfold rm47
 rw [show Nat.ble n 140737488355328 = true from Nat.ble_eq_true_of_le (by omega)]
 rfl
theorem jti_run (l : List Cmd) (hl : l.length ≤ 100000) : ∀ (cs : List Cmd) (n k : Nat) (ck ck' : Int) (acc t : List UInt8), l.drop k = cs → cs.length < n → k ≤ l.length → CkB ck → JT ck cs t ck' → acc.length ≤ 52 * k → zAD l n (k : Int) ck acc = some (.inl (acc ++ t))
 | [], n, k, ck, ck', acc, t, hd, hn, hk, hck, h, ha => by
  cases h
  obtain ⟨n, rfl⟩ : ∃ m, n = m + 1 := ⟨n - 1, by simp at hn; omega⟩
  have : l.length ≤ k := by simpa using hd
  unfold zAD
  rw [zP, decide_eq_false (by omega), cond_false, List.append_nil]
 | c :: cs, n, k, ck, ck', acc, t, hd, hn, hk, hck, h, ha => by
  cases h with
  | cons hw hkk hc ht =>
   rename_i ws kk t
   obtain ⟨n, rfl⟩ : ∃ m, n = m + 1 := ⟨n - 1, by simp at hn; omega⟩
   have hkl : k < l.length := by
    rcases Nat.lt_or_ge k l.length with h | h
    ·exact h
    ·rw [List.drop_of_length_le h] at hd; cases hd
   have hg : l[k]'hkl = c := by
    rw [List.drop_eq_getElem_cons hkl] at hd
    exact (List.cons.inj hd).1
   have hd2 : l.drop (k + 1) = cs := by
    rw [List.drop_eq_getElem_cons hkl] at hd
    exact (List.cons.inj hd).2
   obtain ⟨k2, g1, g2, g3, g4⟩ := zFH hw hck
   rw [hc] at g2
   have e := Option.some.inj g2
   subst e
   have hsz := zKP hw hkk
   have hic : zAO c = some true := by
    have hcs := cmd_size hw.good
    rw [(zCd c (by omega) (by omega) (by omega)).1, hw.good]
   unfold zAD
   rw [zP, decide_eq_true (by omega), cond_true, zDV hkl, hg, Option.bind_some, hic, Option.bind_some, Bool.not_true, cond_false, g3, Option.bind_some, jI, rm47_of (by omega), Option.bind_some, zCC (by omega), zBX]
   rw [jti_run l hl cs n (k + 1) kk ck' (acc ++ recB ws kk) t hd2 (by simp at hn; omega) (by omega) hkk ht (by rw [List.length_append]; omega), List.append_assoc]
theorem jti_val {l : List Cmd} (hl : l.length ≤ 40) {t : List UInt8} {ck' : Int} (h : JT 0 l t ck') : zCQ l = some (bl t, true) := by
 have hF : 200000000 < FU := by decide
 have h1 := jti_run l (by omega) l FU 0 0 ck' [] t rfl (by omega) (by omega) ⟨by omega, by omega⟩ h (by simp)
 have h1 : zAD l FU 0 0 [] = _ := h1
 unfold zCQ
 rw [zP, decide_eq_false (by omega), cond_false, h1]
 rfl
theorem jts_run (l : List Cmd) (hl : l.length ≤ 100000) : ∀ (cs : List Cmd) (n k : Nat) (ck ck' : Int) (acc t : List UInt8), l.drop k = cs → cs.length < n → k ≤ l.length → CkB ck → JT ck cs t ck' → acc.length ≤ 52 * k → zAQ l n (bl acc) ck (k : Int) = some (bl (acc ++ t))
 | [], n, k, ck, ck', acc, t, hd, hn, hk, hck, h, ha => by
  cases h
  obtain ⟨n, rfl⟩ : ∃ m, n = m + 1 := ⟨n - 1, by simp at hn; omega⟩
  have : l.length ≤ k := by simpa using hd
  unfold zAQ
  rw [zP, decide_eq_false (by omega), cond_false, List.append_nil]
 | c :: cs, n, k, ck, ck', acc, t, hd, hn, hk, hck, h, ha => by
  cases h with
  | cons hw hkk hc ht =>
   rename_i ws kk t
   obtain ⟨n, rfl⟩ : ∃ m, n = m + 1 := ⟨n - 1, by simp at hn; omega⟩
   have hkl : k < l.length := by
    rcases Nat.lt_or_ge k l.length with h | h
    ·exact h
    ·rw [List.drop_of_length_le h] at hd; cases hd
   have hg : l[k]'hkl = c := by
    rw [List.drop_eq_getElem_cons hkl] at hd
    exact (List.cons.inj hd).1
   have hd2 : l.drop (k + 1) = cs := by
    rw [List.drop_eq_getElem_cons hkl] at hd
    exact (List.cons.inj hd).2
   obtain ⟨k2, g1, g2, g3, g4⟩ := zFH hw hck
   have g5 := g2
   rw [hc] at g2
   have e := Option.some.inj g2
   subst e
   have hsz := zKP hw hkk
   unfold zAQ
   rw [zP, decide_eq_true (by omega), cond_true, zDV hkl, hg, Option.bind_some, g4, Option.bind_some, zCu (by omega), Option.bind_some, hw.s, Option.bind_some, zFY, g5, Option.bind_some, qA, zCC (by omega), zBW]
   rw [jts_run l hl cs n (k + 1) kk ck' (acc ++ recB ws kk) t hd2 (by simp at hn; omega) (by omega) hkk ht (by rw [List.length_append]; omega), List.append_assoc]
theorem jts_val {l : List Cmd} (hl : l.length ≤ 100000) {t : List UInt8} {ck' : Int} (h : JT 0 l t ck') : zCo l = some (bl t) := by
 have hF : 200000000 < FU := by decide
 have h1 := jts_run l hl l FU 0 0 ck' [] t rfl (by omega) (by omega) ⟨by omega, by omega⟩ h (by simp)
 have h1 : zAQ l FU ((⟨#[]⟩ : ByteArray)) 0 0 = _ := h1
 unfold zCo
 rw [h1]
 rfl
def addC (e : E4) : Cmd := (1, e.1, ByteArray.empty, ByteArray.empty, e.2)
theorem addC_good {e : E4} (h1 : nmB e.1 = true) (h2 : cls e.2 = true) : cmdB (addC e) = true := by
 have e : ByteArray.empty = emp := rfl
 unfold cmdB addC
 simp [h1, h2, e]
theorem cgs {l : List E4} (h : Cg l) : ∀ c ∈ l.map addC, cmdB c = true := by
 intro c hc
 obtain ⟨e, he, rfl⟩ := List.mem_map.1 hc
 exact addC_good (h.good e he).1 (h.good e he).2
theorem cji_run (y : List E4 × Int × Int × Bool) (hl : y.1.length ≤ 1000) : ∀ (m n k : Nat) (acc : List Cmd), y.1.length - k = m → m < n → k ≤ y.1.length → acc.length = k → jH y n (k : Int) acc = some (acc ++ (y.1.drop k).map addC) := by
 intro m
 induction m with
 | zero =>
  intro n k acc hm hn hk ha
  obtain ⟨n, rfl⟩ : ∃ m, n = m + 1 := ⟨n - 1, by omega⟩
  unfold jH
  rw [zP, decide_eq_false (by omega), cond_false, List.drop_of_length_le (by omega), List.map_nil, List.append_nil]
 | succ m ih =>
  intro n k acc hm hn hk ha
  obtain ⟨n, rfl⟩ : ∃ m, n = m + 1 := ⟨n - 1, by omega⟩
  have hkl : k < y.1.length := by omega
  unfold jH
  rw [zP, decide_eq_true (by omega), cond_true, zDV hkl, Option.bind_some, Option.bind_some, zCA (by simp; omega), Option.bind_some, Option.bind_some, qA, zCC (by omega)]
  rw [ih n (k + 1) _ (by omega) (by omega) (by omega) (by simp; omega), List.drop_eq_getElem_cons hkl, List.map_cons, List.append_assoc]
  rfl
theorem cj_impl (s : ByteArray) (hs : s.size ≤ 4000) : ∃ (l : List E4) (m a : Nat) (ck : Int) (t : List UInt8) (ck' : Int), zA5 s = some (l, (m : Int), (a : Int), ck) ∧ Cg l ∧ JT 0 (l.map addC) t ck' ∧ t.length ≤ 52 * l.length ∧ zB0 s = some (bl t, true) := by
 have hF : 200000000 < FU := by decide
 obtain ⟨l, m, a, ck, h1, h2, h3, h4, h5, h6⟩ := replay_both s (by omega)
 obtain ⟨t, ck', g1, g2, g3⟩ := jt_ex (l.map addC) 0 (cgs h6) ⟨by omega, by omega⟩
 rw [List.length_map] at g3
 have hl := h6.len
 refine ⟨l, m, a, ck, t, ck', h1, h6, g1, g3, ?_⟩
 have e1 := cji_run (l, (m : Int), (a : Int), true) (by simp only; omega) l.length FU 0 [] rfl (by omega) (by omega) rfl
 have e1 : jH (l, (m : Int), (a : Int), true) FU 0 [] = some (l.map addC) := e1
 unfold zB0 qM
 rw [zP, decide_eq_false (by omega), cond_false, h1]
 simp only [Option.bind_some, Bool.not_true, cond_false, e1, jti_val (l := l.map addC) (by rw [List.length_map]; omega) g1]
end Go.Proofs.YtfmjfofocklgpaaGreatDoor
namespace Go.Proofs.YtfmjfofocklgpaaGreatDoor
def upz : Nat → Int → List Int
 | 0, _ => []
 | f + 1, y => y :: upz f (y + 1)
theorem mem_upz : ∀ (f : Nat) (y z : Int), z ∈ upz f y ↔ y ≤ z ∧ z < y + f
 | 0, y, z => by simp [upz]
 | f + 1, y, z => by
  rw [upz, List.mem_cons, mem_upz f (y + 1) z]
  push_cast
  omega
theorem upz_lt : ∀ (f : Nat) (y : Int), (upz f y).Pairwise (· < ·)
 | 0, y => List.Pairwise.nil
 | f + 1, y => by
  rw [upz, List.pairwise_cons]
  refine ⟨fun z hz => ?_, upz_lt f (y + 1)⟩
  have := (mem_upz f (y + 1) z).1 hz
  omega
theorem upz_len : ∀ (f : Nat) (y : Int), (upz f y).length = f
 | 0, y => rfl
 | f + 1, y => by rw [upz, List.length_cons, upz_len f (y + 1)]
theorem sred_is {a b c : Int} (ha : 1 ≤ a) (haM : a ≤ 1000000) : zCx (a, b, c) = some (decide (zCg a b c)) := by rw [dsc_is]; exact zHa ha haM
def cfR (d a b : Int) : Int × Int × Int := (a, b, Int.tdiv (b * b - d) (4 * a))
def okR (d : Int) (f : Int × Int × Int) : Bool := eqI (f.2.1 * f.2.1 - 4 * f.1 * f.2.2) d && decide (zCg f.1 f.2.1 f.2.2)
def rowR (d a : Int) (n : Nat) (b : Int) : List (Int × Int × Int) := ((upz n b).map (cfR d a)).filter (okR d)
theorem zL1 {d a b : Int} {n : Nat} {f : Int × Int × Int} (h : f ∈ rowR d a n b) : f.1 = a := by
 unfold rowR at h
 obtain ⟨b', _, hb⟩ := List.mem_map.1 (List.mem_filter.1 h).1
 rw [← hb]; rfl
theorem tdiv_le {x m : Int} (hm : 1 ≤ m) : (Int.tdiv x m).natAbs ≤ x.natAbs := by
 rw [Int.natAbs_tdiv]
 exact Nat.div_le_self _ _
theorem zJ2 {d a : Int} (ha1 : 1 ≤ a) (ha : a ≤ 1000) (hd1 : -2000 ≤ d) (hd2 : d ≤ -3) : ∀ (m fu : Nat) (b : Int) (acc : List (Int × Int × Int)), b + m = a + 1 → -1000 ≤ b → m < fu → acc.length + m ≤ 100000000 →
  zAz a d fu b acc = some (acc ++ rowR d a m b)
 | m, 0, b, acc, _, _, h, _ => by omega
 | 0, fu + 1, b, acc, hb, hb0, hf, hl => by
  rw [zAz, q9, decide_eq_false (by omega), cond_false]
  simp [rowR, upz]
 | m + 1, fu + 1, b, acc, hb, hb0, hf, hl => by
  rw [zAz, q9, decide_eq_true (by omega), cond_true]
  have b1 := q7 (x := b) (y := b) (A := 1000) (B := 1000) (by omega) (by omega)
  have e4 : w64 (4 * a) = 4 * a := zJ (by omega)
  have e5 : w64 (w64 (b * b) - d) = b * b - d := by rw [zAX (n := b * b) (by omega), zAX (by omega)]
  have q1 := tdiv_le (x := b * b - d) (m := 4 * a) (by omega)
  generalize hc : Int.tdiv (b * b - d) (4 * a) = c at q1
  have b2 := q7 (x := 4 * a) (y := c) (A := 4000) (B := 1002000) (by omega) (by omega)
  have ed : zAM (a, b, c) = some (b * b - 4 * a * c) := by
   simp only [zAM, qA]
   rw [zAX (n := b * b) (by omega), e4, zAX (n := 4 * a * c) (by omega), zAX (by omega)]
  have ew : w64 (b + 1) = b + 1 := zJ (by omega)
  have hcf : cfR d a b = (a, b, c) := by unfold cfR; rw [hc]
  rw [e4, nzOk (by omega), e5, hc, zAX (n := c) (by omega)]
  simp only [Option.bind_some, qA, ed, sred_is ha1 (show a ≤ 1000000 by omega), ew]
  have hrow : rowR d a (m + 1) b = (if okR d (a, b, c) then [(a, b, c)] else []) ++ rowR d a m (b + 1) := by
   unfold rowR
   rw [upz, List.map_cons, List.filter_cons, hcf]
   cases okR d (a, b, c) <;> simp
  rw [hrow]
  unfold okR
  dsimp only
  cases h1 : eqI (b * b - 4 * a * c) d with
  | true =>
   rw [cond_true]
   simp only [Option.bind_some, Bool.true_and]
   cases h2 : decide (zCg a b c) with
   | true =>
    rw [cond_true, zCA (by simp; omega)]
    simp only [Option.bind_some]
    rw [zJ2 ha1 ha hd1 hd2 m fu (b + 1) _ (by omega) (by omega) (by omega) (by simp; omega)]
    simp
   | false =>
    rw [cond_false]
    rw [zJ2 ha1 ha hd1 hd2 m fu (b + 1) _ (by omega) (by omega) (by omega) (by omega)]
    simp
  | false =>
   rw [cond_false]
   simp only [Option.bind_some, Bool.false_and, cond_false]
   rw [zJ2 ha1 ha hd1 hd2 m fu (b + 1) _ (by omega) (by omega) (by omega) (by omega)]
   simp
theorem zJK {a b : Int} (h0 : 0 ≤ a) (h : a ≤ b) : a * a ≤ b * b := Int.mul_le_mul h h h0 (by omega)
theorem allR_run {d : Int} (hd1 : -2000 ≤ d) (hd2 : d ≤ -3) : ∀ (m fu : Nat) (a : Int) (acc : List (Int × Int × Int)), 1 ≤ a → a + m = 27 → m < fu → (acc.length : Int) ≤ 1000 * a →
  ∃ L, zCU d fu a acc = some (acc ++ L) ∧ (L.length : Int) + 1000 * a ≤ 28000 ∧ (∀ f, f ∈ L ↔ a ≤ f.1 ∧ 3 * f.1 * f.1 ≤ -d ∧ f ∈ rowR d f.1 (2 * f.1).toNat (1 - f.1)) ∧ ∃ asq : List Int, asq.Pairwise (· < ·) ∧ (∀ x ∈ asq, a ≤ x ∧ x ≤ 26) ∧ L = asq.flatMap fun a => rowR d a (2 * a).toNat (1 - a)
 | m, 0, a, acc, _, _, h, _ => by omega
 | m, fu + 1, a, acc, ha, hm, hf, hl => by
  have b1 := q7 (x := 3 * a) (y := a) (A := 81) (B := 27) (by omega) (by omega)
  have e1 : w64 (w64 (3 * a) * a) = 3 * a * a := by rw [zJ (n := 3 * a) (by omega), zAX (by omega)]
  have e2 : w64 (0 - d) = -d := by rw [zJ (by omega)]; omega
  rw [zCU, e1, e2, q9]
  by_cases h : 3 * a * a ≤ -d
  ·have ha2 : a ≤ 26 := by
    rcases Int.lt_or_le 26 a with h2 | h2
    ·have h3 := zJK (a := 27) (b := a) (by omega) (by omega)
     have e : 3 * a * a = 3 * (a * a) := by grind
     omega
    ·exact h2
   obtain ⟨m', rfl⟩ : ∃ m', m = m' + 1 := ⟨m - 1, by omega⟩
   have hF := FUge
   rw [decide_eq_true h, cond_true, zJ (n := 1 - a) (by omega), zJ (n := a + 1) (by omega)]
   simp only [qA]
   rw [zJ2 ha (by omega) hd1 hd2 (2 * a).toNat FU (1 - a) acc (by omega) (by omega) (by omega) (by omega)]
   simp only [Option.bind_some]
   have hrl : (rowR d a (2 * a).toNat (1 - a)).length ≤ (2 * a).toNat := by
    unfold rowR
    refine Nat.le_trans (List.length_filter_le _ _) ?_
    rw [List.length_map, upz_len]
    exact Nat.le_refl _
   obtain ⟨L, k1, k2, k3, asq, k4, k5, k6⟩ := allR_run hd1 hd2 m' fu (a + 1) (acc ++ rowR d a (2 * a).toNat (1 - a)) (by omega) (by omega) (by omega) (by rw [List.length_append]; omega)
   refine ⟨rowR d a (2 * a).toNat (1 - a) ++ L, by rw [k1, List.append_assoc], by rw [List.length_append]; omega, fun f => ?_, a :: asq, ?_, ?_, ?_⟩
   ·rw [List.mem_append, k3]
    constructor
    ·rintro (h1 | ⟨h1, h2, h3⟩)
     ·rw [zL1 h1]
      exact ⟨Int.le_refl _, h, h1⟩
     ·exact ⟨by omega, h2, h3⟩
    ·rintro ⟨h1, h2, h3⟩
     by_cases hfa : f.1 = a
     ·rw [hfa] at h3; exact .inl h3
     ·exact .inr ⟨by omega, h2, h3⟩
   ·rw [List.pairwise_cons]
    exact ⟨fun x hx => by have := k5 x hx; omega, k4⟩
   ·intro x hx
    rcases List.mem_cons.1 hx with e | e
    ·omega
    ·have := k5 x e; omega
   ·rw [List.flatMap_cons, k6]
  ·rw [decide_eq_false h, cond_false]
   refine ⟨[], by simp, by simp; omega, fun f => ?_, [], List.Pairwise.nil, fun x hx => (by cases hx), rfl⟩
   refine ⟨fun hf => (by cases hf), fun hf => ?_⟩
   obtain ⟨h1, h2, h3⟩ := hf
   exfalso
   have h4 := zJK (a := a) (b := f.1) (by omega) h1
   have e3 : 3 * a * a = 3 * (a * a) := by grind
   have e4 : 3 * f.1 * f.1 = 3 * (f.1 * f.1) := by grind
   omega
theorem tgcd_run : ∀ (k n : Nat) (a b : Int), 0 ≤ a → 0 ≤ b → b.natAbs < 2 ^ k → 2 * k + 1 ≤ n → ∃ r, zA3 n a b = some r ∧ r.natAbs = Int.gcd a b ∧ 0 ≤ r
 | k, 0, a, b, _, _, _, hn => by omega
 | 0, n + 1, a, b, ha, hb0, hb, hn => by
  have : b = 0 := by simp at hb; omega
  subst this
  unfold zA3
  rw [zDN]
  exact ⟨a, rfl, by simp, ha⟩
 | k + 1, n + 1, a, b, ha, hb0, hb, hn => by
  unfold zA3
  by_cases h0 : b = 0
  ·subst h0
   rw [zDN]
   exact ⟨a, rfl, by simp, ha⟩
  ·rw [zDn h0, zFI h0]
   simp only [Bool.not_false, cond_true, Option.bind_some, qA]
   rw [← zIP a b]
   match n, hn with
   | n + 1, hn =>
    unfold zA3
    by_cases h1 : a.tmod b = 0
    ·rw [h1, zDN]
     exact ⟨b, rfl, by simp, hb0⟩
    ·rw [zDn h1, zFI h1]
     simp only [Bool.not_false, cond_true, Option.bind_some, qA]
     rw [← zIP b (a.tmod b)]
     refine tgcd_run k n _ _ (Int.tmod_nonneg _ ha) (Int.tmod_nonneg _ hb0) ?_ (by omega)
     rw [Int.natAbs_tmod]
     have h2 : (a.tmod b).natAbs < b.natAbs := by rw [Int.natAbs_tmod]; exact Nat.mod_lt _ (by omega)
     exact gcd_two k (by omega) h2 hb
theorem tgcd_val {a b : Int} (ha : a.natAbs ≤ 9223372036854775806) (hb : b.natAbs ≤ 9223372036854775806) : zAv a b = some (Int.gcd a b : Int) := by
 obtain ⟨r, h1, h2, h3⟩ := tgcd_run 64 FU (a.natAbs : Int) (b.natAbs : Int) (by omega) (by omega) (by omega) (FU_succ 129 (by decide))
 rw [zIa] at h2
 simp only [zAv, zJM ha, zJM hb, Option.bind_some, h1]
 congr 1
 omega
theorem tcontent_val {a b c : Int} (ha : inN a = true) (hb : inN b = true) (hc : inN c = true) : zA9 (a, b, c) = some (Int.gcd a (Int.gcd b c) : Int) := by
 rw [zEJ] at ha hb hc
 have h := gcd_le (a := a) (b := b) (M := 1000000) (by omega) (by omega)
 simp only [zA9, tgcd_val (a := a) (b := b) (by omega) (by omega), Option.bind_some]
 rw [tgcd_val (by omega) (by omega), Option.bind_some]
 congr 2
 unfold Int.gcd
 simp [Nat.gcd_assoc]
theorem zH9 {l : List (Int × Int × Int)} (hl : l.length ≤ 1000000) (hb : ∀ f ∈ l, inN f.1 = true ∧ inN f.2.1 = true ∧ inN f.2.2 = true) : ∀ (fu k : Nat) (acc : List (Int × Int × Int)), k ≤ l.length → l.length - k < fu → acc.length ≤ k →
  zB4 l fu (k : Int) acc = some (acc ++ (l.drop k).filter fun f => eqI (Int.gcd f.1 (Int.gcd f.2.1 f.2.2) : Int) 1)
 | 0, k, acc, h0, h1, h2 => by omega
 | fu + 1, k, acc, h0, h1, h2 => by
  rw [zB4]
  rw [zP]
  by_cases hk : k < l.length
  ·obtain ⟨c1, c2, c3⟩ := hb (l[k]) (List.getElem_mem hk)
   have hcon : zA9 l[k] = some (Int.gcd l[k].1 (Int.gcd l[k].2.1 l[k].2.2) : Int) := tcontent_val c1 c2 c3
   rw [decide_eq_true (by omega), cond_true, zDV hk, List.drop_eq_getElem_cons hk, List.filter_cons]
   simp only [Option.bind_some, hcon, qA, zCC (show k < 1000000000 by omega)]
   cases eqI (Int.gcd l[k].1 (Int.gcd l[k].2.1 l[k].2.2) : Int) 1 with
   | true =>
    rw [cond_true, zCA (by simp; omega), if_pos rfl]
    simp only [Option.bind_some]
    rw [zH9 hl hb fu (k + 1) _ (by omega) (by omega) (by simp; omega)]
    simp
   | false =>
    rw [cond_false, if_neg (by simp)]
    exact zH9 hl hb fu (k + 1) acc (by omega) (by omega) (by omega)
  ·rw [decide_eq_false (by omega), cond_false, List.drop_eq_nil_of_le (by omega)]
   simp
def PrR (d : Int) (f : Int × Int × Int) : Prop := 1 ≤ f.1 ∧ zCg f.1 f.2.1 f.2.2 ∧ f.2.1 * f.2.1 - 4 * f.1 * f.2.2 = d ∧ Int.gcd f.1 (Int.gcd f.2.1 f.2.2) = 1
theorem red_sq {a b c d : Int} (ha : 1 ≤ a) (h : zCg a b c) (hd : b * b - 4 * a * c = d) : 3 * a * a ≤ -d := by
 have h1 : b * b ≤ a * a := by
  obtain ⟨⟨h2, h3⟩, _⟩ := h
  rcases Int.le_total 0 b with h4 | h4
  ·exact zJK h4 h3
  ·have := zJK (a := -b) (b := a) (by omega) (by omega)
   have e : (-b) * (-b) = b * b := by grind
   omega
 have h5 : a ≤ c := by
  obtain ⟨_, h6⟩ := h
  omega
 have h7 : 4 * a * a ≤ 4 * a * c := Int.mul_le_mul_of_nonneg_left h5 (by omega)
 have e : 4 * a * a = 4 * (a * a) := by grind
 have e2 : 3 * a * a = 3 * (a * a) := by grind
 omega
theorem row_mem {d : Int} {f : Int × Int × Int} (hd1 : -2000 ≤ d) (hd2 : d ≤ -3) : (1 ≤ f.1 ∧ 3 * f.1 * f.1 ≤ -d ∧ f ∈ rowR d f.1 (2 * f.1).toNat (1 - f.1)) ↔ (1 ≤ f.1 ∧ zCg f.1 f.2.1 f.2.2 ∧ f.2.1 * f.2.1 - 4 * f.1 * f.2.2 = d) := by
 obtain ⟨a, b, c⟩ := f
 unfold rowR
 rw [List.mem_filter, List.mem_map]
 constructor
 ·rintro ⟨h1, h2, ⟨b', h3, h4⟩, h5⟩
  unfold okR at h5
  rw [Bool.and_eq_true, decide_eq_true_eq, zBN, beq_iff_eq] at h5
  exact ⟨h1, h5.2, h5.1⟩
 ·rintro ⟨h1, h2, h3⟩
  have h1' : 1 ≤ a := h1
  have h2' : zCg a b c := h2
  have h3' : b * b - 4 * a * c = d := h3
  refine ⟨h1, red_sq h1' h2' h3', ⟨b, (mem_upz _ _ _).2 ⟨?_, ?_⟩, ?_⟩, ?_⟩
  ·obtain ⟨⟨h4, h5⟩, _⟩ := h2'
   show 1 - a ≤ b
   omega
  ·obtain ⟨⟨h4, h5⟩, _⟩ := h2'
   show b < 1 - a + ((2 * a).toNat : Int)
   omega
  ·unfold cfR
   have e : b * b - d = 4 * a * c := by omega
   show (a, b, Int.tdiv (b * b - d) (4 * a)) = (a, b, c)
   rw [e, Int.mul_tdiv_cancel_left _ (by omega)]
  ·unfold okR
   rw [Bool.and_eq_true, decide_eq_true_eq, zBN, beq_iff_eq]
   exact ⟨h3, h2⟩
theorem relist_val {d : Int} (hd1 : -2000 ≤ d) (hd2 : d ≤ -3) : ∃ L, zDw d = some L ∧ L.length ≤ 27000 ∧ (∀ f, f ∈ L ↔ PrR d f) ∧ L.Nodup := by
 have hF := FUge
 obtain ⟨L, k1, k2, k3, asq, k4, k5, k6⟩ := allR_run hd1 hd2 26 FU 1 [] (by omega) (by omega) (by omega) (by simp)
 rw [List.nil_append] at k1
 have hLl : L.length ≤ 27000 := by omega
 have hmem : ∀ f ∈ L, 1 ≤ f.1 ∧ zCg f.1 f.2.1 f.2.2 ∧ f.2.1 * f.2.1 - 4 * f.1 * f.2.2 = d := fun f hf => (row_mem hd1 hd2).1 ((k3 f).1 hf)
 have hbd : ∀ f ∈ L, inN f.1 = true ∧ inN f.2.1 = true ∧ inN f.2.2 = true := by
  intro f hf
  obtain ⟨h1, h2, h3⟩ := hmem f hf
  have h4 := red_sq h1 h2 h3
  obtain ⟨⟨h5, h6⟩, h7⟩ := h2
  have ha : f.1 ≤ 26 := by
   rcases Int.lt_or_le 26 f.1 with h8 | h8
   ·have := zJK (a := 27) (b := f.1) (by omega) (by omega)
    have e : 3 * f.1 * f.1 = 3 * (f.1 * f.1) := by grind
    omega
   ·exact h8
  have hb := q7 (x := f.2.1) (y := f.2.1) (A := 26) (B := 26) (by omega) (by omega)
  have hc : f.2.2 ≤ 1000 := by
   have h9 : 4 * 1 * f.2.2 ≤ 4 * f.1 * f.2.2 := by
    have : 4 * 1 * f.2.2 ≤ (4 * f.1) * f.2.2 := Int.mul_le_mul_of_nonneg_right (by omega) (by omega)
    exact this
   omega
  rw [zEJ, zEJ, zEJ]
  omega
 have h2 := zH9 (l := L) (by omega) hbd FU 0 [] (by omega) (by omega) (by simp)
 rw [List.nil_append, List.drop_zero] at h2
 refine ⟨_, by simp only [zDw, zFX, k1, Option.bind_some]; exact congrArg (fun z => z.bind fun o => some o) h2, Nat.le_trans (List.length_filter_le _ _) hLl, fun f => ?_, ?_⟩
 ·rw [List.mem_filter, k3, row_mem hd1 hd2, zBN, beq_iff_eq]
  unfold PrR
  constructor
  ·rintro ⟨⟨a1, a2, a3⟩, a4⟩
   exact ⟨a1, a2, a3, by omega⟩
  ·rintro ⟨a1, a2, a3, a4⟩
   exact ⟨⟨a1, a2, a3⟩, by omega⟩
 ·refine List.Pairwise.filter _ ?_
  rw [k6]
  have hrow : ∀ a : Int, (rowR d a (2 * a).toNat (1 - a)).Nodup := by
   intro a
   unfold rowR
   refine List.Pairwise.filter _ ?_
   rw [List.pairwise_map]
   refine (upz_lt (2 * a).toNat (1 - a)).imp ?_
   intro x y hxy e
   have := congrArg (fun f : Int × Int × Int => f.2.1) e
   simp only [cfR] at this
   omega
  rw [List.pairwise_flatMap]
  refine ⟨fun a _ => hrow a, k4.imp ?_⟩
  intro x y hxy f hf g hg e
  have fx := zL1 hf
  have gy := zL1 hg
  rw [e] at fx
  omega
theorem prin_red {d : Int} (hd1 : -2000 ≤ d) (hd2 : d ≤ -3) (h4 : d % 4 ≤ 1) : PrR d (1, d % 2, (d % 2 - d) / 4) := by
 have e : (d % 2) * (d % 2) = d % 2 := by
  rcases (by omega : d % 2 = 0 ∨ d % 2 = 1) with h | h <;> rw [h] <;> rfl
 refine ⟨Int.le_refl 1, ⟨⟨?_, ?_⟩, ?_⟩, ?_, ?_⟩
 ·show -1 < d % 2; omega
 ·show d % 2 ≤ 1; omega
 ·show 1 < (d % 2 - d) / 4 ∨ (1 = (d % 2 - d) / 4 ∧ 0 ≤ d % 2)
  omega
 ·show d % 2 * (d % 2) - 4 * 1 * ((d % 2 - d) / 4) = d
  rw [e]
  omega
 ·simp
structure CurB (k : Nat) (c : List Int × Int × Int) : Prop where
  lo : 0 ≤ c.2.1
  hi : c.2.1 ≤ (k : Int)
  len : c.1.length ≤ 1048576
  by8 : ∀ x ∈ c.1, 0 ≤ x ∧ x ≤ 255
theorem CurB.up {k k2 : Nat} {c : List Int × Int × Int} (h : CurB k c) (hk : k ≤ k2) : CurB k2 c := ⟨h.lo, by have := h.hi; omega, h.len, h.by8⟩
theorem CurB.start {code : List Int} (h1 : code.length ≤ 1048576) (h2 : ∀ x ∈ code, 0 ≤ x ∧ x ≤ 255) : CurB 0 (code, 0, 0) := ⟨Int.le_refl _, Int.le_refl _, h1, h2⟩
theorem big_val {code more : List Int} : zDH code more = some (decide (1048576 < code.length ∨ 1048576 - (code.length : Int) < more.length)) ∨ 1048576 < code.length ∧ zDH code more = some true := by
 by_cases h : 1048576 < code.length
 ·right
  refine ⟨h, ?_⟩
  simp only [zDH, Option.bind_some, zP, decide_eq_true (show (1048576 : Int) < (code.length : Int) by omega), cond_true]
 ·left
  simp only [zDH, Option.bind_some, zP, decide_eq_false (show ¬ (1048576 : Int) < (code.length : Int) by omega), cond_false]
  rw [zJ (by omega)]
  congr 1
  simp only [decide_eq_decide]
  omega
theorem big_cases (code more : List Int) : zDH code more = some true ∨ (zDH code more = some false ∧ code.length ≤ 1048576 ∧ more.length ≤ 1048576) := by
 rcases big_val (code := code) (more := more) with h | h
 ·by_cases h1 : 1048576 < code.length ∨ 1048576 - (code.length : Int) < more.length
  ·exact .inl (by rw [h, decide_eq_true h1])
  ·refine .inr ⟨by rw [h, decide_eq_false h1], ?_, ?_⟩ <;> omega
 ·exact .inl h.2
theorem wrap_u8 {x : Int} (h : 0 ≤ x ∧ x ≤ 255) : IntKind.i64.wrap x = x := zF1 (by omega)
theorem and255 (a : Int) : 0 ≤ IntKind.i64.wrap (andI .u64 a 255) ∧ IntKind.i64.wrap (andI .u64 a 255) ≤ 255 := by
 have h : 0 ≤ andI .u64 a 255 ∧ andI .u64 a 255 ≤ 255 := by
  unfold andI
  have h1 : (BitVec.ofInt IntKind.u64.bits a &&& BitVec.ofInt IntKind.u64.bits 255).toNat ≤ 255 := by
   rw [BitVec.toNat_and]
   exact Nat.and_le_right
  generalize (BitVec.ofInt IntKind.u64.bits a &&& BitVec.ofInt IntKind.u64.bits 255).toNat = q at h1
  rw [show IntKind.u64.wrap (q : Int) = (q : Int) by
   show (q : Int) % 18446744073709551616 = q
   omega]
  omega
 rw [wrap_u8 h]
 exact h
theorem next_ok {k : Nat} {c : List Int × Int × Int} (h : CurB k c) (hk : k ≤ 1099511627776) : ∃ b c', zBi c = some (b, c') ∧ 0 ≤ b ∧ b ≤ 255 ∧ CurB (k + 1) c' := by
 obtain ⟨xs, p, q⟩ := c
 obtain ⟨h1, h2, h3, h4⟩ := h
 simp only at h1 h2 h3 h4
 have e1 : w64 (p + 1) = p + 1 := zJ (by omega)
 have nextB : ∀ q', CurB (k + 1) (xs, p + 1, q') := fun q' => ⟨by show 0 ≤ p + 1; omega, by show p + 1 ≤ ((k + 1 : Nat) : Int); omega, h3, h4⟩
 simp only [zBi, qA, zP, q9, e1]
 by_cases hp : p < (xs.length : Int)
 ·have hi : p.toNat < xs.length := by omega
  have hg : getI xs p = some xs[p.toNat] := by
   unfold getI
   rw [q9, decide_eq_true h1, cond_true]
   simp [hi]
  have hb := h4 xs[p.toNat] (List.getElem_mem hi)
  simp only [decide_eq_true hp, cond_true, hg, Option.bind_some, wrap_u8 hb]
  by_cases hl : p + 1 ≤ (xs.length : Int)
  ·simp only [decide_eq_true hl, cond_true]
   exact ⟨_, _, rfl, hb.1, hb.2, nextB _⟩
  ·omega
 ·simp only [decide_eq_false hp, cond_false, Option.bind_some]
  simp only [decide_eq_false (show ¬ p + 1 ≤ (xs.length : Int) by omega), cond_false]
  exact ⟨_, _, rfl, (and255 _).1, (and255 _).2, nextB _⟩
theorem zG3 {x n : Int} (hx : 0 ≤ x) (hn : 0 < n) : 0 ≤ x.tmod n ∧ x.tmod n < n := ⟨Int.tmod_nonneg _ hx, Int.tmod_lt_of_pos _ hn⟩
theorem jL {k : Nat} {c : List Int × Int × Int} (n : Int) (h : CurB k c) (hk : k ≤ 1000000000000) : ∃ x c', zD c n = some (x, c') ∧ 0 ≤ x ∧ (n ≤ 1 → x = 0) ∧ (1 < n → x < n) ∧ CurB (k + 2) c' := by
 simp only [zD, q9, zP]
 by_cases h1 : n ≤ 1
 ·rw [decide_eq_true h1, cond_true]
  exact ⟨0, c, rfl, Int.le_refl _, fun _ => rfl, fun h2 => by omega, h.up (by omega)⟩
 ·rw [decide_eq_false h1, cond_false]
  obtain ⟨b, c1, e1, b1, b2, hc1⟩ := next_ok h (by omega)
  rw [e1, Option.bind_some]
  by_cases h2 : 200 < n
  ·obtain ⟨d, c2, e2, d1, d2, hc2⟩ := next_ok hc1 (by omega)
   simp only [decide_eq_true h2, cond_true, e2, Option.bind_some, qA, zFI (show n ≠ 0 by omega)]
   rw [zJ (n := b * 256) (by omega), zJ (n := b * 256 + d) (by omega)]
   have := zG3 (x := b * 256 + d) (n := n) (by omega) (by omega)
   exact ⟨_, _, rfl, this.1, fun h3 => absurd h3 h1, fun _ => this.2, hc2⟩
  ·simp only [decide_eq_false h2, cond_false, Option.bind_some, qA, zFI (show n ≠ 0 by omega)]
   have := zG3 (x := b) (n := n) b1 (by omega)
   exact ⟨_, _, rfl, this.1, fun h3 => absurd h3 h1, fun _ => this.2, hc1.up (by omega)⟩
theorem zLB {α : Type} {l : List α} {x : Int} (h1 : 0 ≤ x) (h2 : x < (l.length : Int)) : ∃ y, getI l x = some y ∧ y ∈ l := by
 have hi : x.toNat < l.length := by omega
 refine ⟨l[x.toNat], ?_, List.getElem_mem hi⟩
 unfold getI
 rw [q9, decide_eq_true h1, cond_true]
 simp [hi]
theorem zIA {k : Nat} {c : List Int × Int × Int} {l : List Int} (hl : l ≠ []) (h : CurB k c) (hk : k ≤ 1000000000000) : ∃ x c', jJ c l = some (x, c') ∧ x ∈ l ∧ CurB (k + 2) c' := by
 obtain ⟨x, c1, e1, x1, x2, x3, hc1⟩ := jL (l.length : Int) h hk
 have hp := List.length_pos_iff.2 hl
 obtain ⟨y, e2, hy⟩ := zLB (l := l) x1 (by
  rcases Nat.lt_or_ge 1 l.length with h1 | h1
  ·exact x3 (by omega)
  ·have := x2 (by omega); omega)
 simp only [jJ, e1, Option.bind_some, e2]
 exact ⟨y, c1, rfl, hy, hc1⟩
theorem zJ4 (b : List Int) (hb : b.length ≤ 1048576) (h8 : ∀ x ∈ b, 0 ≤ x ∧ x ≤ 255) : ∀ (n i : Nat) (v : Int), i ≤ b.length → b.length - i < n → 0 ≤ v → v < 1000003 → ∃ r, zAx b n v (i : Int) = some r ∧ 0 ≤ r ∧ r < 1000003
 | 0, i, v, _, h, _, _ => by omega
 | n + 1, i, v, hi, h, hv1, hv2 => by
  unfold zAx
  rw [zP]
  by_cases h1 : (i : Int) < (b.length : Int)
  ·obtain ⟨y, e1, hy⟩ := zLB (l := b) (x := (i : Int)) (by omega) h1
   have h9 := h8 y hy
   simp only [decide_eq_true h1, cond_true, e1, Option.bind_some, qA, wrap_u8 h9]
   rw [zJ (n := 31 * v) (by omega), zJ (n := 31 * v + y) (by omega), zJ (n := (i : Int) + 1) (by omega), show ((i : Int) + 1) = ((i + 1 : Nat) : Int) by omega]
   have := zG3 (x := 31 * v + y) (n := 1000003) (by omega) (by omega)
   exact zJ4 b hb h8 n (i + 1) _ (by omega) (by omega) this.1 this.2
  ·rw [decide_eq_false h1, cond_false]
   exact ⟨v, rfl, hv1, hv2⟩
theorem numberOf_ok {b : List Int} (hb : b.length ≤ 1048576) (h8 : ∀ x ∈ b, 0 ≤ x ∧ x ≤ 255) : ∃ r, zDM b = some r ∧ 0 ≤ r ∧ r < 1000003 := by
 obtain ⟨r, e, h1, h2⟩ := zJ4 b hb h8 FU 0 0 (Nat.zero_le _) (by (have : (1048577 : Nat) ≤ FU := by decide); omega) (by omega) (by omega)
 have e : zAx b FU 0 0 = some r := e
 simp only [zDM, e, Option.bind_some]
 exact ⟨r, rfl, h1, h2⟩
theorem disc_ok {k : Nat} {c : List Int × Int × Int} (h : CurB k c) (hk : k ≤ 100000000000) : ∃ d c', zC1 c = some (d, c') ∧ CurB (k + 4) c' := by
 obtain ⟨y, c1, e1, _, _, _, h1⟩ := jL 16 h (by omega)
 simp only [zC1, e1, Option.bind_some]
 cases eqI y 0 with
 | true =>
  obtain ⟨x, c2, e2, _, h2⟩ := zIA (l := [-3, -4, -2000, -1999, -1996, -1995, -163, -2001, -2003, -2004, 0, 1, 5, -1, -2, -5, -9223372036854775808]) (by simp) h1 (by omega)
  simp only [cond_true, e2, Option.bind_some]
  exact ⟨x, c2, rfl, h2⟩
 | false =>
  rw [cond_false]
  generalize hj : (bif eqI y 1 then some (eqI y 1) else some (eqI y 2)) = j
  have hj2 : ∃ b, j = some b := by subst hj; cases eqI y 1 <;> exact ⟨_, rfl⟩
  obtain ⟨b, rfl⟩ := hj2
  simp only [Option.bind_some]
  cases b with
  | true =>
   obtain ⟨x, c2, e2, x1, _, x3, h2⟩ := jL 1998 h1 (by omega)
   have x4 := x3 (by omega)
   simp only [cond_true, e2, Option.bind_some, qA, zFp]
   rw [zJ (n := -3 - x) (by omega), zBg (by omega) (by omega)]
   simp only [Option.bind_some]
   cases ltI 1 ((-3 - x) % 4) with
   | true =>
    simp only [cond_true, zB8]
    cases ltI (w64 (-3 - x - 2)) (-2000) with
    | true => exact ⟨_, c2, rfl, h2⟩
    | false => exact ⟨_, c2, rfl, h2⟩
   | false => exact ⟨_, c2, rfl, h2⟩
  | false =>
   rw [cond_false]
   generalize hj3 : (bif eqI y 3 then some (eqI y 3) else bif eqI y 4 then some (eqI y 4) else some (eqI y 5)) = j3
   have hj4 : ∃ b, j3 = some b := by subst hj3; cases eqI y 3 <;> cases eqI y 4 <;> exact ⟨_, rfl⟩
   obtain ⟨b, rfl⟩ := hj4
   simp only [Option.bind_some]
   cases b with
   | true =>
    obtain ⟨x, c2, e2, _, h2⟩ := zIA (l := [-84, -420, -231, -260, -455, -520, -660, -1155, -1320, -1380, -1428, -1540, -399, -1092, -1560, -1785]) (by simp) h1 (by omega)
    simp only [cond_true, e2, Option.bind_some]
    exact ⟨x, c2, rfl, h2⟩
   | false =>
    rw [cond_false]
    generalize hj5 : (bif eqI y 6 then some (eqI y 6) else some (eqI y 7)) = j5
    have hj6 : ∃ b, j5 = some b := by subst hj5; cases eqI y 6 <;> exact ⟨_, rfl⟩
    obtain ⟨b, rfl⟩ := hj6
    simp only [Option.bind_some]
    cases b with
    | true =>
     obtain ⟨x, c2, e2, _, _, _, h2⟩ := jL 60 h1 (by omega)
     simp only [cond_true, e2, Option.bind_some, qA]
     exact ⟨_, c2, rfl, h2⟩
    | false =>
     obtain ⟨x, c2, e2, _, _, _, h2⟩ := jL 50 h1 (by omega)
     simp only [cond_false, e2, Option.bind_some, qA]
     exact ⟨_, c2, rfl, h2⟩
end Go.Proofs.YtfmjfofocklgpaaGreatDoor
