import Derived.Test.YtdffhgibkeifmaaDiv
namespace Go.Proofs.Ytdffhgibkeifmaa
open Go.RowKit
set_option linter.unusedSimpArgs false
set_option linter.unusedVariables false

/-- The same with a bool beside it. -/
def RetIB (B : Nat) (w : World) (xs : List Int) (ok : Bool) (e : Ending) (w' : World) : Prop :=
  ∃ A cap n, e = .returned (.tuple #[.slice A n cap, .bool ok]) ∧ n = xs.length ∧ w'.ownsRow B 3 1 (.slice A n cap) n (xs.map (Value.int .i64)) ∧ Below B w w'

/-- A slice that reads as these ints. -/
def IsI (w : World) (A : Option Addr) (n : Nat) (xs : List Int) : Prop :=
  n = xs.length ∧ (0 < n → ∃ g, A = some ⟨g, 0, none⟩ ∧ g < w.heap.size ∧ ∀ i (h : i < xs.length), w.cell? ⟨g, i, none⟩ = some (.int .i64 (xs[i]'h)))
theorem isI_of_own {w : World} {B e n cap : Nat} {A : Option Addr} {xs : List Int} (h : w.ownsRow B e 1 (.slice A n cap) n (xs.map (Value.int .i64))) (hn : n = xs.length) : IsI w A n xs := by
  refine ⟨hn, fun h0 => ?_⟩
  obtain ⟨g, cap', hv, _, hlt⟩ := h.form h0
  obtain ⟨rfl, rfl⟩ : A = some ⟨g, 0, none⟩ ∧ cap = cap' := by
    injection hv with h1 h2 h3
    exact ⟨h1, h3⟩
  exact ⟨g, rfl, hlt, fun i hi => own_cell h hi hn⟩
theorem own_below {w w' : World} {B e n : Nat} {v : Value} {xs : List Value} (h : w.ownsRow B e 1 v n xs) (hb : Below w.heap.size w w') : w'.ownsRow B e 1 v n xs := by
  obtain ⟨h1, h2⟩ := h
  refine ⟨h1, ?_⟩
  rcases h2 with h2 | ⟨g, cap, cur, hv, hg, hh, r⟩
  · exact Or.inl h2
  · refine Or.inr ⟨g, cap, cur, hv, hg, ?_, r⟩
    rw [hb.block g ?_]
    · exact hh
    · rcases Nat.lt_or_ge g w.heap.size with hlt | hge
      · exact hlt
      · rw [Array.getElem?_eq_none hge] at hh
        cases hh
theorem IsI.below {w w' : World} {A : Option Addr} {n : Nat} {xs : List Int} (h : IsI w A n xs) (hb : Below w.heap.size w w') : IsI w' A n xs := by
  refine ⟨h.1, fun h0 => ?_⟩
  obtain ⟨g, hA, hg, hc⟩ := h.2 h0
  exact ⟨g, hA, Nat.lt_of_lt_of_le hg hb.size, fun i hi => by rw [hb.cell (p := ⟨g, i, none⟩) hg]; exact hc i hi⟩

/-- A slice that reads as these ints and does not lie in block r. -/
def IsIx (w : World) (r : Option Nat) (A : Option Addr) (n : Nat) (xs : List Int) : Prop :=
  n = xs.length ∧ (0 < n → ∃ g, A = some ⟨g, 0, none⟩ ∧ some g ≠ r ∧ g < w.heap.size ∧ ∀ i (h : i < xs.length), w.cell? ⟨g, i, none⟩ = some (.int .i64 (xs[i]'h)))
theorem isIx_of_own {w : World} {B e n cap : Nat} {A : Option Addr} {xs : List Int} {r : Option Nat} (h : w.ownsRow B e 1 (.slice A n cap) n (xs.map (Value.int .i64))) (hn : n = xs.length) (hr : ∀ g, r = some g → g < B) : IsIx w r A n xs := by
  refine ⟨hn, fun h0 => ?_⟩
  obtain ⟨g, hA, hg, hc⟩ := (isI_of_own h hn).2 h0
  subst hA
  have hl := own_lt h
  exact ⟨g, rfl, fun e => by have := hr g e.symm; omega, hg, hc⟩
theorem IsIx.below {w w' : World} {A : Option Addr} {n : Nat} {xs : List Int} {r : Option Nat} (h : IsIx w r A n xs) (hb : Below w.heap.size w w') : IsIx w' r A n xs := by
  refine ⟨h.1, fun h0 => ?_⟩
  obtain ⟨g, hA, hr, hg, hc⟩ := h.2 h0
  exact ⟨g, hA, hr, Nat.lt_of_lt_of_le hg hb.size, fun i hi => by rw [hb.cell (p := ⟨g, i, none⟩) hg]; exact hc i hi⟩
theorem IsIx.app {w w1 : World} {A : Option Addr} {n g1 : Nat} {xs : List Int} {v : Value} {o : Obj} (h : IsIx w v.ownBlock A n xs) (hg : (w.alloc o).grownBy w1 v.ownBlock) (hat : v.ownBlock = some g1 ∨ g1 = w.heap.size + 1) : IsIx w1 (some g1) A n xs := by
  refine ⟨h.1, fun h0 => ?_⟩
  obtain ⟨g, hA, hr, hgl, hc⟩ := h.2 h0
  have hs := hg.size
  simp at hs
  refine ⟨g, hA, ?_, by omega, fun i hi => hg.cell ?_ hr⟩
  · rcases hat with e | e
    · rw [← e]
      exact hr
    · intro e2
      injection e2
      omega
  · rw [World.cell?_alloc_lt w o ⟨g, i, none⟩ hgl]
    exact hc i hi

theorem drop_beq {xs ys : List Int} {i : Nat} (h1 : i < xs.length) (h2 : i < ys.length) : (xs.drop i == ys.drop i) = ((xs[i] == ys[i]) && (xs.drop (i + 1) == ys.drop (i + 1))) := by
  rw [List.drop_eq_getElem_cons h1, List.drop_eq_getElem_cons h2]
  rfl

theorem laws_eqIntS (A A2 : Option Addr) (n c m c2 : Nat) (xs ys : List Int) (w : World) (hx : IsI w A n xs) (hy : IsI w A2 m ys) (hn : n ≤ 1000000) (hm : m ≤ 1000000) :
    Calls Try.prog 18 #[.slice A n c, .slice A2 m c2] w fun e w' => e = .returned (.bool (xs == ys)) ∧ ∃ k, w' = w.drewN k := by
  have Hx := Lib.hid hx
  have Hy := Lib.hid hy
  clear hx hy
  by_cases he : n = m
  · subst he
    go_enter Try.func18, Try.ntmps18
    go_wp2
    go_loopg [5] n (fun k ii wr => (∃ q, wr = w.drewN q) ∧ ∃ i : Nat, ii = .int .i64 i ∧ i + k = n ∧ Hid ((xs == ys) = (xs.drop i == ys.drop i)))
    case atStart => exact ⟨⟨0, rfl⟩, 0, rfl, by omega, rfl⟩
    case round =>
      obtain ⟨⟨q, rfl⟩, i, rfl, hk, hH⟩ := hrel
      have HK := Lib.hid hk
      by_cases hi : i < n
      · obtain ⟨g1, hA, hg1, hc1⟩ := Hx.out.2 (by omega)
        obtain ⟨g2, hA2, hg2, hc2⟩ := Hy.out.2 (by omega)
        have hxl : i < xs.length := by have := Hx.out.1; omega
        have hyl : i < ys.length := by have := Hy.out.1; omega
        have k1 := hc1 i hxl
        have k2 := hc2 i hyl
        clear hc1 hc2 hk
        subst hA hA2
        have HD := Lib.hid (drop_beq hxl hyl)
        have i1 : (0 : Int) ≤ (i : Int) := by omega
        have i2 : (i : Int) < (n : Int) := by omega
        cases hb : (xs[i] == ys[i])
        · have hb2 : (xs[i] != ys[i]) = true := by simp [bne, hb]
          go_wp2_with fail
          go_quiet (fail)
          go_wp2_with fail
          go_ret
          exact ⟨ret_bool (by rw [hH.out, HD.out, hb]; rfl), q + nq, by first | rfl | simp⟩
        · have hb2 : (xs[i] != ys[i]) = false := by simp [bne, hb]
          go_wp2_with fail
          go_quiet (fail)
          go_wp2_with fail
          go_roundg (gk - 1)
          case measure => have := HK.out; omega
          case rel => exact ⟨⟨_, rfl⟩, i + 1, by go_num, by have := HK.out; omega, by show _ = _; rw [hH.out, HD.out, hb]; rfl⟩
      · have hxl : xs.length ≤ i := by have := Hx.out.1; omega
        have hyl : ys.length ≤ i := by have := Hy.out.1; omega
        have HE : Hid (xs.drop i = [] ∧ ys.drop i = []) := ⟨List.drop_eq_nil_of_le hxl, List.drop_eq_nil_of_le hyl⟩
        clear hk
        go_wp2_with fail
        go_ret
        exact ⟨ret_bool (by rw [hH.out, HE.out.1, HE.out.2]; rfl), _, rfl⟩
  · have hb : ((n : Int) != (m : Int)) = true := by
      rw [bne_iff_ne]
      omega
    have HE : Hid ((xs == ys) = false) := by
      show _ = _
      rw [beq_eq_false_iff_ne]
      intro h
      rw [Hx.out.1, Hy.out.1, h] at he
      exact he rfl
    clear he
    go_enter Try.func18, Try.ntmps18
    go_wp2
    go_ret
    exact ⟨ret_bool HE.out.symm, 0, rfl⟩

def marks (k : Int) (n : Nat) : List Int := (List.range n).map fun (i : Nat) => k + (i : Int)
theorem marks_len (k : Int) (n : Nat) : (marks k n).length = n := by simp [marks]
theorem marks_at (k : Int) (n i : Nat) (h : i < (marks k n).length) : (marks k n)[i] = k + (i : Int) := by simp [marks]

theorem laws_heldIntS (A : Option Addr) (n c : Nat) (k : Int) (w : World) (hx : IsI w A n (marks k n)) (hn : n ≤ 1000000) (k1 : 0 ≤ k) (k2 : k ≤ 1000000) :
    Calls Try.prog 20 #[.slice A n c, .int .i64 k] w fun e w' => e = .returned (.int .i64 (k + n)) ∧ w = w' := by
  have Hx := Lib.hid hx
  clear hx
  go_enter Try.func20, Try.ntmps20
  go_wp2
  go_loopg [5, 1] n (fun q ii kk wr => w = wr ∧ ∃ i : Nat, ii = .int .i64 i ∧ kk = .int .i64 (k + i) ∧ i + q = n)
  case atStart => exact ⟨rfl, 0, rfl, by go_num, by omega⟩
  case round =>
    obtain ⟨rfl, i, rfl, rfl, hk⟩ := hrel
    have HK := Lib.hid hk
    by_cases hi : i < n
    · obtain ⟨g1, hA, hg1, hc1⟩ := Hx.out.2 (by omega)
      have hxl : i < (marks k n).length := by rw [marks_len]; exact hi
      have k3 := hc1 i hxl
      rw [marks_at] at k3
      clear hc1 hk
      subst hA
      go_wp2_with fail
      go_roundg (gk - 1)
      case measure => have := HK.out; omega
      case rel => exact ⟨rfl, i + 1, by go_num, by go_num, by have := HK.out; omega⟩
    · obtain rfl : i = n := by omega
      clear hk
      go_wp2_with fail
      go_ret
      exact ⟨rfl, rfl⟩

theorem grown_refl (w : World) (r : Option Nat) : w.grownBy w r := ⟨rfl, rfl, rfl, Nat.le_refl _, fun _ _ _ => rfl⟩
theorem grown_set {w w' : World} {g : Nat} (h : w.grownBy w' (some g)) (j : Nat) (u : Value) : w.grownBy (w'.setCell ⟨g, j, none⟩ u) (some g) :=
  ⟨h.os, h.tape, h.output, by simpa [World.setCell] using h.size, fun i hi hne => (Below.heap_setCell w' ⟨g, j, none⟩ u i (fun e => hne (by rw [e]))).trans (h.block i hi hne)⟩
theorem marks_step {k : Int} {xs : List Int} {i : Nat} (h : i < xs.length) : (marks k i ++ xs.drop i).set i (k + (i : Int)) = marks k (i + 1) ++ xs.drop (i + 1) := by
  apply List.ext_getElem?
  intro j
  have hl : (marks k i).length = i := marks_len k i
  have hl2 : (marks k (i + 1)).length = i + 1 := marks_len k (i + 1)
  rcases Nat.lt_trichotomy j i with h1 | h1 | h1
  · rw [List.getElem?_set_ne (by omega), List.getElem?_append_left (by omega), List.getElem?_append_left (by omega)]
    simp [marks, h1, Nat.lt_succ_of_lt h1]
  · subst h1
    rw [List.getElem?_set_self (by simp [hl]; omega), List.getElem?_append_left (by omega)]
    simp [marks]
  · rw [List.getElem?_set_ne (by omega), List.getElem?_append_right (by omega), List.getElem?_append_right (by omega), hl, hl2, List.getElem?_drop, List.getElem?_drop]
    congr 1
    omega

theorem laws_markIntS (B : Nat) (A : Option Addr) (n c : Nat) (k : Int) (xs : List Int) (w : World) (hx : w.ownsRow B 3 1 (.slice A n c) n (xs.map (Value.int .i64))) (hl : n = xs.length) (hn : n ≤ 1000000) (k1 : 0 ≤ k) (k2 : k ≤ 1000000) :
    Calls Try.prog 19 #[.slice A n c, .int .i64 k] w fun e w' => e = .returned (.int .i64 (k + n)) ∧ w'.ownsRow B 3 1 (.slice A n c) n ((marks k n).map (Value.int .i64)) ∧ w.grownBy w' (Value.slice A n c).ownBlock := by
  rcases Nat.eq_zero_or_pos n with h0 | h0
  · subst h0
    have e : xs = [] := List.eq_nil_of_length_eq_zero hl.symm
    subst e
    have Hx := Lib.hid hx
    clear hx hl
    go_enter Try.func19, Try.ntmps19
    go_wp2
    go_loopg [5, 1] 0 (fun q ii kk wr => w = wr ∧ ii = .int .i64 0 ∧ kk = .int .i64 k)
    case atStart => exact ⟨rfl, rfl, rfl⟩
    case round =>
      obtain ⟨rfl, rfl, rfl⟩ := hrel
      go_wp2
      go_ret
      exact ⟨by simp, Hx.out, grown_refl _ _⟩
  · obtain ⟨g, cap, hv, hBg, hlt⟩ := hx.form h0
    obtain ⟨rfl, rfl⟩ : A = some ⟨g, 0, none⟩ ∧ c = cap := by
      injection hv with h1 h2 h3
      exact ⟨h1, h3⟩
    have Hx := Lib.hid hx
    have Hl := Lib.hid hl
    clear hx hl hv
    go_enter Try.func19, Try.ntmps19
    go_wp2
    go_loopg [5, 1] n (fun q ii kk wr => ∃ i : Nat, ii = .int .i64 i ∧ kk = .int .i64 (k + i) ∧ i + q = n ∧ w.grownBy wr (some g) ∧ wr.ownsRow B 3 1 (.slice (some ⟨g, 0, none⟩) n c) n ((marks k i ++ xs.drop i).map (Value.int .i64)))
    case atStart => exact ⟨0, rfl, by go_num, by omega, grown_refl _ _, Hx.out⟩
    case round =>
      obtain ⟨i, rfl, rfl, hk, hg, ho⟩ := hrel
      have HK := Lib.hid hk
      by_cases hi : i < n
      · have hil : i < (marks k i ++ xs.drop i).length := by
          rw [List.length_append, marks_len, List.length_drop]
          have := Hl.out
          omega
        have hc := own_cell ho hil (by rw [List.length_append, marks_len, List.length_drop]; have := Hl.out; omega)
        have hf := ho.frozenAt i
        have hst := ho.stored i (.int .i64 (k + i))
        have Ho := Lib.hid ho
        have Hst := Lib.hid hst
        clear ho hst hk
        go_wp2_with fail
        go_roundg (gk - 1)
        case measure => have := HK.out; omega
        case rel => exact ⟨i + 1, by go_num, by go_num, by have := HK.out; omega, grown_set hg i _, by have h1 := Hst.out; rw [← marks_step (by have := Hl.out; omega), List.map_set]; exact h1.1⟩
      · obtain rfl : i = n := by omega
        have Ho := Lib.hid ho
        clear hk ho
        go_wp2_with fail
        go_ret
        exact ⟨rfl, by have h1 := Ho.out; rw [List.drop_eq_nil_of_le (by have := Hl.out; omega), List.append_nil] at h1; exact h1, hg⟩

end Go.Proofs.Ytdffhgibkeifmaa
