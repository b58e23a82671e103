/-
  Numbers and texts: what both ways of writing them give.
  Conditions: none.
-/
import Derived.Test.YtnifkkihamgmaaaDoorPcRaw
namespace Go.Proofs.YtnifkkihamgmaaaDoor
set_option linter.unusedVariables false
set_option linter.unusedSimpArgs false

theorem FUge : 1000000 ≤ FU := by decide
theorem nzOk {b : Int} (h : b ≠ 0) : nz b = some () := by
  unfold nz
  rw [eqI_eq]
  have : (b == 0) = false := by rw [beq_eq_false_iff_ne]; exact h
  rw [this]
  rfl
theorem eqSelf (a : Int) : eqI a a = true := by rw [eqI_eq]; exact beq_self_eq_true a
theorem eqNe {a b : Int} (h : a ≠ b) : eqI a b = false := by rw [eqI_eq, beq_eq_false_iff_ne]; exact h
theorem roomOk {n : Nat} (h : n ≤ 1000000000) : room n = some () := by
  unfold room
  rw [Nat.ble_eq_true_of_le (by omega), cond_true]
theorem getNat {α : Type} {l : List α} {k : Nat} (hk : k < l.length) : getI l (k : Int) = some (l[k]'hk) := by
  unfold getI
  rw [leI_eq, decide_eq_true (by omega), cond_true]
  simp
theorem wsucc {k : Nat} (h : k < 1000000000) : w64 ((k : Int) + 1) = ((k + 1 : Nat) : Int) := by rw [w64_in (by omega)]; push_cast; omega
/-- A string of bytes. -/
def bl (l : List UInt8) : ByteArray := ⟨l.toArray⟩
theorem bl_app (a b : List UInt8) : bl a ++ bl b = bl (a ++ b) := by
  apply ByteArray.ext
  simp [bl]
theorem bl_size (l : List UInt8) : (bl l).size = l.length := by simp [bl, ByteArray.size]
theorem bl_data (l : List UInt8) : (bl l).data.toList = l := by simp [bl]
theorem catBl {a b : List UInt8} (h : a.length + b.length ≤ 9223372036854775807) : catR (bl a) (bl b) = some () := by
  unfold catR
  rw [if_pos (by rw [bl_size, bl_size]; exact h)]
theorem bytes_one {d : Int} (h0 : 0 ≤ d) (h1 : d ≤ 9) : bytesI [IntKind.u8.wrap (w64 (48 + d))] = bl [UInt8.ofNat (48 + d.toNat)] := by
  rw [w64_in (by omega), IntKind.wrap_u8]
  have e : (48 + d) % 256 = 48 + d := by omega
  have e2 : (48 + d).toNat = 48 + d.toNat := by omega
  apply ByteArray.ext
  simp only [bytesI, List.foldl_cons, List.foldl_nil, e, e2]
  rfl
theorem l1Num_run : ∀ (n k u : Nat), u < 10 ^ k → k ≤ 18 → k < n → r_spec_l1Num n (u : Int) = some (bl (Go.Lib.decDigits u))
  | 0, k, u, _, _, h => by omega
  | n + 1, k, u, h1, h18, h2 => by
    rw [r_spec_l1Num, ltI_eq]
    by_cases hu : u < 10
    · rw [decide_eq_true (by omega), cond_true, bytes_one (by omega) (by omega), Go.Lib.decDigits_one hu]
      rfl
    · have hk : k ≠ 0 := by
        intro e
        subst e
        simp at h1
        omega
      obtain ⟨j, rfl⟩ : ∃ j, k = j + 1 := ⟨k - 1, by omega⟩
      have h3 : u / 10 < 10 ^ j := by
        rw [Nat.pow_succ] at h1
        omega
      have hbig : 10 ^ (j + 1) ≤ 10 ^ 18 := Nat.pow_le_pow_right (by decide) h18
      have hb2 : u < 1000000000000000000 := Nat.lt_of_lt_of_le h1 hbig
      have e1 : w64 (Int.tdiv (u : Int) 10) = ((u / 10 : Nat) : Int) := by
        rw [show Int.tdiv (u : Int) 10 = ((u / 10 : Nat) : Int) from rfl, w64_in (by omega)]
      have e2 : Int.tmod (u : Int) 10 = ((u % 10 : Nat) : Int) := rfl
      rw [decide_eq_false (by omega), cond_false, e1, l1Num_run n j (u / 10) h3 (by omega) (by omega), e2]
      simp only [Option.bind_some]
      rw [bytes_one (by omega) (by omega)]
      have h4 : Go.Lib.nDigits (u / 10) ≤ 20 := by
        rcases Nat.lt_or_ge 20 (Go.Lib.nDigits (u / 10)) with h5 | h5
        · exfalso
          have h6 : ∀ (m v : Nat), v < 10 ^ m → 1 ≤ m → Go.Lib.nDigits v ≤ m := by
            intro m
            induction m with
            | zero => intro v hv h; omega
            | succ m ih =>
              intro v hv _
              by_cases hv10 : v < 10
              · rw [Go.Lib.nDigits_small hv10]; omega
              · rw [Go.Lib.nDigits_big hv10]
                have : m ≠ 0 := by intro e; subst e; simp at hv; omega
                have := ih (v / 10) (by rw [Nat.pow_succ] at hv; omega) (by omega)
                omega
          have := h6 20 (u / 10) (by omega) (by omega)
          omega
        · exact h5
      rw [catBl (by rw [Go.Lib.decDigits_length]; simp; omega), Option.bind_some, bl_app]
      have e3 : Go.Lib.decDigits u = Go.Lib.decDigits (u / 10) ++ [UInt8.ofNat (48 + u % 10)] := by
        rw [Go.Lib.decDigits, dif_neg hu]
      rw [e3]
      rfl
theorem nDig_le : ∀ (m v : Nat), v < 10 ^ m → 1 ≤ m → Go.Lib.nDigits v ≤ m
  | 0, v, hv, h => by omega
  | m + 1, v, hv, _ => by
    by_cases hv10 : v < 10
    · rw [Go.Lib.nDigits_small hv10]; omega
    · rw [Go.Lib.nDigits_big hv10]
      have : m ≠ 0 := by intro e; subst e; simp at hv; omega
      have := nDig_le m (v / 10) (by rw [Nat.pow_succ] at hv; omega) (by omega)
      omega
/-- A number that is not too great. -/
def sm18 (n : Int) : Prop := -1000000000000000000 < n ∧ n < 1000000000000000000
theorem itoa_len {n : Int} (h : sm18 n) : (Go.Lib.itoa n).length ≤ 19 := by
  obtain ⟨h0, h1⟩ := h
  unfold Go.Lib.itoa
  split
  · rw [List.length_cons, Go.Lib.decDigits_length]
    have := nDig_le 18 n.natAbs (by omega) (by omega)
    omega
  · rw [Go.Lib.decDigits_length]
    have := nDig_le 18 n.toNat (by omega) (by omega)
    omega
theorem l1Int_eq {n : Int} (h : sm18 n) : r_spec_l1Int n = some (bl (Go.Lib.itoa n)) := by
  have hl := itoa_len h
  obtain ⟨h0, h1⟩ := h
  have hF := FUge
  unfold r_spec_l1Int
  unfold Go.Lib.itoa at hl ⊢
  rw [ltI_eq]
  by_cases hn : n < 0
  · rw [decide_eq_true hn, cond_true, if_pos hn]
    rw [if_pos hn] at hl
    have e1 : w64 (0 - n) = ((n.natAbs : Nat) : Int) := by rw [w64_in (by omega)]; omega
    rw [e1, l1Num_run FU 18 n.natAbs (by omega) (by omega) (by omega)]
    have e2 : (⟨#[45]⟩ : ByteArray) = bl [45] := rfl
    simp only [Option.bind_some]
    rw [e2, catBl (by simp at hl ⊢; omega), Option.bind_some, bl_app]
    rfl
  · rw [decide_eq_false hn, cond_false, if_neg hn]
    have e1 : n = ((n.toNat : Nat) : Int) := by omega
    rw [e1, l1Num_run FU 18 n.toNat (by omega) (by omega) (by omega)]
    rfl
theorem itoa_eq {n : Int} (h : sm18 n) : r_strconv_Itoa n = some (bl (Go.Lib.itoa n)) := by
  obtain ⟨h0, h1⟩ := h
  unfold r_strconv_Itoa
  rw [if_pos (by omega)]
  rfl

/-! ### Words joined -/
theorem tail_len (ls : List (List UInt8)) (h : ∀ x ∈ ls, x.length ≤ 1000) : (Go.Lib.joinTail [32] ls).length ≤ 1001 * ls.length := by
  induction ls with
  | nil => simp [Go.Lib.joinTail]
  | cons x r ih =>
    have h1 := ih fun y hy => h y (List.mem_cons_of_mem _ hy)
    have h2 := h x List.mem_cons_self
    simp only [Go.Lib.joinTail, List.map_cons, List.flatten_cons, List.length_append, List.length_cons, List.length_nil] at h1 ⊢
    omega
theorem tail_cons (x : List UInt8) (r : List (List UInt8)) : Go.Lib.joinTail [32] (x :: r) = 32 :: (x ++ Go.Lib.joinTail [32] r) := by
  simp [Go.Lib.joinTail]
theorem prText_run (ls : List (List UInt8)) (hN : ls.length ≤ 100) (hL : ∀ x ∈ ls, x.length ≤ 1000) : ∀ (n k : Nat) (out : List UInt8), 1 ≤ k → k ≤ ls.length → ls.length - k < n → out.length ≤ 2000 * k →
    r_spec_prText_L4 (ls.map bl) n (bl out) (k : Int) = some (bl (out ++ Go.Lib.joinTail [32] (ls.drop k)))
  | 0, k, out, _, _, h, _ => by omega
  | n + 1, k, out, h1, h0, h, ho => by
    unfold r_spec_prText_L4
    rw [ltI_eq, List.length_map]
    by_cases hk : k < ls.length
    · have e3 : ls.drop k = ls[k] :: ls.drop (k + 1) := List.drop_eq_getElem_cons hk
      have hx := hL (ls[k]) (List.getElem_mem hk)
      rw [decide_eq_true (by omega), cond_true, getNat (by rw [List.length_map]; exact hk)]
      simp only [Option.bind_some, List.getElem_map]
      rw [ltI_eq, decide_eq_true (by omega), cond_true]
      have e2 : (⟨#[32]⟩ : ByteArray) = bl [32] := rfl
      rw [e2, catBl (by simp; omega), Option.bind_some, bl_app, catBl (by simp; omega), Option.bind_some, bl_app, sI_eq, wsucc (by omega)]
      rw [prText_run ls hN hL n (k + 1) _ (by omega) (by omega) (by omega) (by simp; omega), e3, tail_cons]
      simp
    · have e : k = ls.length := by omega
      rw [decide_eq_false (by omega), cond_false, e, List.drop_length]
      simp [Go.Lib.joinTail]
theorem prText_eq (x : List UInt8) (r : List (List UInt8)) (hN : r.length ≤ 99) (hL : ∀ y ∈ x :: r, y.length ≤ 1000) : r_spec_prText (bl x :: r.map bl) = some (bl (x ++ Go.Lib.joinTail [32] r)) := by
  have hF := FUge
  obtain ⟨m, hm⟩ : ∃ m, FU = m + 1 := ⟨FU - 1, by omega⟩
  have hx := hL x List.mem_cons_self
  have key : r_spec_prText_L4 (bl x :: r.map bl) FU (bl []) 0 = some (bl (x ++ Go.Lib.joinTail [32] r)) := by
    rw [hm]
    unfold r_spec_prText_L4
    have e1 : getI (bl x :: r.map bl) 0 = some (bl x) := rfl
    have e2 := wsucc (k := 0) (by omega)
    rw [ltI_eq, decide_eq_true (by simp only [List.length_cons]; omega), cond_true, e1]
    simp only [Option.bind_some]
    rw [ltI_eq, decide_eq_false (by omega), cond_false, catBl (by simp; omega), Option.bind_some, bl_app, sI_eq]
    have e3 : w64 (0 + 1) = ((0 + 1 : Nat) : Int) := e2
    rw [e3]
    have := prText_run (x :: r) (by simp; omega) hL m 1 ([] ++ x) (by omega) (by simp) (by simp only [List.length_cons]; omega) (by simp; omega)
    simpa using this
  unfold r_spec_prText
  have e0 : (⟨#[]⟩ : ByteArray) = bl [] := rfl
  rw [e0, key]
  rfl
theorem cert_eq (x : List UInt8) (r : List (List UInt8)) (hr : r ≠ []) (hN : r.length ≤ 99) (hL : ∀ y ∈ x :: r, y.length ≤ 1000) : r_impl_certificate (bl x) (r.map bl) = some (bl (x ++ Go.Lib.joinTail [32] r)) := by
  have hx := hL x List.mem_cons_self
  have ht := tail_len r fun y hy => hL y (List.mem_cons_of_mem _ hy)
  have e2 : (⟨#[32]⟩ : ByteArray) = bl [32] := rfl
  have e4 : (r.map bl).map (fun b : ByteArray => b.data.toList) = r := by
    rw [List.map_map]
    conv => rhs; rw [← List.map_id r]
    exact List.map_congr_left fun y _ => bl_data y
  have e5 : Go.Lib.joinTail [32] r = 32 :: Go.Lib.join r [32] := by
    cases r with
    | nil => exact absurd rfl hr
    | cons y s => rw [tail_cons, Go.Lib.join_cons]
  have e6 : (Go.Lib.join r [32]).length ≤ 1001 * r.length := by
    rw [e5] at ht
    simp at ht
    omega
  have hj : r_strings_Join (r.map bl) (bl [32]) = some (bl (Go.Lib.join r [32])) := by
    unfold r_strings_Join
    rw [e4, bl_data, if_pos ⟨by rw [List.length_map]; omega, by omega⟩]
    rfl
  unfold r_impl_certificate
  rw [e2, catBl (by simp; omega), Option.bind_some, hj, Option.bind_some, bl_app, catBl (by simp; omega), Option.bind_some, bl_app, e5]
  simp
end Go.Proofs.YtnifkkihamgmaaaDoor
