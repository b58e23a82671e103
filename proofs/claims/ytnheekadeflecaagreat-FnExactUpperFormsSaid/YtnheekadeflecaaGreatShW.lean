/-
  A law's arguments that are slices of numbers.
  Conditions: none.
-/
import Derived.Test.YtnheekadeflecaaGreatShV
import Derived.DataReads
import Derived.OpenShut
namespace Go.Proofs.YtnheekadeflecaaGreat
open Go.RowKit
set_option linter.unusedSimpArgs false
set_option linter.unusedVariables false

/-- A slice of numbers that was handed in: its row, as far as its room goes. -/
def IsRow (kd : IntKind) (w : World) (a : Option Addr) (len cap : Nat) (zs : List Int) : Prop :=
  (a = none ∧ len = 0 ∧ cap = 0 ∧ zs = []) ∨
  ∃ g : Addr, a = some g ∧ len ≤ cap ∧ cap ≤ maxLen ∧ zs.length = cap ∧ (∀ i, i < zs.length → w.cell? (g.add i) = some (.int kd (zs.getD i 0))) ∧ (∀ n ∈ zs, (Lit.int kd n).wf = true)
theorem row_rd {kd : IntKind} {w : World} {a : Option Addr} {len cap : Nat} {zs : List Int} (h : IsRow kd w a len cap zs) (c : Int → List Tr) (hc : ∀ x, c x = [.v (.int kd x)]) : Rd (fun g => g < w.heap.size) w (.sl ((zs.take len).map c)) (.slice a len cap) := by
  rcases h with ⟨rfl, rfl, rfl, rfl⟩ | ⟨g, rfl, hl, hm, hz, hcell, hwf⟩
  · exact .nl _ _
  · rcases Nat.eq_zero_or_pos len with h0 | h0
    · subst h0
      simpa using Rd.nl _ _
    · have h1 := hcell 0 (by omega)
      have h2 : g.add 0 = g := rfl
      rw [h2] at h1
      have hs : g.spot = none := World.cell?_spot h1
      obtain ⟨b, o, sp⟩ := g
      simp only at hs
      subst hs
      have hb : b < w.heap.size := by
        unfold World.cell? at h1
        simp only at h1
        rcases Nat.lt_or_ge b w.heap.size with h3 | h3
        · exact h3
        · rw [Array.getElem?_eq_none h3] at h1; cases h1
      have hat : ∀ i j c', at2 ((zs.take len).map c) i j = some c' → i < len ∧ j = 0 ∧ c' = .v (.int kd (zs.getD i 0)) := by
        intro i j c' hh
        unfold at2 at hh
        rw [List.getElem?_map] at hh
        have hi : i < len := by
          rcases Nat.lt_or_ge i len with h3 | h3
          · exact h3
          · rw [List.getElem?_eq_none (by simp; omega)] at hh; cases hh
        have hzi : (zs.take len)[i]? = some (zs.getD i 0) := by
          rw [List.getElem?_take, if_pos hi, List.getD_eq_getElem?_getD]
          have : i < zs.length := by omega
          rw [List.getElem?_eq_getElem this]
          rfl
        rw [hzi] at hh
        simp only [Option.map_some, Option.bind_some, hc] at hh
        cases j with
        | zero => simp at hh; exact ⟨hi, rfl, hh.symm⟩
        | succ j => simp at hh
      refine .sl b o len cap 1 _ (fun i j => .int kd (zs.getD i 0)) (by simp; omega) hl hb (fun el hel => ?_) (fun i j c' hh => ?_) (fun i j c' hh => ?_)
      · obtain ⟨x, _, rfl⟩ := List.mem_map.1 hel
        rw [hc]; rfl
      · obtain ⟨h3, h4, _⟩ := hat i j c' hh
        subst h4
        have h5 := hcell i (by omega)
        rw [add_none] at h5
        simpa using h5
      · obtain ⟨h3, h4, h5⟩ := hat i j c' hh
        rw [h5]
        exact .v _ rfl
theorem relA_row {kd : IntKind} {w : World} {σ : Nat → Loc} {a : Option Addr} {len cap : Nat} {zs : List Int} {args : List AV} {vs : List Value} (h : IsRow kd w a len cap zs) (c : Int → List Tr) (hc : ∀ x, c x = [.v (.int kd x)]) (hs : RelA (fun g => g < w.heap.size) σ w args vs) :
    RelA (fun g => g < w.heap.size) σ w (.c (.sl ((zs.take len).map c)) :: args) (.slice a len cap :: vs) := .cons (row_rd h c hc) hs
theorem row_u8 {w : World} {a : Option Addr} {len cap : Nat} {zs : List Int} (h : IsRow .u8 w a len cap zs) : ∀ x ∈ zs.take len, 0 ≤ x ∧ x ≤ 255 := by
  intro x hx
  have hx := List.mem_of_mem_take hx
  rcases h with ⟨_, _, _, rfl⟩ | ⟨g, _, _, _, _, _, hwf⟩
  · cases hx
  · exact bounds_u8 (hwf x hx)
end Go.Proofs.YtnheekadeflecaaGreat
