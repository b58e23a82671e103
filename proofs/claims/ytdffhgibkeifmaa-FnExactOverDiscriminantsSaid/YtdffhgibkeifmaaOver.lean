import Derived.Test.YtdffhgibkeifmaaList
import Derived.Deep.AppendLies
import Derived.OwnWalk
import Derived.WalkSmall
import Derived.Laws.OwnMore
import Derived.ProofKit
import Derived.OpenShut
import Derived.ShutString
import Derived.Lib.SmallJoins
namespace Go.Proofs.Ytdffhgibkeifmaa
open Go.RowKit
set_option linter.unusedSimpArgs false
set_option linter.unusedVariables false

theorem sq_2000 {K : Nat} {n : Int} (h : (K : Int) * K ≤ n) (hn : n ≤ 2000) : K ≤ 44 := by
  rcases Nat.lt_or_ge 44 K with h3 | h3
  · have := Nat.mul_le_mul h3 h3
    have h4 : ((44 + 1 : Nat) : Int) * ((44 + 1 : Nat) : Int) ≤ (K : Int) * K := by exact_mod_cast this
    omega
  · exact h3

def overFrom : Nat → Nat → Int → List Int
  | 0, _, _ => []
  | f + 1, k, d =>
    if (k : Int) * k ≤ -d then
      (if d.tmod ((k : Int) * k) = 0 ∧ discB (d.tdiv ((k : Int) * k)) = true then d.tdiv ((k : Int) * k) :: overFrom f (k + 1) d else overFrom f (k + 1) d)
    else []

theorem spec_odOver (d : Int) (w : World) (h1 : -2000 ≤ d) (h2 : d ≤ -3) :
    Calls Try.prog 52 #[.int .i64 d] w (RetI w.heap.size w (overFrom 60 1 d)) := by
  obtain ⟨i0, hi0, hz0, hz1, hz2⟩ := info_parts int_info
  go_enter Try.func52, Try.ntmps52
  go_wp2
  go_loopg [3, 4] 60 (fun f v kk wr => ∃ (K : Nat) (A : Option Addr) (cap n : Nat) (xs : List Int), kk = .int .i64 K ∧ v = .slice A n cap ∧ wr.ownsRow w.heap.size 3 1 (.slice A n cap) n (xs.map (Value.int .i64)) ∧ Below w.heap.size w wr ∧ 1 ≤ K ∧ K ≤ 50 ∧ n < K ∧ 60 < K + f ∧ Hid (n = xs.length ∧ xs ++ overFrom f K d = overFrom 60 1 d))
  case atStart => exact ⟨1, none, 0, 0, [], rfl, rfl, World.ownsRow_nil _ _ _ _, Below.refl _ _, by omega, by omega, by omega, by omega, by exact ⟨rfl, rfl⟩⟩
  case round =>
    obtain ⟨K, A, cap, n, xs, rfl, rfl, hown, hb, hK1, hK2, hn, hf, hH⟩ := hrel
    have hkk : (K : Int) * K ≤ 50 * 50 := sq_le hK2
    have hk0 : (1 : Int) ≤ (K : Int) * K := sq_pos hK1
    obtain ⟨f, rfl⟩ : ∃ f, gk = f + 1 := ⟨gk - 1, by omega⟩
    by_cases hle : (K : Int) * K ≤ -d
    · have hK' : K ≤ 44 := sq_2000 hle (by omega)
      by_cases hz : d.tmod ((K : Int) * K) = 0
      · have hzb : (d.tmod ((K : Int) * K) == 0) = true := by simp [hz]
        cases hd : discB (d.tdiv ((K : Int) * K))
        · have HN : Hid (overFrom (f + 1) K d = overFrom f (K + 1) d) := by show _ = _; simp [overFrom, hle, hz, hd]
          clear hz
          go_wp2_with (go_at_call 49; (with_reducible refine (spec_reDisc _ _).mono ?_); rintro e w' ⟨rfl, rfl⟩)
          go_roundg f
          case measure => omega
          case rel => exact ⟨K + 1, A, cap, n, xs, by go_num, rfl, hown, hb, by omega, by omega, by omega, by omega, by obtain ⟨e1, e2⟩ := hH.out; exact ⟨e1, by rw [← HN.out]; exact e2⟩⟩
        · have HN : Hid (overFrom (f + 1) K d = d.tdiv ((K : Int) * K) :: overFrom f (K + 1) d) := by show _ = _; simp [overFrom, hle, hz, hd]
          clear hz
          have hB := hb.size
          go_wp2_with (first | (go_at_call 49; (with_reducible refine (spec_reDisc _ _).mono ?_); rintro e w' ⟨rfl, rfl⟩) | (at_builtin; refine wpList_append_lies _ rfl _ _ 25 (by rfl) (w.heap.size) 3 i0 (.int .i64 0) 1 8 Try.underlying25 hi0 hz0 hz1 hz2 rfl (by decide) (.slice A n cap) (n) (xs.map (Value.int .i64)) (by rfl) (World.ownsRow.alloc hown _) ⟨wr.heap.size, 0, none⟩ 1 1 [_] (by rfl) rfl (cell_one_new _ _ _) (by simp [Value.oneCell']) (by decide) (by unfold maxLen; omega) (by omega) (by first | omega | (simp; omega)) (wr.heap.size + 1) (by simp) ?_; intro g1 cap1 w1 hown1 hg1 hat1 hlt1))
          go_roundg f
          case measure => omega
          case rel => exact ⟨K + 1, some ⟨g1, 0, none⟩, cap1, n + 1, xs ++ [d.tdiv ((K : Int) * K)], by go_num, rfl, by simpa using hown1, (hb.alloc hb.size _).grown hg1 (by simp; omega) (fun k hk => (hown.lt k hk).1), by omega, by omega, by omega, by omega, by obtain ⟨e1, e2⟩ := hH.out; exact ⟨by simp [e1], by rw [← e2, HN.out]; simp⟩⟩
      · have hzb : (d.tmod ((K : Int) * K) == 0) = false := by simp [hz]
        have HN : Hid (overFrom (f + 1) K d = overFrom f (K + 1) d) := by show _ = _; simp [overFrom, hle, hz]
        clear hz
        go_wp2_with (go_at_call 49; (with_reducible refine (spec_reDisc _ _).mono ?_); rintro e w' ⟨rfl, rfl⟩)
        go_roundg f
        case measure => omega
        case rel => exact ⟨K + 1, A, cap, n, xs, by go_num, rfl, hown, hb, by omega, by omega, by omega, by omega, by obtain ⟨e1, e2⟩ := hH.out; exact ⟨e1, by rw [← HN.out]; exact e2⟩⟩
    · have HN : Hid (overFrom (f + 1) K d = []) := by show _ = _; simp [overFrom, hle]
      go_wp2_with fail
      go_ret
      obtain ⟨e1, e2⟩ := hH.out
      rw [HN.out, List.append_nil] at e2
      subst e2
      exact ⟨A, cap, n, rfl, e1, hown, hb⟩

theorem mul_bd1 {e : Int} (h1 : 1 ≤ e) (h2 : e ≤ 44) : 1 ≤ e * e ∧ e * e ≤ 1936 := by
  have a := Int.mul_le_mul h2 h2 (by omega) (by omega)
  have b := Int.mul_le_mul h1 h1 (by omega) (by omega)
  omega
def overImpl (d : Int) : List Int := (divsOf (fundK d)).map fun e => d.tdiv (e * e)
def overChk (d : Int) : Bool := !discB d || (decide (1 ≤ fundK d ∧ fundK d ≤ 44) && ((divsOf (fundK d)).all (fun e => decide (1 ≤ e ∧ e ≤ 44)) && (decide ((divsOf (fundK d)).length ≤ 44) && decide (overImpl d = overFrom 60 1 d))))
theorem over_all : ((List.range 1998).all fun i => overChk (-(i : Int) - 3)) = true := by decide +kernel
theorem over_facts {d : Int} (h : discB d = true) : (1 ≤ fundK d ∧ fundK d ≤ 44) ∧ (∀ e ∈ divsOf (fundK d), 1 ≤ e ∧ e ≤ 44) ∧ (divsOf (fundK d)).length ≤ 44 ∧ overImpl d = overFrom 60 1 d := by
  obtain ⟨h1, h2, h3⟩ := discB_iff.1 h
  have hi : (-d - 3).toNat ∈ List.range 1998 := List.mem_range.2 (by omega)
  have hc := List.all_eq_true.1 over_all _ hi
  have e : -(((-d - 3).toNat : Nat) : Int) - 3 = d := by omega
  rw [e] at hc
  unfold overChk at hc
  rw [h] at hc
  simp only [Bool.not_true, Bool.false_or, Bool.and_eq_true, decide_eq_true_eq, List.all_eq_true] at hc
  exact ⟨hc.1, hc.2.1, hc.2.2.1, hc.2.2.2⟩

theorem impl_OrdersAbove_no (d : Int) (w : World) (h : discB d = false) :
    Calls Try.prog 53 #[.int .i64 d] w (RetIB w.heap.size w [] false) := by
  go_enter Try.func53, Try.ntmps53
  go_wp2_with (go_at_call 71; (with_reducible refine (impl_isNegativeDisc _ _).mono ?_); rintro e w' ⟨rfl, rfl⟩)
  go_ret2
  exact ⟨some ⟨w.heap.size, 0, none⟩, 0, 0, rfl, rfl, World.ownsRow_made w #[] 0 (Nat.le_refl _) (Nat.zero_le _) rfl, (Below.refl _ _).alloc (Nat.le_refl _) _⟩

theorem impl_OrdersAbove_yes (d : Int) (w : World) (h : discB d = true) :
    Calls Try.prog 53 #[.int .i64 d] w (RetIB w.heap.size w (overFrom 60 1 d) true) := by
  obtain ⟨⟨f1, f2⟩, f3, f4, f5⟩ := over_facts h
  obtain ⟨d1, d2, d3⟩ := discB_iff.1 h
  rw [← f5]
  unfold overImpl
  have hdiv := fun W => impl_divisors (fundK d) W f1 (by omega)
  generalize divsOf (fundK d) = ds at *
  generalize hk : fundK d = k at *
  have hfun := fun W => impl_fundamental d W (by omega) (by omega) (by omega)
  rw [hk] at hfun
  have Hdiv := Lib.hid hdiv
  have Hfun := Lib.hid hfun
  have F3 := Lib.hid f3
  clear hdiv hfun hk f3 f5 d3
  obtain ⟨i0, hi0, hz0, hz1, hz2⟩ := info_parts int_info
  go_enter Try.func53, Try.ntmps53
  go_wp2_with (first | (go_at_call 71; (with_reducible refine (impl_isNegativeDisc _ _).mono ?_); rintro e w' ⟨rfl, rfl⟩) | (go_at_call 72; (with_reducible refine (Hfun.out _).mono ?_); rintro e w' ⟨rfl, rfl⟩) | (go_at_call 95; (with_reducible refine (Hdiv.out _).mono ?_); rintro e w1 ⟨A1, cap1, n1, rfl, hn1, hown1, hb1⟩; have Hn1 := Lib.hid hn1; have hb2 : Below w.heap.size w w1 := ((Below.refl _ _).alloc (Nat.le_refl _) _).trans (hb1.mono (by simp)); have ho2 : w1.ownsRow w.heap.size 3 1 (.slice (some ⟨w.heap.size, 0, none⟩) 0 0) 0 [] := own_below (World.ownsRow_made w #[] 0 (Nat.le_refl _) (Nat.zero_le _) rfl) hb1; have hq1 : n1 ≤ 44 := (by omega); clear hn1))
  have hix := isIx_of_own (r := (Value.slice (some ⟨w.heap.size, 0, none⟩) 0 0).ownBlock) hown1 Hn1.out (fun g e => by simp [Value.ownBlock] at e; simp; omega)
  clear hown1 hb1
  go_loopg [6, 22] n1 (fun q lo ii wr => ∃ (i m cap : Nat) (A : Option Addr) (xs : List Int), ii = .int .i64 i ∧ lo = .slice A m cap ∧ wr.ownsRow w.heap.size 3 1 (.slice A m cap) m (xs.map (Value.int .i64)) ∧ IsIx wr (Value.slice A m cap).ownBlock A1 n1 ds ∧ Below w.heap.size w wr ∧ m = i ∧ i + q = n1 ∧ Hid (m = xs.length ∧ xs = (ds.take i).map fun e => d.tdiv (e * e)))
  case atStart => exact ⟨0, 0, 0, _, [], rfl, rfl, ho2, hix, hb2, rfl, by omega, by exact ⟨rfl, by simp⟩⟩
  case round =>
    obtain ⟨i, m, cap, A, xs, rfl, rfl, hown, hx, hb, hm, hk, hH⟩ := hrel
    subst hm
    have HK := Lib.hid hk
    have hB := hb.size
    by_cases hi : m < n1
    · obtain ⟨g2, hA, hr, hg2, hc⟩ := hx.2 (by omega)
      have hil : m < ds.length := by have := Hn1.out; omega
      have hcc := hc m hil
      obtain ⟨e1, e2⟩ := F3.out ds[m] (List.getElem_mem hil)
      have hT : Hid ((ds.take (m + 1)).map (fun e => d.tdiv (e * e)) = (ds.take m).map (fun e => d.tdiv (e * e)) ++ [d.tdiv (ds[m] * ds[m])]) := by
        show _ = _
        rw [List.take_succ_eq_append_getElem hil, List.map_append]
        rfl
      generalize ds[m] = e at *
      obtain ⟨e3, e4⟩ := mul_bd1 e1 e2
      clear hc hk hr
      subst hA
      go_wp2_with (at_builtin; refine wpList_append_lies _ rfl _ _ 25 (by rfl) (w.heap.size) 3 i0 (.int .i64 0) 1 8 Try.underlying25 hi0 hz0 hz1 hz2 rfl (by decide) (.slice A m cap) (m) (xs.map (Value.int .i64)) (by rfl) (World.ownsRow.alloc hown _) ⟨wr.heap.size, 0, none⟩ 1 1 [_] (by rfl) rfl (cell_one_new _ _ _) (by simp [Value.oneCell']) (by decide) (by unfold maxLen; omega) (by omega) (by first | omega | (simp; omega)) (wr.heap.size + 1) (by simp) ?_; intro g1 cap1 w1 hown1 hg1 hat1 hlt1)
      go_roundg (gk - 1)
      case measure => have := HK.out; omega
      case rel =>
        obtain ⟨h1, h2⟩ := hH.out
        exact ⟨m + 1, m + 1, cap1, _, xs ++ [d.tdiv (e * e)], by go_num, rfl, own_app hown1 rfl, hx.app hg1 hat1, app_below hb hB hown hg1, rfl, by have := HK.out; omega, by exact ⟨by simp [h1], by rw [hT.out, h2]⟩⟩
    · obtain rfl : m = n1 := by omega
      clear hk
      go_wp2_with fail
      go_ret2
      obtain ⟨h1, h2⟩ := hH.out
      rw [List.take_of_length_le (by have := Hn1.out; omega)] at h2
      exact ⟨A, cap, m, rfl, by rw [← h2]; exact h1, by rw [← h2]; exact hown, hb⟩

theorem spec_OverDiscriminants_no (d : Int) (w : World) (h : discB d = false) :
    Calls Try.prog 16 #[.int .i64 d] w (RetIB w.heap.size w [] false) := by
  go_enter Try.func16, Try.ntmps16
  go_wp2_with (go_at_call 49; (with_reducible refine (spec_reDisc _ _).mono ?_); rintro e w' ⟨rfl, rfl⟩)
  go_ret2
  exact ⟨none, 0, 0, rfl, rfl, World.ownsRow_nil _ _ _ _, Below.refl _ _⟩

theorem spec_OverDiscriminants_yes (d : Int) (w : World) (h : discB d = true) :
    Calls Try.prog 16 #[.int .i64 d] w (RetIB w.heap.size w (overFrom 60 1 d) true) := by
  obtain ⟨d1, d2, d3⟩ := discB_iff.1 h
  clear d3
  go_enter Try.func16, Try.ntmps16
  go_wp2_with (first | (go_at_call 49; (with_reducible refine (spec_reDisc _ _).mono ?_); rintro e w' ⟨rfl, rfl⟩) | (go_at_call 52; (with_reducible refine (spec_odOver _ _ (by omega) (by omega)).mono ?_); rintro e w1 ⟨A1, cap1, n1, rfl, hn1, hown1, hb1⟩; have Hn1 := Lib.hid hn1; clear hn1))
  go_ret2
  exact ⟨A1, cap1, n1, rfl, Hn1.out, hown1, hb1⟩

theorem impl_OverDiscriminants_no (d : Int) (w : World) (h : discB d = false) :
    Calls Try.prog 17 #[.int .i64 d] w (RetIB w.heap.size w [] false) := by
  go_enter Try.func17, Try.ntmps17
  go_wp2_with fail
  refine (impl_OrdersAbove_no _ _ h).mono ?_
  rintro e w1 ⟨A1, cap1, n1, rfl, hn1, hown1, hb1⟩
  have Hn1 := Lib.hid hn1
  clear hn1
  go_wp2_with fail
  go_ret2
  exact ⟨A1, cap1, n1, rfl, Hn1.out, hown1, hb1⟩

theorem impl_OverDiscriminants_yes (d : Int) (w : World) (h : discB d = true) :
    Calls Try.prog 17 #[.int .i64 d] w (RetIB w.heap.size w (overFrom 60 1 d) true) := by
  go_enter Try.func17, Try.ntmps17
  go_wp2_with fail
  refine (impl_OrdersAbove_yes _ _ h).mono ?_
  rintro e w1 ⟨A1, cap1, n1, rfl, hn1, hown1, hb1⟩
  have Hn1 := Lib.hid hn1
  clear hn1
  go_wp2_with fail
  go_ret2
  exact ⟨A1, cap1, n1, rfl, Hn1.out, hown1, hb1⟩

end Go.Proofs.Ytdffhgibkeifmaa
