import Derived.Test.YtdffhgibkeifmaaFree
import Derived.Deep.AppendLies
import Derived.Deep.Onto
import Derived.OwnWalk
import Derived.WalkSmall
import Derived.Laws.OwnMore
namespace Go.Proofs.Ytdffhgibkeifmaa
open Go.RowKit
set_option linter.unusedSimpArgs false
set_option linter.unusedVariables false

theorem int_info : (Try.prog.info? 3).map (fun i => (i.zero, i.size, i.bytes)) = some (some (.int .i64 0), 1, 8) := by kernel_rfl
/-- What a call that makes a list of ints leaves: the slice that it hands back is its own row of these ints. -/
def RetI (B : Nat) (w : World) (xs : List Int) (e : Ending) (w' : World) : Prop :=
  ∃ A cap n, e = .returned (.slice A n cap) ∧ n = xs.length ∧ w'.ownsRow B 3 1 (.slice A n cap) n (xs.map (Value.int .i64)) ∧ Below B w w'

theorem own_lt {w : World} {B e size n : Nat} {g cap : Nat} {xs : List Value} (h : w.ownsRow B e size (.slice (some ⟨g, 0, none⟩) n cap) n xs) : B ≤ g ∧ g < w.heap.size := h.lt g rfl
theorem own_keep {w w' : World} {B e size n : Nat} {g g2 cap : Nat} {xs : List Value} (h : w.ownsRow B e size (.slice (some ⟨g2, 0, none⟩) n cap) n xs) (hg : w.grownBy w' (some g)) (hne : g2 ≠ g) : w'.ownsRow B e size (.slice (some ⟨g2, 0, none⟩) n cap) n xs :=
  h.kept hg (.inr fun h => hne (by simpa [Value.ownBlock] using h))

def lowFrom : Nat → Nat → Int → List Int
  | 0, _, _ => []
  | f + 1, k, n => if (k : Int) * k ≤ n then (if n % k = 0 then (k : Int) :: lowFrom f (k + 1) n else lowFrom f (k + 1) n) else []
def highFrom : Nat → Nat → Int → List Int
  | 0, _, _ => []
  | f + 1, k, n => if (k : Int) * k ≤ n then (if n % k = 0 then (if (k : Int) * k = n then highFrom f (k + 1) n else n / (k : Int) :: highFrom f (k + 1) n) else highFrom f (k + 1) n) else []
def divsOf (n : Int) : List Int := lowFrom 1001 1 n ++ (highFrom 1001 1 n).reverse
theorem own_app {w : World} {B e n n2 : Nat} {v : Value} {xs : List Int} {x : Int} (h : w.ownsRow B e 1 v n (xs.map (Value.int .i64) ++ [.int .i64 x])) (hn : n = n2) : w.ownsRow B e 1 v n2 ((xs ++ [x]).map (Value.int .i64)) := by
  subst hn
  simpa using h
theorem sq_pos {K : Nat} (h : 1 ≤ K) : (1 : Int) ≤ (K : Int) * K := by
  have := Nat.mul_le_mul h h
  exact_mod_cast this
theorem own_cell {w : World} {B e n g cap : Nat} {xs : List Int} (h : w.ownsRow B e 1 (.slice (some ⟨g, 0, none⟩) n cap) n (xs.map (Value.int .i64))) {j : Nat} (hj : j < xs.length) (hn : n = xs.length) : w.cell? ⟨g, j, none⟩ = some (.int .i64 (xs[j]'hj)) := by
  rw [h.cellAt j (by omega)]
  simp [hj]
theorem app_below {w wr w1 : World} {B e n : Nat} {v : Value} {xs : List Value} {o : Obj} (hb : Below B w wr) (hB : B ≤ wr.heap.size) (h : wr.ownsRow B e 1 v n xs) (hg : (wr.alloc o).grownBy w1 v.ownBlock) : Below B w w1 :=
  (hb.alloc hB o).grown hg (by simp; omega) (fun k hk => (h.lt k hk).1)
theorem two_app {w wr w1 : World} {B e g cap m g2 cap2 m2 g1 : Nat} {X Y : List Value} {o : Obj} (hb : Below B w wr) (hB : B ≤ wr.heap.size) (h : wr.ownsRow B e 1 (.slice (some ⟨g, 0, none⟩) m cap) m X) (h2 : wr.ownsRow B e 1 (.slice (some ⟨g2, 0, none⟩) m2 cap2) m2 Y) (hne : g ≠ g2)
    (hg : (wr.alloc o).grownBy w1 (Value.slice (some ⟨g, 0, none⟩) m cap).ownBlock) (hat : (Value.slice (some ⟨g, 0, none⟩) m cap).ownBlock = some g1 ∨ g1 = wr.heap.size + 1) :
    w1.ownsRow B e 1 (.slice (some ⟨g2, 0, none⟩) m2 cap2) m2 Y ∧ g1 ≠ g2 ∧ Below B w w1 ∧ B ≤ w1.heap.size := by
  have hk := own_keep (h2.alloc o) hg (Ne.symm hne)
  have hbl := app_below hb hB h hg
  have hl := own_lt h2
  refine ⟨hk, ?_, hbl, ?_⟩
  · rcases hat with ha | ha
    · have : g = g1 := by simpa [Value.ownBlock] using ha
      omega
    · omega
  · have := own_lt hk
    omega

set_option maxHeartbeats 1600000 in
theorem impl_divisors (n : Int) (w : World) (h1 : 1 ≤ n) (h2 : n ≤ 1000000) :
    Calls Try.prog 95 #[.int .i64 n] w (RetI w.heap.size w (divsOf n)) := by
  obtain ⟨i0, hi0, hz0, hz1, hz2⟩ := info_parts int_info
  go_enter Try.func95, Try.ntmps95
  go_wp2
  go_loopg [3, 4, 5] 1001 (fun f lo hi kk wr => ∃ (K g cap m g2 cap2 m2 : Nat) (xs ys : List Int), kk = .int .i64 K ∧ lo = .slice (some ⟨g, 0, none⟩) m cap ∧ hi = .slice (some ⟨g2, 0, none⟩) m2 cap2 ∧
    wr.ownsRow w.heap.size 3 1 (.slice (some ⟨g, 0, none⟩) m cap) m (xs.map (Value.int .i64)) ∧ wr.ownsRow w.heap.size 3 1 (.slice (some ⟨g2, 0, none⟩) m2 cap2) m2 (ys.map (Value.int .i64)) ∧ g ≠ g2 ∧ Below w.heap.size w wr ∧
    1 ≤ K ∧ K ≤ 1001 ∧ m < K ∧ m2 < K ∧ 1002 ≤ K + f ∧ Hid (m = xs.length ∧ m2 = ys.length ∧ xs ++ lowFrom f K n = lowFrom 1001 1 n ∧ ys ++ highFrom f K n = highFrom 1001 1 n))
  case atStart =>
    refine ⟨1, w.heap.size, 0, 0, w.heap.size + 1, 0, 0, [], [], rfl, rfl, by simp, ?_, ?_, by omega, ?_, by omega, by omega, by omega, by omega, by omega, by exact ⟨rfl, rfl, rfl, rfl⟩⟩
    · exact (World.ownsRow_made w #[] 0 (Nat.le_refl _) (Nat.zero_le _) rfl).alloc _
    · have := World.ownsRow_made (w.alloc (.cells #[] 3)) #[] 0 (base := w.heap.size) (e := 3) (size := 1) (by simp) (Nat.zero_le _) rfl
      simpa using this
    · repeat (first | exact Below.refl _ _ | assumption | refine Below.setCell ?_ (by first | omega | (simp; done) | (simp; omega)) _ | refine Below.alloc ?_ (by first | omega | (simp; done) | (simp; omega)) _ | refine Below.drew ?_ | refine below_drewN ?_ _ | refine Below.trans ?_ (Below.mono (by assumption) (by first | omega | (simp; done) | (simp; omega))))
  case round =>
    obtain ⟨K, g, cap, m, g2, cap2, m2, xs, ys, rfl, rfl, rfl, hown, hown2, hne, hb, hK1, hK2, hm, hm2, hf, hH⟩ := hrel
    have hkk : (K : Int) * K ≤ 1001 * 1001 := sq_le hK2
    have hk0 := sq_pos hK1
    have hB := hb.size
    obtain ⟨l1, l2⟩ := own_lt hown
    obtain ⟨l3, l4⟩ := own_lt hown2
    by_cases hle : (K : Int) * K ≤ n
    · have hK' : K ≤ 1000 := sq_1000 hle h2
      obtain ⟨f, rfl⟩ : ∃ f, gk = f + 1 := ⟨gk - 1, by omega⟩
      by_cases hz : n % (K : Int) = 0
      · have hzb : (n % (K : Int) != 0) = false := by simp [hz]
        by_cases hq : (K : Int) * K = n
        · have hqb : ((K : Int) * K != n) = false := by simp [hq]
          have HN : Hid (lowFrom (f + 1) K n = (K : Int) :: lowFrom f (K + 1) n ∧ highFrom (f + 1) K n = highFrom f (K + 1) n) := by exact ⟨by simp only [lowFrom, if_pos hle, if_pos hz], by simp only [highFrom, if_pos hle, if_pos hz, if_pos hq]⟩
          clear hz hq
          go_wp2_with (at_builtin; refine wpList_append_lies _ rfl _ _ 25 (by rfl) (w.heap.size) 3 i0 (.int .i64 0) 1 8 Try.underlying25 hi0 hz0 hz1 hz2 rfl (by decide) (.slice (some ⟨g, 0, none⟩) m cap) (m) (xs.map (Value.int .i64)) (by rfl) (World.ownsRow.alloc hown _) ⟨wr.heap.size, 0, none⟩ 1 1 [_] (by rfl) rfl (cell_one_new _ _ _) (by simp [Value.oneCell']) (by decide) (by unfold maxLen; omega) (by omega) (by first | omega | (simp; omega)) (wr.heap.size + 1) (by simp) ?_; intro g1 cap1 w1 hown1 hg1 hat1 hlt1)
          go_roundg f
          case measure => omega
          case rel =>
            obtain ⟨e1, e2, e3, e4⟩ := hH.out
            obtain ⟨e5, e6⟩ := HN.out
            obtain ⟨t1, t2, t3, t4⟩ := two_app hb hB hown hown2 hne hg1 hat1
            exact ⟨K + 1, g1, cap1, m + 1, g2, cap2, m2, xs ++ [(K : Int)], ys, by go_num, rfl, rfl, own_app hown1 rfl, t1, t2, t3, by omega, by omega, by omega, by omega, by omega, by exact ⟨by simp [e1], e2, by rw [← e3, e5]; simp, by rw [← e4, e6]⟩⟩
        · have hqb : ((K : Int) * K != n) = true := by simp [hq]
          have HN : Hid (lowFrom (f + 1) K n = (K : Int) :: lowFrom f (K + 1) n ∧ highFrom (f + 1) K n = n / (K : Int) :: highFrom f (K + 1) n) := by exact ⟨by simp only [lowFrom, if_pos hle, if_pos hz], by simp only [highFrom, if_pos hle, if_pos hz, if_neg hq]⟩
          clear hz hq
          go_wp2_with (first | ((at_builtin; refine wpList_append_lies _ rfl _ _ 25 (by rfl) (w.heap.size) 3 i0 (.int .i64 0) 1 8 Try.underlying25 hi0 hz0 hz1 hz2 rfl (by decide) (.slice (some ⟨g, 0, none⟩) m cap) (m) (xs.map (Value.int .i64)) (by rfl) (World.ownsRow.alloc hown _) ⟨wr.heap.size, 0, none⟩ 1 1 [_] (by rfl) rfl (cell_one_new _ _ _) (by simp [Value.oneCell']) (by decide) (by unfold maxLen; omega) (by omega) (by first | omega | (simp; omega)) (wr.heap.size + 1) (by simp) ?_; intro g1 cap1 w1 hown1 hg1 hat1 hlt1); obtain ⟨t1, t2, t3, t4⟩ := two_app hb hB hown hown2 hne hg1 hat1) | (at_builtin; refine wpList_append_lies _ rfl _ _ 25 (by rfl) (w.heap.size) 3 i0 (.int .i64 0) 1 8 Try.underlying25 hi0 hz0 hz1 hz2 rfl (by decide) (.slice (some ⟨g2, 0, none⟩) m2 cap2) (m2) (ys.map (Value.int .i64)) (by rfl) (World.ownsRow.alloc t1 _) ⟨w1.heap.size, 0, none⟩ 1 1 [_] (by rfl) rfl (cell_one_new _ _ _) (by simp [Value.oneCell']) (by decide) (by unfold maxLen; omega) (by omega) (by first | omega | (simp; omega)) (w1.heap.size + 1) (by simp) ?_; intro g5 cap5 w5 hown5 hg5 hat5 hlt5))
          go_roundg f
          case measure => omega
          case rel =>
            obtain ⟨e1, e2, e3, e4⟩ := hH.out
            obtain ⟨e5, e6⟩ := HN.out
            obtain ⟨t5, t6, t7, t8⟩ := two_app t3 t4 t1 (own_app hown1 rfl) (Ne.symm t2) hg5 hat5
            exact ⟨K + 1, g1, cap1, m + 1, g5, cap5, m2 + 1, xs ++ [(K : Int)], ys ++ [n / (K : Int)], by go_num, rfl, rfl, t5, own_app hown5 rfl, Ne.symm t6, t7, by omega, by omega, by omega, by omega, by omega, by exact ⟨by simp [e1], by simp [e2], by rw [← e3, e5]; simp, by rw [← e4, e6]; simp⟩⟩
      · have hzb : (n % (K : Int) != 0) = true := by simp [hz]
        have HN : Hid (lowFrom (f + 1) K n = lowFrom f (K + 1) n ∧ highFrom (f + 1) K n = highFrom f (K + 1) n) := by exact ⟨by simp only [lowFrom, if_pos hle, if_neg hz], by simp only [highFrom, if_pos hle, if_neg hz]⟩
        clear hz
        go_wp2_with fail
        go_roundg f
        case measure => omega
        case rel =>
          obtain ⟨e1, e2, e3, e4⟩ := hH.out
          obtain ⟨e5, e6⟩ := HN.out
          exact ⟨K + 1, g, cap, m, g2, cap2, m2, xs, ys, by go_num, rfl, rfl, hown, hown2, hne, hb, by omega, by omega, by omega, by omega, by omega, by exact ⟨e1, e2, by rw [← e3, e5], by rw [← e4, e6]⟩⟩
    · have HN : Hid (xs = lowFrom 1001 1 n ∧ ys = highFrom 1001 1 n ∧ m = xs.length ∧ m2 = ys.length) := by
        obtain ⟨e1, e2, e3, e4⟩ := hH.out
        have e5 : lowFrom gk K n = [] := by cases gk <;> simp [lowFrom, hle]
        have e6 : highFrom gk K n = [] := by cases gk <;> simp [highFrom, hle]
        rw [e5, List.append_nil] at e3
        rw [e6, List.append_nil] at e4
        exact ⟨e3, e4, e1, e2⟩
      clear hH
      go_wp2_with fail
      go_loopg [3, 6] m2 (fun q lo ii wr2 => ∃ (g cap m : Nat) (zs : List Int), ii = .int .i64 ((q : Int) - 1) ∧ lo = .slice (some ⟨g, 0, none⟩) m cap ∧
        wr2.ownsRow w.heap.size 3 1 (.slice (some ⟨g, 0, none⟩) m cap) m (zs.map (Value.int .i64)) ∧ wr2.ownsRow w.heap.size 3 1 (.slice (some ⟨g2, 0, none⟩) m2 cap2) m2 (ys.map (Value.int .i64)) ∧ g ≠ g2 ∧ Below w.heap.size w wr2 ∧
        q ≤ m2 ∧ m + q ≤ 2002 ∧ Hid (m = zs.length ∧ zs ++ (ys.take q).reverse = xs ++ ys.reverse))
      case atStart => exact ⟨g, cap, m, xs, rfl, rfl, hown, hown2, hne, hb, by omega, by omega, by obtain ⟨_, _, e3, e4⟩ := HN.out; exact ⟨e3, by rw [e4, List.take_length]⟩⟩
      case round =>
        obtain ⟨g3, cap3, m3, zs, rfl, rfl, hw1, hw2, hne3, hb3, hq1, hq2, hG⟩ := hrel
        have hB3 := hb3.size
        by_cases hq : 1 ≤ gk
        · obtain ⟨q, rfl⟩ : ∃ q, gk = q + 1 := ⟨gk - 1, by omega⟩
          have hql : q < ys.length := by have := HN.out.2.2.2; omega
          have hc := own_cell hw2 hql HN.out.2.2.2
          have hfz := hw2.frozenAt q
          have hi : ((q + 1 : Nat) : Int) - 1 = (q : Int) := by omega
          rw [hi]
          clear hi
          go_wp2_with (at_builtin; refine wpList_append_lies _ rfl _ _ 25 (by rfl) (w.heap.size) 3 i0 (.int .i64 0) 1 8 Try.underlying25 hi0 hz0 hz1 hz2 rfl (by decide) (.slice (some ⟨g3, 0, none⟩) m3 cap3) (m3) (zs.map (Value.int .i64)) (by rfl) (World.ownsRow.alloc hw1 _) ⟨wr.heap.size, 0, none⟩ 1 1 [_] (by rfl) rfl (cell_one_new _ _ _) (by simp [Value.oneCell']) (by decide) (by unfold maxLen; omega) (by omega) (by first | omega | (simp; omega)) (wr.heap.size + 1) (by simp) ?_; intro g1 cap1 w1 hown1 hg1 hat1 hlt1)
          go_roundg q
          case measure => omega
          case rel =>
            obtain ⟨e1, e2⟩ := hG.out
            obtain ⟨t1, t2, t3, t4⟩ := two_app hb3 hB3 hw1 hw2 hne3 hg1 hat1
            exact ⟨g1, cap1, m3 + 1, zs ++ [ys[q]], rfl, rfl, own_app hown1 rfl, t1, t2, t3, by omega, by omega, by exact ⟨by simp [e1], by rw [← e2, List.take_succ_eq_append_getElem hql, List.reverse_append]; exact List.append_assoc _ _ _⟩⟩
        · obtain rfl : gk = 0 := by omega
          go_wp2_with fail
          go_ret
          obtain ⟨e1, e2⟩ := hG.out
          obtain ⟨e3, e4, _, _⟩ := HN.out
          simp at e2
          have e5 : zs = divsOf n := by rw [e2, e3, e4]; rfl
          exact ⟨_, cap3, m3, rfl, by rw [e1, e5], by rw [← e5]; exact hw1, hb3⟩

end Go.Proofs.Ytdffhgibkeifmaa
