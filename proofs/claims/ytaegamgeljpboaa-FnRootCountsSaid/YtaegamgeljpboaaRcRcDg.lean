/-
  Values that are counted in the digits of one number; the quick counts as lengths of lists.
  Conditions: none.
-/
import Derived.Test.YtaegamgeljpboaaRcRcT0
import Derived.Test.YtaegamgeljpboaaRcVlIm
namespace Go.Proofs.Ytaegamgeljpboaa
set_option linter.unusedVariables false
set_option linter.unusedSimpArgs false

/-- The number whose digits count the values. -/
def dS : List Nat → Nat
  | [] => 0
  | v :: l => 1048576 ^ v + dS l
theorem dS_app : ∀ (a b : List Nat), dS (a ++ b) = dS a + dS b
  | [], b => by simp [dS]
  | v :: a, b => by
    have := dS_app a b
    simp only [List.cons_append, dS, this]
    omega
theorem dS_split (n : Nat) : ∀ l : List Nat, ∃ lo hi, dS l = lo + (l.count n + hi * 1048576) * 1048576 ^ n ∧ lo * 1048576 ≤ l.length * 1048576 ^ n
  | [] => ⟨0, 0, by simp [dS], by simp⟩
  | v :: l => by
    obtain ⟨lo, hi, e, h⟩ := dS_split n l
    have hlen : (l.length + 1) * 1048576 ^ n = l.length * 1048576 ^ n + 1048576 ^ n := by rw [Nat.add_mul, Nat.one_mul]
    rw [List.length_cons, hlen]
    clear hlen
    rcases Nat.lt_trichotomy v n with h1 | h1 | h1
    · refine ⟨lo + 1048576 ^ v, hi, ?_, ?_⟩
      · rw [dS, e, List.count_cons_of_ne (by omega)]; omega
      · have h2 : 1048576 ^ (v + 1) ≤ 1048576 ^ n := Nat.pow_le_pow_right (by omega) h1
        rw [Nat.pow_succ] at h2
        rw [Nat.add_mul lo]
        exact Nat.add_le_add h h2
    · refine ⟨lo, hi, ?_, Nat.le_trans h (Nat.le_add_right _ _)⟩
      rw [dS, e, h1, List.count_cons_self]
      generalize 1048576 ^ n = P
      generalize List.count n l = c
      rw [show c + 1 + hi * 1048576 = (c + hi * 1048576) + 1 by omega, Nat.add_mul (c + hi * 1048576) 1 P, Nat.one_mul]
      omega
    · obtain ⟨j, rfl⟩ : ∃ j, v = j + (n + 1) := ⟨v - (n + 1), by omega⟩
      refine ⟨lo, hi + 1048576 ^ j, ?_, Nat.le_trans h (Nat.le_add_right _ _)⟩
      rw [dS, e, List.count_cons_of_ne (by omega), Nat.pow_add, Nat.pow_succ]
      generalize 1048576 ^ n = P
      generalize 1048576 ^ j = Q
      generalize List.count n l = c
      have e1 : Q * (P * 1048576) = (Q * 1048576) * P := by rw [Nat.mul_assoc, Nat.mul_comm P]
      have e2 : (c + (hi + Q) * 1048576) * P = (c + hi * 1048576) * P + (Q * 1048576) * P := by rw [← Nat.add_mul]; congr 1; omega
      rw [e1, e2]
      omega
theorem dig {l : List Nat} (hl : l.length < 1048576) (n : Nat) : dS l / 1048576 ^ n % 1048576 = l.count n := by
  obtain ⟨lo, hi, e, h⟩ := dS_split n l
  have hB : 0 < 1048576 ^ n := Nat.pow_pos (by omega)
  have hlo : lo < 1048576 ^ n := by
    rcases Nat.lt_or_ge lo (1048576 ^ n) with h1 | h1
    · exact h1
    · have h2 : (l.length + 1) * 1048576 ^ n ≤ 1048576 * 1048576 ^ n := Nat.mul_le_mul_right _ hl
      rw [Nat.succ_mul] at h2
      omega
  have hc : l.count n ≤ l.length := List.count_le_length
  rw [e, Nat.add_mul_div_right _ _ hB, Nat.div_eq_of_lt hlo, Nat.zero_add, Nat.add_mul_mod_self_right, Nat.mod_eq_of_lt (by omega)]

/-- Whole numbers in a row. -/
def ups : Nat → Int → List Int
  | 0, _ => []
  | f + 1, y => y :: ups f (y + 1)
theorem mem_ups : ∀ (f : Nat) (y z : Int), z ∈ ups f y ↔ y ≤ z ∧ z < y + f
  | 0, y, z => by simp [ups]
  | f + 1, y, z => by
    rw [ups, List.mem_cons, mem_ups f (y + 1) z]
    push_cast
    omega
theorem ups_lt : ∀ (f : Nat) (y : Int), (ups f y).Pairwise (· < ·)
  | 0, y => List.Pairwise.nil
  | f + 1, y => by
    rw [ups, List.pairwise_cons]
    refine ⟨fun z hz => ?_, ups_lt f (y + 1)⟩
    have := (mem_ups f (y + 1) z).1 hz
    omega
theorem ups_len : ∀ (f : Nat) (y : Int), (ups f y).length = f
  | 0, y => rfl
  | f + 1, y => by rw [ups, List.length_cons, ups_len f (y + 1)]
def vq (A B C : Int) (p : Int × Int) : Int := A * p.1 * p.1 + B * p.1 * p.2 + C * p.2 * p.2
def okQ (A B C : Int) (p : Int × Int) : Bool := okP p.1 p.2 (vq A B C p)
def vn (A B C : Int) (p : Int × Int) : Nat := (vq A B C p).natAbs
def colP (A B C x : Int) (g : Nat) (y0 : Int) : List (Int × Int) := ((ups g y0).map fun y => (x, y)).filter (okQ A B C)
def enP (A B C : Int) (g : Nat) (y0 : Int) (f : Nat) (x : Int) : List (Int × Int) := (ups f x).flatMap fun x => colP A B C x g y0
theorem rcY_eq (A B C x : Int) : ∀ (g : Nat) (y : Int) (acc : Nat), rcY A B C x g y acc = acc + dS ((colP A B C x g y).map (vn A B C))
  | 0, y, acc => rfl
  | g + 1, y, acc => by
    rw [rcY, sI_eq, fM_eq, sI_eq, rcY_eq A B C x g]
    have e : okP x y (A * x * x + B * x * y + C * y * y) = okQ A B C (x, y) := rfl
    rw [e]
    unfold colP
    rw [ups, List.map_cons, List.filter_cons]
    cases okQ A B C (x, y) with
    | false => rw [cond_false]; rfl
    | true =>
      rw [cond_true, if_pos rfl, List.map_cons, dS]
      show acc + 1048576 ^ (vn A B C (x, y)) + _ = _
      omega
theorem rcX_eq (A B C : Int) (g : Nat) (y0 : Int) : ∀ (f : Nat) (x : Int) (acc : Nat), rcX A B C g y0 f x acc = acc + dS ((enP A B C g y0 f x).map (vn A B C))
  | 0, x, acc => rfl
  | f + 1, x, acc => by
    rw [rcX, fM_eq, sI_eq, rcX_eq A B C g y0 f, rcY_eq]
    unfold enP
    rw [ups, List.flatMap_cons, List.map_append, dS_app]
    omega
theorem mem_colP {A B C x : Int} {g : Nat} {y0 : Int} {p : Int × Int} : p ∈ colP A B C x g y0 ↔ p.1 = x ∧ (y0 ≤ p.2 ∧ p.2 < y0 + g) ∧ okQ A B C p = true := by
  unfold colP
  rw [List.mem_filter, List.mem_map]
  constructor
  · rintro ⟨⟨y, hy, rfl⟩, h⟩
    exact ⟨rfl, (mem_ups _ _ _).1 hy, h⟩
  · rintro ⟨h1, h2, h3⟩
    exact ⟨⟨p.2, (mem_ups _ _ _).2 h2, by rw [← h1]⟩, h3⟩
theorem mem_enP {A B C : Int} {g f : Nat} {y0 x : Int} {p : Int × Int} : p ∈ enP A B C g y0 f x ↔ (x ≤ p.1 ∧ p.1 < x + f) ∧ (y0 ≤ p.2 ∧ p.2 < y0 + g) ∧ okQ A B C p = true := by
  unfold enP
  rw [List.mem_flatMap]
  constructor
  · rintro ⟨z, hz, hp⟩
    obtain ⟨h1, h2, h3⟩ := mem_colP.1 hp
    rw [h1]
    exact ⟨(mem_ups _ _ _).1 hz, h2, h3⟩
  · rintro ⟨h1, h2, h3⟩
    exact ⟨p.1, (mem_ups _ _ _).2 h1, mem_colP.2 ⟨rfl, h2, h3⟩⟩
theorem srt_enP {A B C : Int} {g f : Nat} {y0 x : Int} : Srt (enP A B C g y0 f x) := by
  unfold Srt enP
  rw [List.pairwise_flatMap]
  constructor
  · intro a ha
    unfold colP
    refine List.Pairwise.filter _ ?_
    rw [List.pairwise_map]
    exact (ups_lt g y0).imp fun h => .inr ⟨rfl, h⟩
  · refine (ups_lt f x).imp fun {a b} h p hp q hq => .inl ?_
    rw [(mem_colP.1 hp).1, (mem_colP.1 hq).1]
    exact h
theorem len_colP (A B C x : Int) (g : Nat) (y0 : Int) : (colP A B C x g y0).length ≤ g := by
  unfold colP
  refine Nat.le_trans (List.length_filter_le _ _) ?_
  rw [List.length_map, ups_len]
  exact Nat.le_refl _
theorem len_enP (A B C : Int) (g : Nat) (y0 : Int) : ∀ (f : Nat) (x : Int), (enP A B C g y0 f x).length ≤ f * g
  | 0, x => by simp [enP, ups]
  | f + 1, x => by
    have h := len_enP A B C g y0 f (x + 1)
    have h2 := len_colP A B C x g y0
    unfold enP at h ⊢
    rw [ups, List.flatMap_cons, List.length_append, Nat.succ_mul]
    omega
/-- The bounds and the points of a form. -/
def bX (D : Nat) (f : Int × Int × Int) : Nat := rcB D (Nat.mul 800 f.2.2.natAbs) 40 0
def bY (D : Nat) (f : Int × Int × Int) : Nat := rcB D (Nat.mul 800 f.1.natAbs) 40 0
def pF (D : Nat) (f : Int × Int × Int) : List (Int × Int) := enP f.1 f.2.1 f.2.2 (Nat.succ (Nat.mul 2 (bY D f))) (-(bY D f : Int)) (Nat.succ (Nat.mul 2 (bX D f))) (-(bX D f : Int))
def vF (f : Int × Int × Int) : Int × Int → Nat := vn f.1 f.2.1 f.2.2
def aF (D : Nat) : List (Int × Int × Int) → List Nat
  | [] => []
  | f :: r => (pF D f).map (vF f) ++ aF D r
theorem rcL_eq (D : Nat) : ∀ (l : List (Int × Int × Int)) (acc H : Nat), rcL D l acc = some H → H = acc + dS (aF D l) ∧ ∀ f ∈ l, rcF D f.1 f.2.1 f.2.2 (bX D f) (bY D f) = true
  | [], acc, H, h => by
    injection h with h
    exact ⟨h.symm, fun f hf => by cases hf⟩
  | f :: r, acc, H, h => by
    rw [rcL, sI_eq, sI_eq, sI_eq, fM_eq, fM_eq] at h
    have h : (bif rcF D f.1 f.2.1 f.2.2 (bX D f) (bY D f) then sI (-(bX D f : Int)) fun x0 => sI (-(bY D f : Int)) fun y0 => fM (Nat.succ (Nat.mul 2 (bY D f))) fun g => fM (rcX f.1 f.2.1 f.2.2 g y0 (Nat.succ (Nat.mul 2 (bX D f))) x0 acc) fun a => rcL D r a else none) = some H := h
    cases hf : rcF D f.1 f.2.1 f.2.2 (bX D f) (bY D f) with
    | false => rw [hf] at h; cases h
    | true =>
      rw [hf, cond_true, sI_eq, sI_eq, fM_eq, fM_eq, rcX_eq] at h
      obtain ⟨h1, h2⟩ := rcL_eq D r _ H h
      refine ⟨?_, fun g hg => ?_⟩
      · rw [aF, dS_app, h1]
        show acc + dS ((pF D f).map (vF f)) + dS (aF D r) = _
        omega
      · rcases List.mem_cons.1 hg with hg | hg
        · rw [hg]; exact hf
        · exact h2 g hg
theorem nbleD (a b : Nat) : Nat.ble a b = decide (a ≤ b) := by
  rw [Bool.eq_iff_iff, decide_eq_true_iff, Nat.ble_eq]
theorem nbeqD (a b : Nat) : Nat.beq a b = decide (a = b) := by
  rw [Bool.eq_iff_iff, decide_eq_true_iff, Nat.beq_eq]
theorem bif_t {c : Bool} {x : Bool} (h : (bif c then x else false) = true) : c = true ∧ x = true := by
  cases c with
  | false => cases h
  | true => exact ⟨rfl, h⟩
theorem bif_f {c : Bool} {x : Bool} (h : (bif c then false else x) = true) : c = false ∧ x = true := by
  cases c with
  | true => cases h
  | false => exact ⟨rfl, h⟩
theorem rcF_eq {D : Nat} {A B C : Int} {X Y : Nat} (h : rcF D A B C X Y = true) : (1 ≤ A ∧ A ≤ 1000) ∧ (-1000 ≤ B ∧ B ≤ 1000) ∧ (1 ≤ C ∧ C ≤ 1000) ∧ B * B - 4 * A * C = -(D : Int) ∧ X ≤ 40 ∧ Y ≤ 40 ∧ 800 * C.natAbs < D * ((X + 1) * (X + 1)) ∧ 800 * A.natAbs < D * ((Y + 1) * (Y + 1)) := by
  unfold rcF at h
  simp only [leI_eq, eqI_eq, nbleD] at h
  obtain ⟨h1, h⟩ := bif_t h
  obtain ⟨h2, h⟩ := bif_t h
  obtain ⟨h3, h⟩ := bif_t h
  obtain ⟨h4, h⟩ := bif_t h
  obtain ⟨h5, h⟩ := bif_t h
  obtain ⟨h6, h⟩ := bif_t h
  obtain ⟨h7, h⟩ := bif_t h
  obtain ⟨h8, h⟩ := bif_t h
  obtain ⟨h9, h⟩ := bif_t h
  obtain ⟨h10, h⟩ := bif_f h
  obtain ⟨h11, _⟩ := bif_f h
  have h10 := of_decide_eq_false h10
  have h11 := of_decide_eq_false h11
  exact ⟨⟨of_decide_eq_true h1, of_decide_eq_true h2⟩, ⟨of_decide_eq_true h3, of_decide_eq_true h4⟩, ⟨of_decide_eq_true h5, of_decide_eq_true h6⟩, eq_of_beq h7, of_decide_eq_true h8, of_decide_eq_true h9, Nat.lt_of_not_le h10, Nat.lt_of_not_le h11⟩
theorem len_aF (D : Nat) : ∀ l : List (Int × Int × Int), (∀ f ∈ l, rcF D f.1 f.2.1 f.2.2 (bX D f) (bY D f) = true) → (aF D l).length ≤ 6561 * l.length
  | [], _ => by simp [aF]
  | f :: r, h => by
    have h1 := len_aF D r fun g hg => h g (List.mem_cons_of_mem _ hg)
    obtain ⟨_, _, _, _, hX, hY, _, _⟩ := rcF_eq (h f List.mem_cons_self)
    have h2 := len_enP f.1 f.2.1 f.2.2 (Nat.succ (Nat.mul 2 (bY D f))) (-(bY D f : Int)) (Nat.succ (Nat.mul 2 (bX D f))) (-(bX D f : Int))
    have h3 : Nat.succ (Nat.mul 2 (bX D f)) * Nat.succ (Nat.mul 2 (bY D f)) ≤ 81 * 81 := Nat.mul_le_mul (by show 2 * bX D f + 1 ≤ 81; omega) (by show 2 * bY D f + 1 ≤ 81; omega)
    rw [aF, List.length_append, List.length_map, List.length_cons]
    unfold pF
    omega
theorem cnt_aF (D n : Nat) : ∀ l : List (Int × Int × Int), (aF D l).count n = (l.map fun f => ((pF D f).filter fun p => vF f p == n).length).sum
  | [] => rfl
  | f :: r => by
    rw [aF, List.count_append, cnt_aF D n r, List.map_cons, List.sum_cons]
    congr 1
    rw [List.count, List.countP_map, List.countP_eq_length_filter]
    rfl
theorem rcN_eq (w p m : Nat) : ∀ (f n H : Nat), rcN w p m f n H = true → ∀ j, j < f → H / 1048576 ^ j % 1048576 = w * rcQ (n + j) p m (n + j) 0
  | 0, n, H, _, j, hj => by omega
  | f + 1, n, H, h, j, hj => by
    rw [rcN, fM_eq, fM_eq] at h
    obtain ⟨h1, h2⟩ := bif_t h
    match j, hj with
    | 0, _ =>
      rw [nbeqD] at h1
      have h1 := of_decide_eq_true h1
      rw [Nat.pow_zero, Nat.div_one]
      exact h1
    | j + 1, hj =>
      have := rcN_eq w p m f (n + 1) _ h2 j (by omega)
      rw [show n + (j + 1) = n + 1 + j by omega, ← this, Nat.pow_succ, Nat.mul_comm (1048576 ^ j), ← Nat.div_div_eq_div_mul]
      rfl
/-- Is b = 2 k + p a root, and the form primitive? -/
def tQ (n p m k : Nat) : Bool := decide ((k * (k + p) + m) % n = 0) && decide (Nat.gcd n (Nat.gcd (2 * k + p) ((k * (k + p) + m) / n)) ≤ 1)
theorem rcQ_eq (n p m : Nat) : ∀ (f acc : Nat), rcQ n p m f acc = acc + ((List.range f).filter (tQ n p m)).length
  | 0, acc => rfl
  | f + 1, acc => by
    have ih := rcQ_eq n p m f
    rw [List.range_succ, List.filter_append, List.length_append, List.filter_cons, List.filter_nil]
    have e : rcQ n p m (f + 1) acc = @Nat.rec (fun _ => Nat)
      (@Nat.rec (fun _ => Nat) (rcQ n p m f (Nat.succ acc)) (fun _ _ => rcQ n p m f acc) (Nat.pred (Nat.gcd n (Nat.gcd (Nat.add (Nat.mul 2 f) p) (Nat.div (Nat.add (Nat.mul f (Nat.add f p)) m) n)))))
      (fun _ _ => rcQ n p m f acc) (Nat.mod (Nat.add (Nat.mul f (Nat.add f p)) m) n) := rfl
    rw [e, ih, ih]
    have e1 : Nat.mod (Nat.add (Nat.mul f (Nat.add f p)) m) n = (f * (f + p) + m) % n := rfl
    have e2 : Nat.gcd n (Nat.gcd (Nat.add (Nat.mul 2 f) p) (Nat.div (Nat.add (Nat.mul f (Nat.add f p)) m) n)) = Nat.gcd n (Nat.gcd (2 * f + p) ((f * (f + p) + m) / n)) := rfl
    rw [e1, e2]
    generalize hGe : Nat.gcd n (Nat.gcd (2 * f + p) ((f * (f + p) + m) / n)) = G
    cases hr : (f * (f + p) + m) % n with
    | succ r =>
      have : ¬ tQ n p m f = true := by unfold tQ; rw [hr]; simp
      rw [if_neg this]
      rfl
    | zero =>
      by_cases hG : G ≤ 1
      · have : tQ n p m f = true := by unfold tQ; rw [hr]; simp [hGe, hG]
        rw [if_pos this, show Nat.pred G = 0 by rw [Nat.pred_eq_sub_one]; omega]
        show Nat.succ acc + _ = _
        rw [List.length_singleton]
        omega
      · have : ¬ tQ n p m f = true := by unfold tQ; rw [hr]; simp [hGe, hG]
        obtain ⟨q, rfl⟩ : ∃ q, G = q + 1 + 1 := ⟨G - 2, by omega⟩
        rw [if_neg this]
        rfl
end Go.Proofs.Ytaegamgeljpboaa
