import Derived.Test.YtdffhgibkeifmaaNum
namespace Go.Proofs.Ytdffhgibkeifmaa
open Go.RowKit
set_option linter.unusedSimpArgs false
set_option linter.unusedVariables false

def symTwo (n : Int) : Int := if n % 8 = 1 ∨ n % 8 = 7 then 1 else -1
theorem symTwo_bd (n : Int) : symTwo n = 1 ∨ symTwo n = -1 := by unfold symTwo; split <;> simp

theorem impl_symbolOfTwo (n : Int) (w : World) :
    Calls Try.prog 118 #[.int .i64 n] w fun e w' => e = .returned (.int .i64 (symTwo n)) ∧ w = w' := by
  by_cases h1 : n % 8 = 1
  · have e1 : symTwo n = 1 := by simp [symTwo, h1]
    have b1 : (n % 8 == 1) = true := by simp [h1]
    rw [e1]
    clear h1 e1
    go_enter Try.func118, Try.ntmps118
    go_wp2_with (go_at_call 113; (with_reducible refine (impl_mod _ _ _ (by omega) (by omega)).mono ?_); rintro e w' ⟨rfl, rfl⟩)
    go_ret
    exact ⟨rfl, rfl⟩
  · have b1 : (n % 8 == 1) = false := by simp [h1]
    by_cases h2 : n % 8 = 7
    · have e1 : symTwo n = 1 := by simp [symTwo, h2]
      have b2 : (n % 8 == 7) = true := by simp [h2]
      rw [e1]
      clear h1 h2 e1
      go_enter Try.func118, Try.ntmps118
      go_wp2_with (go_at_call 113; (with_reducible refine (impl_mod _ _ _ (by omega) (by omega)).mono ?_); rintro e w' ⟨rfl, rfl⟩)
      go_ret
      exact ⟨rfl, rfl⟩
    · have e1 : symTwo n = -1 := by simp [symTwo, h1, h2]
      have b2 : (n % 8 == 7) = false := by simp [h2]
      rw [e1]
      clear h1 h2 e1
      go_enter Try.func118, Try.ntmps118
      go_wp2_with (go_at_call 113; (with_reducible refine (impl_mod _ _ _ (by omega) (by omega)).mono ?_); rintro e w' ⟨rfl, rfl⟩)
      go_ret
      exact ⟨rfl, rfl⟩

def jacIn : Nat → Nat → Int → Int → Nat × Int
  | 0, a, s, _ => (a, s)
  | f + 1, a, s, t => if a % 2 = 0 then jacIn f (a / 2) (s * t) t else (a, s)
def flip (a n : Nat) (s : Int) : Int := if a % 4 = 3 ∧ n % 4 = 3 then -s else s
def jacGo : Nat → Nat → Nat → Int → Int
  | 0, _, n, s => if n = 1 then s else 0
  | f + 1, a, n, s => if a = 0 then (if n = 1 then s else 0) else jacGo f (n % (jacIn a a s (symTwo n)).1) (jacIn a a s (symTwo n)).1 (flip (jacIn a a s (symTwo n)).1 n (jacIn a a s (symTwo n)).2)
def jacOf (a : Int) (n : Nat) : Int := jacGo n (a % (n : Int)).toNat n 1
theorem pm_mul {s t : Int} (h1 : s = 1 ∨ s = -1) (h2 : t = 1 ∨ t = -1) : s * t = 1 ∨ s * t = -1 := by
  rcases h1 with rfl | rfl <;> rcases h2 with rfl | rfl <;> simp
theorem jacGo_zero (f n : Nat) (s : Int) : jacGo f 0 n s = if n = 1 then s else 0 := by cases f <;> simp [jacGo]

set_option maxHeartbeats 800000 in
theorem impl_jacobi (a : Int) (n : Nat) (w : World) (hn : 1 ≤ n) (hn2 : n ≤ 1000000) (ho : n % 2 = 1) :
    Calls Try.prog 119 #[.int .i64 a, .int .i64 n] w fun e w' => e = .returned (.int .i64 (jacOf a n)) ∧ w = w' := by
  have ha0 := Int.emod_nonneg a (b := n) (by omega)
  have ha1 := Int.emod_lt_of_pos a (b := n) (by omega)
  have Ho := Lib.hid ho
  clear ho
  go_enter Try.func119, Try.ntmps119
  go_wp2_with (go_at_call 113; (with_reducible refine (impl_mod _ _ _ (by omega) (by omega)).mono ?_); rintro e w' ⟨rfl, rfl⟩)
  go_loopg [0, 1, 5] n (fun f aa nn ss wr => w = wr ∧ ∃ (A N : Nat) (S : Int), aa = .int .i64 A ∧ nn = .int .i64 N ∧ ss = .int .i64 S ∧ A < N ∧ N ≤ 1000000 ∧ A ≤ f ∧ -1 ≤ S ∧ S ≤ 1 ∧ Hid (N % 2 = 1 ∧ (S = 1 ∨ S = -1) ∧ jacOf a n = jacGo f A N S))
  case atStart => exact ⟨rfl, (a % (n : Int)).toNat, n, 1, by congr 1; omega, rfl, rfl, by omega, hn2, by omega, by omega, by omega, by exact ⟨Ho.out, Or.inl rfl, rfl⟩⟩
  case round =>
    obtain ⟨rfl, A, N, S, rfl, rfl, rfl, hAN, hN, hf, hS1, hS2, hH⟩ := hrel
    by_cases hA : A = 0
    · subst hA
      have HE : Hid (jacOf a n = if N = 1 then S else 0) := by show _ = _; rw [hH.out.2.2, jacGo_zero]
      by_cases h1 : N = 1
      · subst h1
        go_wp2_with fail
        go_ret
        exact ⟨ret_int (by rw [HE.out]; rfl), rfl⟩
      · have hb : ((N : Int) != 1) = true := by rw [bne_iff_ne]; omega
        go_wp2_with fail
        go_ret
        exact ⟨ret_int (by rw [HE.out, if_neg h1]), rfl⟩
    · have hb : ((A : Int) != 0) = true := by rw [bne_iff_ne]; omega
      obtain ⟨f, rfl⟩ : ∃ f, gk = f + 1 := ⟨gk - 1, by omega⟩
      have HS : Hid (jacOf a n = jacGo f (N % (jacIn A A S (symTwo N)).1) (jacIn A A S (symTwo N)).1 (flip (jacIn A A S (symTwo N)).1 N (jacIn A A S (symTwo N)).2)) := by
        show _ = _
        rw [hH.out.2.2]
        simp only [jacGo, if_neg hA]
      have HN : Hid (N % 2 = 1 ∧ (S = 1 ∨ S = -1)) := by exact ⟨hH.out.1, hH.out.2.1⟩
      clear hH
      have Hpos : Hid (1 ≤ A) := by show _ ≤ _; omega
      clear hA
      go_wp2_with fail
      go_loopg [0, 5] A (fun g aa ss wr => w = wr ∧ ∃ (A2 : Nat) (S2 : Int), aa = .int .i64 A2 ∧ ss = .int .i64 S2 ∧ A2 ≤ g ∧ A2 ≤ A ∧ -1 ≤ S2 ∧ S2 ≤ 1 ∧ Hid (1 ≤ A2 ∧ (S2 = 1 ∨ S2 = -1) ∧ jacIn A A S (symTwo N) = jacIn g A2 S2 (symTwo N)))
      case atStart => exact ⟨rfl, A, S, rfl, rfl, by omega, by omega, hS1, hS2, by exact ⟨Hpos.out, HN.out.2, rfl⟩⟩
      case round =>
        obtain ⟨rfl, A2, S2, rfl, rfl, hg, hA2, hT1, hT2, hG⟩ := hrel
        obtain ⟨g, rfl⟩ : ∃ g, gk = g + 1 := ⟨gk - 1, by have := hG.out.1; omega⟩
        by_cases hev : A2 % 2 = 0
        · have hb2 : ((A2 : Int) % 2 == 0) = true := by rw [beq_iff_eq]; omega
          have HV := Lib.hid hev
          have hp := pm_mul hG.out.2.1 (symTwo_bd N)
          have hp1 : -1 ≤ S2 * symTwo N := by omega
          have hp2 : S2 * symTwo N ≤ 1 := by omega
          have HP := Lib.hid hp
          clear hev hp
          go_wp2_with (go_at_call 118; (with_reducible refine (impl_symbolOfTwo _ _).mono ?_); rintro e w' ⟨rfl, rfl⟩)
          go_roundg g
          case measure => omega
          case rel => exact ⟨rfl, A2 / 2, S2 * symTwo N, by go_num, rfl, by have := hG.out.1; have := HV.out; omega, by omega, hp1, hp2, by exact ⟨by have := hG.out.1; have := HV.out; omega, HP.out, by rw [hG.out.2.2]; simp only [jacIn, if_pos HV.out]⟩⟩
        · have hb2 : ((A2 : Int) % 2 == 0) = false := by rw [beq_eq_false_iff_ne]; omega
          have HR : Hid (jacIn A A S (symTwo N) = (A2, S2)) := by show _ = _; rw [hG.out.2.2]; simp only [jacIn, if_neg hev]
          have HG2 : Hid (1 ≤ A2 ∧ (S2 = 1 ∨ S2 = -1) ∧ A2 % 2 = 1) := by exact ⟨hG.out.1, hG.out.2.1, by omega⟩
          have hA1 : 1 ≤ A2 := hG.out.1
          clear hev hG
          by_cases h3 : A2 % 4 = 3
          · have b3 : ((A2 : Int) % 4 == 3) = true := by rw [beq_iff_eq]; omega
            by_cases h4 : N % 4 = 3
            · have b4 : ((N : Int) % 4 == 3) = true := by rw [beq_iff_eq]; omega
              have HF : Hid (flip A2 N S2 = -S2) := by show _ = _; simp [flip, h3, h4]
              clear h3 h4
              have hlt := Nat.mod_lt N hA1
              go_wp2_with fail
              go_roundg f
              case measure => omega
              case rel => exact ⟨rfl, N % A2, A2, -S2, by go_num, rfl, rfl, by omega, by omega, by omega, by omega, by omega, by exact ⟨HG2.out.2.2, by rcases HG2.out.2.1 with h | h <;> omega, by rw [HS.out, HR.out, HF.out]⟩⟩
            · have b4 : ((N : Int) % 4 == 3) = false := by rw [beq_eq_false_iff_ne]; omega
              have HF : Hid (flip A2 N S2 = S2) := by show _ = _; simp [flip, h4]
              clear h3 h4
              have hlt := Nat.mod_lt N hA1
              go_wp2_with fail
              go_roundg f
              case measure => omega
              case rel => exact ⟨rfl, N % A2, A2, S2, by go_num, rfl, rfl, by omega, by omega, by omega, by omega, by omega, by exact ⟨HG2.out.2.2, HG2.out.2.1, by rw [HS.out, HR.out, HF.out]⟩⟩
          · have b3 : ((A2 : Int) % 4 == 3) = false := by rw [beq_eq_false_iff_ne]; omega
            have HF : Hid (flip A2 N S2 = S2) := by show _ = _; simp [flip, h3]
            clear h3
            have hlt := Nat.mod_lt N hA1
            go_wp2_with fail
            go_roundg f
            case measure => omega
            case rel => exact ⟨rfl, N % A2, A2, S2, by go_num, rfl, rfl, by omega, by omega, by omega, by omega, by omega, by exact ⟨HG2.out.2.2, HG2.out.2.1, by rw [HS.out, HR.out, HF.out]⟩⟩

theorem jacIn_pm : ∀ (f a : Nat) (s t : Int), (s = 1 ∨ s = -1) → (t = 1 ∨ t = -1) → ((jacIn f a s t).2 = 1 ∨ (jacIn f a s t).2 = -1)
  | 0, _, _, _, h, _ => h
  | f + 1, a, s, t, h, ht => by
    simp only [jacIn]
    split
    · exact jacIn_pm f _ _ _ (pm_mul h ht) ht
    · exact h
theorem flip_pm {a n : Nat} {s : Int} (h : s = 1 ∨ s = -1) : flip a n s = 1 ∨ flip a n s = -1 := by
  unfold flip
  split <;> omega
theorem jacGo_bd : ∀ (f a n : Nat) (s : Int), (s = 1 ∨ s = -1) → -1 ≤ jacGo f a n s ∧ jacGo f a n s ≤ 1
  | 0, _, n, s, h => by
    simp only [jacGo]
    split <;> omega
  | f + 1, a, n, s, h => by
    simp only [jacGo]
    split
    · split <;> omega
    · exact jacGo_bd f _ _ _ (flip_pm (jacIn_pm _ _ _ _ h (symTwo_bd _)))
theorem jacOf_bd (a : Int) (n : Nat) : -1 ≤ jacOf a n ∧ jacOf a n ≤ 1 := jacGo_bd _ _ _ _ (Or.inl rfl)
theorem pm_bd {s j : Int} (h : s = 1 ∨ s = -1) (h1 : -1 ≤ j ∧ j ≤ 1) : -1 ≤ s * j ∧ s * j ≤ 1 := by
  rcases h with rfl | rfl <;> omega

def kroGo : Nat → Int → Nat → Int → Int
  | 0, a, n, s => s * jacOf a n
  | f + 1, a, n, s => if n % 2 = 0 then (if a % 2 = 0 then 0 else kroGo f a (n / 2) (s * symTwo a)) else s * jacOf a n
def kroOf (a n : Int) : Int := if n = 0 then (if a.natAbs = 1 then 1 else 0) else kroGo n.natAbs a n.natAbs (if n < 0 ∧ a < 0 then -1 else 1)

set_option maxHeartbeats 1600000 in
theorem impl_kronecker_pos (a : Int) (n : Nat) (w : World) (hn : 1 ≤ n) (hn2 : n ≤ 1000000) (ha1 : -1000000 ≤ a) (ha2 : a ≤ 1000000) :
    Calls Try.prog 77 #[.int .i64 a, .int .i64 n] w fun e w' => e = .returned (.int .i64 (kroOf a n)) ∧ w = w' := by
  have HK : Hid (kroOf a n = kroGo n a n 1) := by
    show _ = _
    unfold kroOf
    rw [if_neg (by omega), if_neg (by omega), Int.natAbs_natCast]
  have hb0 : ((n : Int) == 0) = false := by rw [beq_eq_false_iff_ne]; omega
  go_enter Try.func77, Try.ntmps77
  go_wp2_with (go_at_call 117; (with_reducible refine (impl_abs _ _ (by omega) (by omega)).mono ?_); rintro e w' ⟨rfl, rfl⟩)
  go_loopg [1, 5] n (fun f nn ss wr => w = wr ∧ ∃ (N : Nat) (S : Int), nn = .int .i64 N ∧ ss = .int .i64 S ∧ 1 ≤ N ∧ N ≤ 1000000 ∧ N ≤ f ∧ -1 ≤ S ∧ S ≤ 1 ∧ Hid ((S = 1 ∨ S = -1) ∧ kroOf a n = kroGo f a N S))
  case atStart => exact ⟨rfl, n, 1, by simp, rfl, hn, hn2, by omega, by omega, by omega, by exact ⟨Or.inl rfl, HK.out⟩⟩
  case round =>
    obtain ⟨rfl, N, S, rfl, rfl, hN1, hN2, hf, hS1, hS2, hH⟩ := hrel
    obtain ⟨f, rfl⟩ : ∃ f, gk = f + 1 := ⟨gk - 1, by omega⟩
    by_cases hev : N % 2 = 0
    · have hb : ((N : Int) % 2 == 0) = true := by rw [beq_iff_eq]; omega
      have HV := Lib.hid hev
      by_cases hae : a % 2 = 0
      · have hab : (a.tmod 2 == 0) = true := by rw [beq_iff_eq]; have := Int.tmod_eq_emod (a := a) (b := 2); split at this <;> omega
        have HE : Hid (kroOf a n = 0) := by show _ = _; rw [hH.out.2]; simp only [kroGo, if_pos hev, if_pos hae]
        clear hev hae
        go_wp2_with fail
        go_ret
        exact ⟨ret_int HE.out.symm, rfl⟩
      · have hab : (a.tmod 2 == 0) = false := by rw [beq_eq_false_iff_ne]; have := Int.tmod_eq_emod (a := a) (b := 2); split at this <;> omega
        have hp := pm_mul hH.out.1 (symTwo_bd a)
        have hp1 : -1 ≤ S * symTwo a := by omega
        have hp2 : S * symTwo a ≤ 1 := by omega
        have HP := Lib.hid hp
        have HE : Hid (kroGo (f + 1) a N S = kroGo f a (N / 2) (S * symTwo a)) := by show _ = _; simp only [kroGo, if_pos hev, if_neg hae]
        have hN3 : 1 ≤ N / 2 := by omega
        have hN4 : N / 2 ≤ f := by omega
        clear hev hae hp
        go_wp2_with (go_at_call 118; (with_reducible refine (impl_symbolOfTwo _ _).mono ?_); rintro e w' ⟨rfl, rfl⟩)
        go_roundg f
        case measure => omega
        case rel => exact ⟨rfl, N / 2, S * symTwo a, by go_num, rfl, hN3, by omega, hN4, hp1, hp2, by exact ⟨HP.out, by rw [hH.out.2, HE.out]⟩⟩
    · have hb : ((N : Int) % 2 == 0) = false := by rw [beq_eq_false_iff_ne]; omega
      have ho : N % 2 = 1 := by omega
      have HE : Hid (kroOf a n = S * jacOf a N) := by show _ = _; rw [hH.out.2]; simp only [kroGo, if_neg hev]
      obtain ⟨hp1, hp2⟩ := pm_bd hH.out.1 (jacOf_bd a N)
      have Ho := Lib.hid ho
      clear hev ho
      go_wp2_with (go_at_call 119; (with_reducible refine (impl_jacobi _ _ _ hN1 hN2 Ho.out).mono ?_); rintro e w' ⟨rfl, rfl⟩)
      go_ret
      exact ⟨ret_int HE.out.symm, rfl⟩

end Go.Proofs.Ytdffhgibkeifmaa
