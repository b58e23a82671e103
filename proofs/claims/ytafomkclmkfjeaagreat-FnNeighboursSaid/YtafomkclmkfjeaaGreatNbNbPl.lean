/-
  Neighbours of a class at a prime: as many as zeros, the class there and back, and their matrix is symmetric.
  Conditions: none.
-/
import Derived.Test.YtafomkclmkfjeaaGreatNbNbB
import Derived.Test.YtafomkclmkfjeaaGreatNbNbT
import Derived.Test.YtafomkclmkfjeaaGreatNbDisc
namespace Go.Proofs.YtafomkclmkfjeaaGreat
set_option linter.unusedVariables false
set_option linter.unusedSimpArgs false

theorem prc_of_prr {D : Int} {f : F3} (h : PrR D f) : PrRc D f := by
  obtain ⟨h1, h2, h3, h4⟩ := h
  refine ⟨h1, h2, h3, fun k k1 k2 k3 => ?_⟩
  have h5 : k ∣ (Int.gcd f.1 (Int.gcd f.2.1 f.2.2) : Int) := Int.dvd_coe_gcd k1 (Int.dvd_coe_gcd k2 k3)
  rw [h4] at h5
  exact h5
theorem prr_of_prc {D : Int} {f : F3} (h : PrRc D f) : PrR D f := by
  obtain ⟨h1, h2, h3, h4⟩ := h
  refine ⟨h1, h2, h3, ?_⟩
  have h5 : ((Int.gcd f.1 (Int.gcd f.2.1 f.2.2) : Nat) : Int) ∣ 1 := h4 _ (Int.gcd_dvd_left _ _) (Int.dvd_trans (Int.gcd_dvd_right _ _) (Int.gcd_dvd_left _ _)) (Int.dvd_trans (Int.gcd_dvd_right _ _) (Int.gcd_dvd_right _ _))
  have h6 := Int.eq_one_of_dvd_one (by omega) h5
  omega
/-! ### Lists of one and two -/
theorem filter_one {α : Type} {I : List α} {q : α → Bool} (hI : I.Nodup) {z : α} (hz : z ∈ I) (h : ∀ x ∈ I, q x = true ↔ x = z) : I.filter q = [z] := by
  have h1 : (I.filter q).Nodup := hI.filter _
  have h2 : ∀ x, x ∈ I.filter q ↔ x = z := fun x => ⟨fun hx => (h x (List.mem_filter.1 hx).1).1 (List.mem_filter.1 hx).2, fun hx => List.mem_filter.2 ⟨hx ▸ hz, (h x (hx ▸ hz)).2 hx⟩⟩
  generalize I.filter q = F at h1 h2
  match F, h1, h2 with
  | [], _, h2 => exact absurd ((h2 z).2 rfl) (by simp)
  | [x], _, h2 => rw [(h2 x).1 (by simp)]
  | x :: y :: r, h1, h2 =>
    have a := (h2 x).1 (by simp)
    have b := (h2 y).1 (by simp)
    rw [List.nodup_cons] at h1
    exact absurd (show x ∈ y :: r by rw [a, b]; simp) h1.1
theorem filter_two {α : Type} {I : List α} {q : α → Bool} (hI : I.Nodup) {z w : α} (hz : z ∈ I) (hw : w ∈ I) (hzw : z ≠ w) (h : ∀ x ∈ I, q x = true ↔ (x = z ∨ x = w)) : I.filter q = [z, w] ∨ I.filter q = [w, z] := by
  have h1 : (I.filter q).Nodup := hI.filter _
  have h2 : ∀ x, x ∈ I.filter q ↔ (x = z ∨ x = w) := fun x => ⟨fun hx => (h x (List.mem_filter.1 hx).1).1 (List.mem_filter.1 hx).2, fun hx => by
    have hm : x ∈ I := by rcases hx with hx | hx <;> rw [hx] <;> assumption
    exact List.mem_filter.2 ⟨hm, (h x hm).2 hx⟩⟩
  generalize I.filter q = F at h1 h2
  match F, h1, h2 with
  | [], _, h2 => exact absurd ((h2 z).2 (.inl rfl)) (by simp)
  | [x], _, h2 =>
    have a := (h2 z).2 (.inl rfl)
    have b := (h2 w).2 (.inr rfl)
    rw [List.mem_singleton] at a b
    exact absurd (a.trans b.symm) hzw
  | [x, y], h1, h2 =>
    rw [List.nodup_cons] at h1
    have hxy : x ≠ y := fun e => h1.1 (by rw [e]; simp)
    rcases (h2 x).1 (by simp) with a | a <;> rcases (h2 y).1 (by simp) with b | b
    · exact absurd (a.trans b.symm) hxy
    · left; rw [a, b]
    · right; rw [a, b]
    · exact absurd (a.trans b.symm) hxy
  | x :: y :: t :: r, h1, h2 =>
    rw [List.nodup_cons, List.nodup_cons] at h1
    have e1 : x ≠ y := fun e => h1.1 (by rw [e]; simp)
    have e2 : x ≠ t := fun e => h1.1 (by rw [e]; simp)
    have e3 : y ≠ t := fun e => h1.2.1 (by rw [e]; simp)
    rcases (h2 x).1 (by simp) with a | a <;> rcases (h2 y).1 (by simp) with b | b <;> rcases (h2 t).1 (by simp) with c | c
    · exact absurd (a.trans b.symm) e1
    · exact absurd (a.trans b.symm) e1
    · exact absurd (a.trans c.symm) e2
    · exact absurd (b.trans c.symm) e3
    · exact absurd (b.trans c.symm) e3
    · exact absurd (a.trans c.symm) e2
    · exact absurd (a.trans b.symm) e1
    · exact absurd (a.trans b.symm) e1
/-! ### The neighbours -/
theorem nbs_Iz (f : F3) (n : Nat) : nbs f n = ((Iz n).filter fun z => atP n (Fz f.1 f.2.1 f.2.2 n z)).map fun z => rd (dv n (Fz f.1 f.2.1 f.2.2 n z)) := by
  unfold nbs
  rw [subs_Iz, List.filter_map, List.map_map]
  rfl
/-- The neighbours, by their classes; u and v are the classes of the prime and of its opposite. -/
def NbS {D : Int} {hD : D < 0} (u v : GG D hD) (kr : Int) (f : F3) (ys : List F3) : Prop :=
  (kr = -1 ∧ ys = []) ∨ (kr = 0 ∧ ∃ y, ys = [y] ∧ PrRc D y ∧ gM (gC D hD y) u = gC D hD f ∧ gM (gC D hD y) v = gC D hD f) ∨ (kr = 1 ∧ ∃ y z, (ys = [y, z] ∨ ys = [z, y]) ∧ PrRc D y ∧ PrRc D z ∧ gM (gC D hD y) u = gC D hD f ∧ gM (gC D hD z) v = gC D hD f)
theorem nb_spec {D : Int} {n : Nat} {kr : Int} (hn : n ∈ pN) (hD1 : -2000 ≤ D) (hD : D < 0) (hg : GdN D n kr) {f : F3} (hf : PrRc D f) {u v : GG D hD} (huv : ∀ b0 c0, r_impl_primeForm D (n : Int) = some (((n : Int), b0, c0), true) → u = gC D hD ((n : Int), b0, c0) ∧ v = gC D hD ((n : Int), -b0, c0)) : NbS u v kr f (nbs f n) := by
  obtain ⟨n2, n3⟩ := pN_bd hn
  have ho : Out D n := hg.out
  have hP : Pz f.1 f.2.1 f.2.2 D n := ⟨rr_of hD1 hD hf, hf.2.2.2, hn⟩
  have hq : ∀ z ∈ Iz n, atP n (Fz f.1 f.2.1 f.2.2 n z) = true ↔ Zr f.1 f.2.1 f.2.2 n z := fun z hz => by
    unfold atP
    rw [decide_eq_true_iff]
    exact zero_iff hP ho hz
  rw [nbs_Iz]
  rcases hg.sym with ⟨k, _, hno⟩ | ⟨b0, c0, hpf, h0, hb0, hbn, hk⟩
  · left
    refine ⟨k, ?_⟩
    have : ((Iz n).filter fun z => atP n (Fz f.1 f.2.1 f.2.2 n z)) = [] := by
      rw [List.filter_eq_nil_iff]
      intro z hz hc
      obtain ⟨C, hC⟩ := zero_root hP hz ((hq z hz).1 hc)
      generalize Bz f.2.1 f.2.2 z = B at hC
      have q1 := Int.emod_nonneg B (show 2 * (n : Int) ≠ 0 by omega)
      have q2 := Int.emod_lt_of_pos B (show (0 : Int) < 2 * n by omega)
      have q3 := Int.emod_add_mul_ediv B (2 * n)
      generalize B % (2 * (n : Int)) = r at *
      generalize B / (2 * (n : Int)) = m at *
      refine hno r q1 q2 ⟨C - m * r - n * m * m, ?_⟩
      have e : B * B - D = 4 * n * C := by omega
      have e2 : r * r - D = (B * B - D) - 4 * n * m * r - 4 * n * n * m * m := by rw [← q3]; grind
      rw [e2, e]; grind
    rw [this]; rfl
  · obtain ⟨hu, hv⟩ := huv b0 c0 hpf
    subst hu hv
    have h0' : -b0 * -b0 - 4 * n * c0 = D := by rw [← h0]; grind
    obtain ⟨z, hz, rz, sz⟩ := zero_ex hP h0
    obtain ⟨w, hw, rw', sw⟩ := zero_ex hP h0'
    obtain ⟨y1, y2⟩ := zero_cls hP ho hz rz h0 sz
    obtain ⟨x1, x2⟩ := zero_cls hP ho hw rw' h0' sw
    have hsign : ∀ t ∈ Iz n, Zr f.1 f.2.1 f.2.2 n t → t = z ∨ t = w := by
      intro t ht rt
      obtain ⟨C, hC⟩ := zero_root hP ht rt
      rcases root_sign hn hC h0 with h1 | h1
      · left
        refine zero_inj hP ht hz rt rz ?_
        have := Int.dvd_sub h1 sz
        have e : Bz f.2.1 f.2.2 t - b0 - (Bz f.2.1 f.2.2 z - b0) = Bz f.2.1 f.2.2 t - Bz f.2.1 f.2.2 z := by omega
        rw [e] at this; exact this
      · right
        refine zero_inj hP ht hw rt rw' ?_
        have := Int.dvd_sub h1 sw
        have e : Bz f.2.1 f.2.2 t + b0 - (Bz f.2.1 f.2.2 w - -b0) = Bz f.2.1 f.2.2 t - Bz f.2.1 f.2.2 w := by omega
        rw [e] at this; exact this
    rcases hk with ⟨k, hb⟩ | ⟨k, hb⟩
    · right; left
      have hzw : w = z := by
        refine zero_inj hP hw hz rw' rz ?_
        obtain ⟨m, hm⟩ := hb
        have := Int.dvd_sub sw sz
        have e : Bz f.2.1 f.2.2 w - -b0 - (Bz f.2.1 f.2.2 z - b0) = Bz f.2.1 f.2.2 w - Bz f.2.1 f.2.2 z + 2 * n * m := by rw [hm]; grind
        rw [e] at this
        exact (Int.dvd_add_left ⟨m, rfl⟩).1 this
      subst hzw
      rw [filter_one (Iz_nodup n) hz (z := w) fun t ht => ⟨fun h => (hsign t ht ((hq t ht).1 h)).elim id id, fun h => by rw [h]; exact (hq w hz).2 rz⟩]
      exact ⟨k, _, rfl, y1, y2, x2⟩
    · right; right
      have hzw : z ≠ w := by
        rintro rfl
        apply hb
        have := Int.dvd_sub sw sz
        have e : Bz f.2.1 f.2.2 z - -b0 - (Bz f.2.1 f.2.2 z - b0) = 2 * b0 := by omega
        rw [e] at this
        exact half_dvd this
      refine ⟨k, rd (dv n (Fz f.1 f.2.1 f.2.2 n z)), rd (dv n (Fz f.1 f.2.1 f.2.2 n w)), ?_, y1, x1, y2, x2⟩
      rcases filter_two (Iz_nodup n) hz hw hzw (q := fun z => atP n (Fz f.1 f.2.1 f.2.2 n z)) (fun t ht => ⟨fun h => hsign t ht ((hq t ht).1 h), fun h => h.elim (fun h => by rw [h]; exact (hq z hz).2 rz) (fun h => by rw [h]; exact (hq w hw).2 rw')⟩) with e | e
      · left; rw [e]; rfl
      · right; rw [e]; rfl
/-! ### There and back -/
section
variable {D : Int} {hD : D < 0} {u v : GG D hD}
theorem mv_uv (huv : gM u v = g1 D hD) {x y : GG D hD} (hy : gF y) (h : gM y u = x) : gM x v = y := by
  rw [← h, gM_assoc, huv, gM_one hy]
theorem mv_vu (huv : gM u v = g1 D hD) {x y : GG D hD} (hy : gF y) (h : gM y v = x) : gM x u = y := by
  rw [← h, gM_assoc, gM_comm v, huv, gM_one hy]
end
theorem prc_F {D : Int} (hD1 : -2000 ≤ D) {hD : D < 0} {f : F3} (h : PrRc D f) : gF (gC D hD f) := gF_of (cf_of_prc hD1 hD h)
theorem cnt_two {ys : List F3} {y z : F3} (h : ys = [y, z] ∨ ys = [z, y]) (g : F3) : ys.count g = (if y = g then 1 else 0) + (if z = g then 1 else 0) := by
  have e : ∀ a b : F3, [a, b].count g = (if a = g then 1 else 0) + (if b = g then 1 else 0) := by
    intro a b
    rw [List.count_cons, List.count_cons, List.count_nil]
    simp only [beq_iff_eq]
    omega
  rcases h with h | h <;> rw [h, e]
  omega
theorem cnt_one (y g : F3) : [y].count g = if y = g then 1 else 0 := by
  rw [List.count_cons, List.count_nil]
  simp only [beq_iff_eq]
  omega
theorem nb_sym {D : Int} (hD1 : -2000 ≤ D) {hD : D < 0} {u v : GG D hD} {kr : Int} (huv : gM u v = g1 D hD) {f g : F3} {ys zs : List F3} (hf : PrRc D f) (hg : PrRc D g) (h1 : NbS u v kr f ys) (h2 : NbS u v kr g zs) : ys.count g = zs.count f := by
  have A : ∀ {y : F3}, PrRc D y → gM (gC D hD y) u = gC D hD f → (y = g ↔ gM (gC D hD f) v = gC D hD g) := by
    intro y hy e
    have e2 := mv_uv huv (prc_F hD1 hy) e
    exact ⟨fun h => by rw [e2, h], fun h => prc_eq (hD := hD) hy hg (by rw [← e2, h])⟩
  have B : ∀ {y : F3}, PrRc D y → gM (gC D hD y) v = gC D hD f → (y = g ↔ gM (gC D hD f) u = gC D hD g) := by
    intro y hy e
    have e2 := mv_vu huv (prc_F hD1 hy) e
    exact ⟨fun h => by rw [e2, h], fun h => prc_eq (hD := hD) hy hg (by rw [← e2, h])⟩
  have A' : ∀ {y : F3}, PrRc D y → gM (gC D hD y) u = gC D hD g → (y = f ↔ gM (gC D hD f) u = gC D hD g) := by
    intro y hy e
    refine ⟨fun h => by rw [← h, e], fun h => prc_eq (hD := hD) hy hf ?_⟩
    rw [← mv_uv huv (prc_F hD1 hy) e, ← mv_uv huv (prc_F hD1 hf) h]
  have B' : ∀ {y : F3}, PrRc D y → gM (gC D hD y) v = gC D hD g → (y = f ↔ gM (gC D hD f) v = gC D hD g) := by
    intro y hy e
    refine ⟨fun h => by rw [← h, e], fun h => prc_eq (hD := hD) hy hf ?_⟩
    rw [← mv_vu huv (prc_F hD1 hy) e, ← mv_vu huv (prc_F hD1 hf) h]
  rcases h1 with ⟨k, rfl⟩ | ⟨k, y, rfl, y1, y2, y3⟩ | ⟨k, y, z, hys, y1, y2, y3, y4⟩
  · rcases h2 with ⟨_, rfl⟩ | ⟨k2, _⟩ | ⟨k2, _⟩
    · rfl
    · omega
    · omega
  · rcases h2 with ⟨k2, _⟩ | ⟨_, x, rfl, x1, x2, x3⟩ | ⟨k2, _⟩
    · omega
    · rw [cnt_one, cnt_one]
      have e := (A y1 y2).trans (B' x1 x3).symm
      by_cases h : y = g
      · rw [if_pos h, if_pos (e.1 h)]
      · rw [if_neg h, if_neg (fun h2 => h (e.2 h2))]
    · omega
  · rcases h2 with ⟨k2, _⟩ | ⟨k2, _⟩ | ⟨_, x, t, hzs, x1, x2, x3, x4⟩
    · omega
    · omega
    · have ic : ∀ {p q : Prop} [Decidable p] [Decidable q], (p ↔ q) → (if p then 1 else 0 : Nat) = (if q then 1 else 0) := by
        intro p q _ _ h
        by_cases hp : p
        · rw [if_pos hp, if_pos (h.1 hp)]
        · rw [if_neg hp, if_neg (fun hq => hp (h.2 hq))]
      rw [cnt_two hys, cnt_two hzs]
      have e := (A y1 y3).trans (B' x2 x4).symm
      have e' := (B y2 y4).trans (A' x1 x3).symm
      rw [ic e, ic e', Nat.add_comm]
theorem nb_cnt {D : Int} {hD : D < 0} {u v : GG D hD} {kr : Int} {f : F3} {ys : List F3} (h : NbS u v kr f ys) : (ys.length : Int) = 1 + kr := by
  rcases h with ⟨rfl, rfl⟩ | ⟨rfl, y, rfl, _⟩ | ⟨rfl, y, z, hys, _⟩
  · rfl
  · rfl
  · rcases hys with rfl | rfl <;> rfl
/-- Where the prime has a class, the neighbours are the class there and the class back. -/
theorem nb_two {D : Int} (hD1 : -2000 ≤ D) {hD : D < 0} {u v : GG D hD} {kr : Int} (huv : gM u v = g1 D hD) (hk : kr ≠ -1) {f fo ba : F3} {ys : List F3} (hfo : PrRc D fo) (hba : PrRc D ba) (h1 : gC D hD fo = gM (gC D hD f) u) (h2 : gC D hD ba = gM (gC D hD f) v) (h : NbS u v kr f ys) : fo ∈ ys ∧ ba ∈ ys ∧ ∀ y ∈ ys, y = fo ∨ y = ba := by
  have A : ∀ {y : F3}, PrRc D y → gM (gC D hD y) u = gC D hD f → y = ba := fun hy e => prc_eq (hD := hD) hy hba (by rw [h2, mv_uv huv (prc_F hD1 hy) e])
  have B : ∀ {y : F3}, PrRc D y → gM (gC D hD y) v = gC D hD f → y = fo := fun hy e => prc_eq (hD := hD) hy hfo (by rw [h1, mv_vu huv (prc_F hD1 hy) e])
  rcases h with ⟨k, _⟩ | ⟨k, y, rfl, y1, y2, y3⟩ | ⟨k, y, z, hys, y1, y2, y3, y4⟩
  · exact absurd k hk
  · have a := A y1 y2
    have b := B y1 y3
    exact ⟨by rw [b]; simp, by rw [a]; simp, fun t ht => .inl (by rw [List.mem_singleton.1 ht, b])⟩
  · have a := A y1 y3
    have b := B y2 y4
    subst a b
    rcases hys with rfl | rfl
    · exact ⟨by simp, by simp, fun t ht => by simp at ht; exact ht.symm⟩
    · exact ⟨by simp, by simp, fun t ht => by simp at ht; exact ht⟩
/-! ### The class of the prime -/
theorem prime_cf {D : Int} {n : Nat} (hn : n ∈ pN) (hD1 : -2000 ≤ D) (hD : D < 0) (ho : Out D n) {b0 c0 : Int} (h0 : b0 * b0 - 4 * n * c0 = D) (hb0 : 0 ≤ b0) (hbn : b0 ≤ n) : CF D ((n : Int), b0, c0) := by
  obtain ⟨n2, n3⟩ := pN_bd hn
  have hbb : 0 ≤ b0 * b0 := sq_nonneg b0
  have hbb2 := abs_mul (x := b0) (y := b0) (A := 43) (B := 43) (by omega) (by omega)
  have hc1 : 1 ≤ c0 := by
    rcases Int.lt_or_le 0 c0 with h | h
    · exact h
    · have : 4 * (n : Int) * c0 ≤ 4 * n * 0 := Int.mul_le_mul_of_nonneg_left h (by omega)
      omega
  have hc2 : c0 ≤ 1000000 := by
    have : 8 * c0 ≤ 4 * n * c0 := Int.mul_le_mul_of_nonneg_right (by omega) (by omega)
    omega
  refine ⟨⟨by show (1 : Int) ≤ n; omega, by show (n : Int) ≤ 1000000; omega, by show -1900000 ≤ b0; omega, by show b0 ≤ 1900000; omega, hc1, by show c0 ≤ 1250000; omega, h0, hD, .inr hc2, fun k => ?_⟩, hc2⟩
  constructor
  · rintro ⟨k1, k2, k3⟩
    have hk : k.natAbs ∣ n := Int.natCast_dvd_natCast.1 (by rw [Int.natAbs_dvd]; exact k1)
    rcases pN_prime hn hk with e | e
    · have : (k.natAbs : Int) ∣ 1 := by rw [e]; exact Int.dvd_refl _
      exact Int.natAbs_dvd.1 this
    · have k2' : (n : Int) ∣ b0 := by rw [← e]; exact Int.natAbs_dvd.2 k2
      have k3' : (n : Int) ∣ c0 := by rw [← e]; exact Int.natAbs_dvd.2 k3
      exact absurd ⟨k3', k2'⟩ (out_of hn ho (A := c0) (B := b0) (C := 1) (by rw [← h0]; grind))
  · intro h
    exact ⟨Int.dvd_trans h (Int.one_dvd _), Int.dvd_trans h (Int.one_dvd _), Int.dvd_trans h (Int.one_dvd _)⟩
/-- What the law needs of the prime. -/
theorem prime_val {D : Int} {n : Nat} {kr : Int} (hn : n ∈ pN) (hD1 : -2000 ≤ D) (hD3 : D ≤ -3) (h4 : D % 4 ≤ 1) (hD : D < 0) (hg : GdN D n kr) : (kr = -1 ∧ ∃ P, r_impl_PrimeClass D (n : Int) = some (P, false)) ∨ (kr ≠ -1 ∧ ∃ P, r_impl_PrimeClass D (n : Int) = some (P, true) ∧ PrRc D P ∧ ∀ b0 c0, r_impl_primeForm D (n : Int) = some (((n : Int), b0, c0), true) → gC D hD P = gC D hD ((n : Int), b0, c0) ∧ gC D hD (opF P) = gC D hD ((n : Int), -b0, c0)) := by
  have hneg : r_impl_isNegativeDisc D = some true := by rw [negdisc_val]; exact congrArg some (decide_eq_true ⟨hD1, hD3, h4⟩)
  have hsp := (isPr_val hn).2
  rcases hg.sym with ⟨k, ⟨P, hpf⟩, _⟩ | ⟨b0, c0, hpf, h0, hb0, hbn, hk⟩
  · left
    exact ⟨k, (0, 0, 0), by simp only [r_impl_PrimeClass, r_impl_PrimeForm, hneg, hsp, hpf, Option.bind_some, Bool.not_true, cond_false, Bool.not_false, cond_true]⟩
  · right
    have hcf := prime_cf hn hD1 hD hg.out h0 hb0 hbn
    obtain ⟨P, j1, _, j3, j4, j5⟩ := redG hD hcf
    refine ⟨by rcases hk with ⟨k, _⟩ | ⟨k, _⟩ <;> omega, P, by simp only [r_impl_PrimeClass, r_impl_PrimeForm, hneg, hsp, hpf, j1, Option.bind_some, Bool.not_true, cond_false], j3, fun b c hbc => ?_⟩
    rw [hpf] at hbc
    have hbc := some_inj hbc
    simp only [Prod.mk.injEq, true_and, and_true] at hbc
    obtain ⟨rfl, rfl⟩ := hbc
    refine ⟨j5, ?_⟩
    have i1 := gC_inv (hD := hD) j4
    have i2 := gC_inv (hD := hD) hcf
    have e : gC D hD ((n : Int), -b0, c0) = gC D hD (opF ((n : Int), b0, c0)) := rfl
    rw [e]
    rw [← j5] at i2
    exact gM_canc (gF_of (cf_opp j4)) (gF_of (cf_opp hcf)) i1 (by rw [i1, i2])
/-! ### Loops of the law -/
theorem sints_run (l : List Int) (hl : l.length ≤ 1000000) : ∀ (k fu i : Nat), i + k = l.length → k < fu → r_laws_sameInts_L5 l l fu (i : Int) = some (.inl ())
  | k, 0, i, _, hf => by omega
  | 0, fu + 1, i, hi, hf => by rw [r_laws_sameInts_L5, ltI_eq, decide_eq_false (by omega), cond_false]
  | k + 1, fu + 1, i, hi, hf => by
    rw [r_laws_sameInts_L5, ltI_eq, decide_eq_true (by omega), cond_true, getNat (show i < l.length by omega)]
    simp only [Option.bind_some, eqSelf, Bool.not_true, cond_false, sI_eq]
    rw [wsucc (by omega)]
    exact sints_run l hl k fu (i + 1) (by omega) (by omega)
theorem sints_self (l : List Int) (hl : l.length ≤ 100000) : r_laws_sameInts l l = some true := by
  have hF := FUge
  have := sints_run l (by omega) l.length FU 0 (by omega) (by omega)
  have e0 : (((0 : Nat) : Int)) = 0 := rfl
  rw [e0] at this
  simp only [r_laws_sameInts, eqSelf, Bool.not_true, cond_false, this, Option.bind_some]
theorem slists_run (l : List (List Int)) (hl : l.length ≤ 1000000) (hx : ∀ x ∈ l, x.length ≤ 100000) : ∀ (k fu i : Nat), i + k = l.length → k < fu → r_laws_sameLists_L5 l l fu (i : Int) = some (.inl ())
  | k, 0, i, _, hf => by omega
  | 0, fu + 1, i, hi, hf => by rw [r_laws_sameLists_L5, ltI_eq, decide_eq_false (by omega), cond_false]
  | k + 1, fu + 1, i, hi, hf => by
    rw [r_laws_sameLists_L5, ltI_eq, decide_eq_true (by omega), cond_true, getNat (show i < l.length by omega)]
    simp only [Option.bind_some, sints_self _ (hx _ (List.getElem_mem (show i < l.length by omega))), Bool.not_true, cond_false, sI_eq]
    rw [wsucc (by omega)]
    exact slists_run l hl hx k fu (i + 1) (by omega) (by omega)
theorem slists_self (l : List (List Int)) (hl : l.length ≤ 100000) (hx : ∀ x ∈ l, x.length ≤ 100000) : r_laws_sameLists l l = some true := by
  have hF := FUge
  have := slists_run l (by omega) hx l.length FU 0 (by omega) (by omega)
  have e0 : (((0 : Nat) : Int)) = 0 := rfl
  rw [e0] at this
  simp only [r_laws_sameLists, eqSelf, Bool.not_true, cond_false, this, Option.bind_some]
theorem qsum_run (l : List Int) (hl : l.length ≤ 100000) (hb : ∀ x ∈ l, 0 ≤ x ∧ x ≤ 1000) : ∀ (k fu i : Nat) (s : Int), i + k = l.length → k < fu → 0 ≤ s → s ≤ 1000 * i → r_laws_qSum_L4 l fu s (i : Int) = some (s + (l.drop i).sum)
  | k, 0, i, s, _, hf, _, _ => by omega
  | 0, fu + 1, i, s, hi, hf, h0, h1 => by
    rw [r_laws_qSum_L4, ltI_eq, decide_eq_false (by omega), cond_false, List.drop_eq_nil_of_le (by omega)]
    simp
  | k + 1, fu + 1, i, s, hi, hf, h0, h1 => by
    have hx := hb _ (List.getElem_mem (show i < l.length by omega))
    rw [r_laws_qSum_L4, ltI_eq, decide_eq_true (by omega), cond_true, getNat (show i < l.length by omega)]
    simp only [Option.bind_some, sI_eq]
    rw [wsucc (by omega), w64_in (by omega), qsum_run l hl hb k fu (i + 1) _ (by omega) (by omega) (by omega) (by omega), List.drop_eq_getElem_cons (show i < l.length by omega), List.sum_cons]
    congr 1; omega
theorem qsum_val (l : List Int) (hl : l.length ≤ 100000) (hb : ∀ x ∈ l, 0 ≤ x ∧ x ≤ 1000) : r_laws_qSum l = some l.sum := by
  have hF := FUge
  have := qsum_run l hl hb l.length FU 0 0 (by omega) (by omega) (by omega) (by omega)
  have e0 : (((0 : Nat) : Int)) = 0 := rfl
  rw [e0, List.drop_zero, Int.zero_add] at this
  simp only [r_laws_qSum, this, Option.bind_some]
theorem qHas_run {l : List F3} {g : F3} (hl : l.length ≤ 1000000) : ∀ (k fu t : Nat), t + k = l.length → k < fu → g ∈ l.drop t → r_laws_qHas_L4 g l fu (t : Int) = some (.inr true)
  | k, 0, t, _, hf, _ => by omega
  | 0, fu + 1, t, ht, hf, hg => by
    rw [List.drop_eq_nil_of_le (by omega)] at hg
    cases hg
  | k + 1, fu + 1, t, ht, hf, hg => by
    have hlt : t < l.length := by omega
    rw [r_laws_qHas_L4, ltI_eq, decide_eq_true (by omega), cond_true, getNat hlt]
    simp only [Option.bind_some, eqB_iff, sI_eq, wsucc (show t < 1000000000 by omega)]
    by_cases e : l[t] = g
    · rw [decide_eq_true e, cond_true]
    · rw [decide_eq_false e, cond_false]
      rw [List.drop_eq_getElem_cons hlt] at hg
      rcases List.mem_cons.1 hg with h | h
      · exact (e h.symm).elim
      · exact qHas_run hl k fu (t + 1) (by omega) (by omega) h
theorem qHas_val {l : List F3} {g : F3} (hl : l.length ≤ 100000) (h : g ∈ l) : r_laws_qHas l g = some true := by
  have hF := FUge
  have := qHas_run (l := l) (g := g) (by omega) l.length FU 0 (by omega) (by omega) (by rw [List.drop_zero]; exact h)
  have e0 : (((0 : Nat) : Int)) = 0 := rfl
  rw [e0] at this
  simp only [r_laws_qHas, this, Option.bind_some]
theorem l30_run {M : List (List Int)} {b : Bool} {more : List Int} {y14 : List F3 × Bool} {y15 : Int × Bool} {y21 : F3 × Bool} {y5 : Int × Int} {j N : Nat} (hN : N ≤ 100000) (hM : M.length = N) (hR : ∀ x ∈ M, x.length = N) (hj : j < N) (hsym : ∀ i (hi : i < N), (M[j]'(by omega))[i]'(by rw [hR _ (List.getElem_mem _)]; exact hi) = (M[i]'(by omega))[j]'(by rw [hR _ (List.getElem_mem _)]; exact hj)) :
    ∀ (k fu i : Nat), i + k = N → k < fu → r_laws_FnNeighbours_L30 (M[j]'(by omega)) more (j : Int) y14 y15 y21 y5 (M, b) fu (i : Int) = some (.inl ())
  | k, 0, i, _, hf => by omega
  | k, fu + 1, i, hi, hf => by
    have hlj : (M[j]'(by omega)).length = N := hR _ (List.getElem_mem _)
    rw [r_laws_FnNeighbours_L30, ltI_eq]
    by_cases h1 : i < N
    · have hli : (M[i]'(by omega)).length = N := hR _ (List.getElem_mem _)
      rw [decide_eq_true (by omega), cond_true, getNat (show i < (M[j]'(by omega)).length by omega), getNat (show i < M.length by omega)]
      simp only [Option.bind_some]
      rw [getNat (show j < (M[i]'(by omega)).length by omega), hsym i h1]
      simp only [Option.bind_some, eqSelf, Bool.not_true, cond_false, sI_eq]
      rw [wsucc (by omega)]
      exact l30_run hN hM hR hj hsym (k - 1) fu (i + 1) (by omega) (by omega)
    · rw [decide_eq_false (by omega), cond_false]
theorem l24_run {M : List (List Int)} {b b2 : Bool} {more : List Int} {y14 : List F3 × Bool} {kr : Int} {y21 : F3 × Bool} {y5 : Int × Int} {N : Nat} (hN : N ≤ 100000) (hM : M.length = N) (hR : ∀ x ∈ M, x.length = N) (hb : ∀ x ∈ M, ∀ y ∈ x, 0 ≤ y ∧ y ≤ 1000) (hkr : kr.natAbs ≤ 1) (hs : ∀ x ∈ M, x.sum = 1 + kr) (hsym : ∀ j (hj : j < N) i (hi : i < N), (M[j]'(by omega))[i]'(by rw [hR _ (List.getElem_mem _)]; exact hi) = (M[i]'(by omega))[j]'(by rw [hR _ (List.getElem_mem _)]; exact hj)) :
    ∀ (k fu i : Nat), i + k = N → k < fu → r_laws_FnNeighbours_L24 more y14 (kr, b2) y21 y5 (M, b) fu (i : Int) = some (.inl ())
  | k, 0, i, _, hf => by omega
  | k, fu + 1, i, hi, hf => by
    have hF := FUge
    rw [r_laws_FnNeighbours_L24]
    dsimp only
    rw [ltI_eq]
    by_cases h1 : i < N
    · have hmi := List.getElem_mem (l := M) (show i < M.length by omega)
      have h2 := l30_run (b := b) (more := more) (y14 := y14) (y15 := (kr, b2)) (y21 := y21) (y5 := y5) hN hM hR h1 (fun t ht => hsym i h1 t ht) N FU 0 (by omega) (by omega)
      have e0 : (((0 : Nat) : Int)) = 0 := rfl
      rw [e0] at h2
      rw [decide_eq_true (by omega), cond_true, getNat (show i < M.length by omega)]
      simp only [Option.bind_some, h2]
      rw [qsum_val _ (by rw [hR _ hmi]; exact hN) (hb _ hmi), hs _ hmi]
      simp only [Option.bind_some]
      rw [w64_in (n := 1 + kr) (by omega), eqSelf]
      simp only [Bool.not_true, cond_false, sI_eq]
      rw [wsucc (by omega)]
      exact l24_run hN hM hR hb hkr hs hsym (k - 1) fu (i + 1) (by omega) (by omega)
    · rw [decide_eq_false (by omega), cond_false]
theorem l66_run {ys : List F3} {b b1 b2 : Bool} {fo ba : F3} (hl : ys.length ≤ 100000) (h : ∀ y ∈ ys, y = fo ∨ y = ba) : ∀ (k fu i : Nat), i + k = ys.length → k < fu → r_laws_FnNeighbours_L66 (ys, b) (fo, b1) (ba, b2) fu (i : Int) = some (.inl ())
  | k, 0, i, _, hf => by omega
  | k, fu + 1, i, hi, hf => by
    rw [r_laws_FnNeighbours_L66]
    dsimp only
    rw [ltI_eq]
    by_cases h1 : i < ys.length
    · rw [decide_eq_true (by omega), cond_true, getNat h1]
      simp only [Option.bind_some, eqB_iff, sI_eq]
      rw [wsucc (by omega)]
      have e : (bif !(decide (ys[i] = fo)) then !(decide (ys[i] = ba)) else false) = false := by
        rcases h _ (List.getElem_mem h1) with e | e
        · rw [decide_eq_true e]; rfl
        · rw [decide_eq_true e]; cases decide (ys[i] = fo) <;> rfl
      rw [e, cond_false]
      exact l66_run hl h (k - 1) fu (i + 1) (by omega) (by omega)
    · rw [decide_eq_false (by omega), cond_false]
theorem isd_neg {D : Int} (h1 : -2000 ≤ D) (h2 : D ≤ -3) (h4 : D % 4 ≤ 1) : r_impl_isDiscriminant D = some true := by
  have hi : inN D = true := inN_iff.2 (by omega)
  simp only [r_impl_isDiscriminant, num_val _ (show [D].length < 1000000 by simp), Option.bind_some, List.all_cons, List.all_nil, hi, Bool.and_self, cond_true]
  rw [dsc_mod_val (by omega) (by omega)]
  simp only [Option.bind_some, leI_eq, decide_eq_true h4, cond_true, r_impl_isSquare, decide_eq_false (show ¬ 0 ≤ D by omega), cond_false, Bool.not_false]
theorem raw_FnNeighbours (code more : List Int) (hc8 : ∀ x ∈ code, 0 ≤ x ∧ x ≤ 255) (hm8 : ∀ x ∈ more, 0 ≤ x ∧ x ≤ 255) : r_laws_FnNeighbours code more = some true := by
  rcases big_cases code more with hb | ⟨hb, hc, hm⟩
  · simp only [r_laws_FnNeighbours, hb, Option.bind_some, cond_true]
  have hF := FUge
  obtain ⟨D, c1, e1, h1⟩ := disc_ok (CurB.start hc hc8) (by omega)
  obtain ⟨p, c2, e2, hpm, h2⟩ := among_ok (l := [2, 2, 3, 3, 5, 5, 7, 11, 13, 17, 23, 41, 43, 47, 4, 1, 0, -2]) (by simp) h1 (by omega)
  have ed : r_spec_DrawNeighbourMatrix code = some (D, p) := by simp only [r_spec_DrawNeighbourMatrix, e1, r_spec_l1Cur_index, e2, Option.bind_some]
  obtain ⟨bi, i1, i2, i3⟩ := idx_val hpm
  have hnil : r_laws_sameLists [] [] = some true := slists_self [] (by simp) (by intro x hx; cases hx)
  simp only [r_laws_FnNeighbours, hb, ed, Option.bind_some, cond_false, r_impl_NeighbourMatrix, r_spec_NeighbourMatrix, negdisc_eq, negdisc_val, i1, i2]
  by_cases hok : -2000 ≤ D ∧ D ≤ -3 ∧ D % 4 ≤ 1
  · rw [decide_eq_true hok]
    cases bi with
    | false => simp [hnil]
    | true =>
      obtain ⟨n, hn, rfl⟩ := i3 rfl
      obtain ⟨n2, n43⟩ := pN_bd hn
      obtain ⟨hD1, hD3, h4⟩ := hok
      have hD : D < 0 := by omega
      have hneg : r_impl_isNegativeDisc D = some true := by rw [negdisc_val]; exact congrArg some (decide_eq_true ⟨hD1, hD3, h4⟩)
      obtain ⟨L, l1, l2, l3, l4⟩ := relist_val hD1 hD3
      have hL : ∀ f, f ∈ L ↔ PrRc D f := fun f => ⟨fun h => prc_of_prr ((l3 f).1 h), fun h => (l3 f).2 (prr_of_prc h)⟩
      have li : r_impl_reducedForms D = some L := by rw [iforms_eq hD1 hD3, l1]
      obtain ⟨m1, m2⟩ := mtx_val n2 n43 hD1 hD l4 (by omega) hL li l1
      have hML : (nbM L n).length = L.length := by unfold nbM; rw [List.length_map]
      have hMR : ∀ x ∈ nbM L n, x.length = L.length := by
        intro x hx
        obtain ⟨f, _, rfl⟩ := List.mem_map.1 hx
        exact rowOf_len L _
      have hsl : r_laws_sameLists (nbM L n) (nbM L n) = some true := slists_self _ (by omega) (by intro x hx; rw [hMR x hx]; omega)
      obtain ⟨kr, kd, q1, q2, q3⟩ := kind_val hD1 hD3 h4 hn
      have hK : r_impl_KindOfPrime D (n : Int) = some (kd, true) := by
        simp only [r_impl_KindOfPrime, isd_neg hD1 hD3 h4, (isPr_val hn).1, q2, Option.bind_some, Bool.not_true, cond_false]
      have hRF : r_impl_ReducedForms D = some (L, true) := by
        simp only [r_impl_ReducedForms, hneg, li, Option.bind_some, Bool.not_true, cond_false]
      have hKS : r_impl_KroneckerSymbol D (n : Int) = some (kr, true) := by
        have a1 : inN D = true := inN_iff.2 (by omega)
        have a2 : inN (n : Int) = true := inN_iff.2 (by omega)
        simp only [r_impl_KroneckerSymbol, num_val _ (show [D, (n : Int)].length < 1000000 by simp), q1, Option.bind_some, List.all_cons, List.all_nil, a1, a2, Bool.and_self, Bool.not_true, cond_false]
      simp only [Option.bind_some, Bool.not_true, cond_false, m1, m2, bne_self_eq_false, hsl, hK, hRF, hKS]
      rcases q3 with rfl | ⟨hk4, hg⟩
      · rw [eqSelf, cond_true]
      rw [eqI_false hk4, cond_false]
      have hkr : kr.natAbs ≤ 1 := by rcases hg.sym with ⟨e, _⟩ | ⟨_, _, _, _, _, _, ⟨e, _⟩ | ⟨e, _⟩⟩ <;> rw [e] <;> decide
      have hyL : ∀ f ∈ L, ∀ y ∈ nbs f n, y ∈ L := fun f hf y hy => (hL y).2 (nbs_prc (rr_of hD1 hD ((hL f).1 hf)) n2 n43 y hy)
      -- the loop over the rows
      have rows : ∀ {u v : GG D hD} (huv : gM u v = g1 D hD) (hc : ∀ b0 c0, r_impl_primeForm D (n : Int) = some (((n : Int), b0, c0), true) → u = gC D hD ((n : Int), b0, c0) ∧ v = gC D hD ((n : Int), -b0, c0)) (y21 : F3 × Bool), r_laws_FnNeighbours_L24 more (L, true) (kr, true) y21 (D, (n : Int)) (nbM L n, true) FU 0 = some (.inl ()) := by
        intro u v huv hc y21
        have hS : ∀ f ∈ L, NbS u v kr f (nbs f n) := fun f hf => nb_spec hn hD1 hD hg ((hL f).1 hf) hc
        have hat : ∀ j (hj : j < L.length) i (hi : i < L.length), ((nbM L n)[j]'(by omega))[i]'(by rw [hMR _ (List.getElem_mem _)]; exact hi) = ((nbs L[j] n).count L[i] : Nat) := by
          intro j hj i hi
          have e : (nbM L n)[j]'(by omega) = rowOf L (nbs L[j] n) := by unfold nbM; rw [List.getElem_map]
          have := rowOf_at l4 (hyL L[j] (List.getElem_mem hj)) hi
          simp only [e]
          exact this
        have := l24_run (M := nbM L n) (b := true) (b2 := true) (more := more) (y14 := (L, true)) (kr := kr) (y21 := y21) (y5 := (D, (n : Int))) (N := L.length) (by omega) hML hMR ?_ hkr ?_ ?_ L.length FU 0 (by omega) (by omega)
        · have e0 : (((0 : Nat) : Int)) = 0 := rfl
          rw [e0] at this
          exact this
        · intro x hx y hy
          obtain ⟨j, hj, rfl⟩ := List.getElem_of_mem hx
          obtain ⟨i, hi, rfl⟩ := List.getElem_of_mem hy
          have hj' : j < L.length := by omega
          have hi' : i < L.length := by rw [hMR _ hx] at hi; exact hi
          rw [hat j hj' i hi']
          have := List.count_le_length (a := L[i]) (l := nbs L[j] n)
          have := nbs_len L[j] n
          omega
        · intro x hx
          obtain ⟨f, hf, rfl⟩ := List.mem_map.1 hx
          rw [rowOf_sum (hyL f hf)]
          exact nb_cnt (hS f hf)
        · intro j hj i hi
          rw [hat j hj i hi, hat i hi j hj]
          rw [nb_sym hD1 huv ((hL _).1 (List.getElem_mem hj)) ((hL _).1 (List.getElem_mem hi)) (hS _ (List.getElem_mem hj)) (hS _ (List.getElem_mem hi))]
      rcases prime_val hn hD1 hD3 h4 hD hg with ⟨k, P, hP⟩ | ⟨k, P, hP, p1, p2⟩
      · subst k
        have hno : ∀ b0 c0, r_impl_primeForm D (n : Int) = some (((n : Int), b0, c0), true) → (g1 D hD) = gC D hD ((n : Int), b0, c0) ∧ (g1 D hD) = gC D hD ((n : Int), -b0, c0) := by
          intro b0 c0 h
          exfalso
          rcases hg.sym with ⟨_, ⟨P', h'⟩, _⟩ | ⟨_, _, _, _, _, _, ⟨e, _⟩ | ⟨e, _⟩⟩
          · rw [h'] at h
            have h := some_inj h
            simp only [Prod.mk.injEq, Bool.false_eq_true, and_false] at h
          · omega
          · omega
        have hr := rows (gF_one hD h4 hD1) hno (P, false)
        simp only [hP, Option.bind_some, eqSelf, Bool.not_true, bne_self_eq_false, cond_false, hr, Bool.not_false, cond_true]
      · have hu := gC_inv (hD := hD) (cf_of_prc hD1 hD p1)
        have hr := rows hu p2 (P, true)
        have hk1 : eqI kr (-1) = false := eqI_false k
        simp only [hP, Option.bind_some, hk1, Bool.not_false, bne_self_eq_false, cond_false, hr, Bool.not_true]
        obtain ⟨z, ez, z0, z1⟩ := numberOf_ok hm hm8
        have hLpos : 0 < L.length := by
          have := (hL (pF D)).2 (pf_prc hD1 hD h4)
          exact List.length_pos_of_mem this
        rw [ez, Option.bind_some, nz_ne (show (L.length : Int) ≠ 0 by omega)]
        have t1 := tmod_range z0 (show (0 : Int) < L.length by omega)
        simp only [Option.bind_some, sI_eq]
        generalize hi : Int.tmod z (L.length : Int) = zi at *
        obtain ⟨i, rfl⟩ := Int.eq_ofNat_of_zero_le t1.1
        have hi' : i < L.length := by omega
        rw [getNat hi']
        have hf := (hL _).1 (List.getElem_mem hi')
        have hcf := cfc_prc hD1 hD hf
        have hcP := cfc_prc hD1 hD p1
        have hNC : r_impl_NeighbourClasses L[i] (n : Int) = some (nbs L[i] n, true) := by
          simp only [r_impl_NeighbourClasses, hcf.1, i1, (red_self hD1 hD hf).1, (nb_val (rr_of hD1 hD hf) n2 n43).1, Option.bind_some, Bool.not_true, cond_false]
        obtain ⟨fo, f1, f2, f3, f4⟩ := composeForms_i hD hcf hcP
        obtain ⟨ba, g1', g2, g3, g4⟩ := compose_impl hD1 hD hcf.2.2.1 (cf_opp hcP.2.2.1)
        have g4' : gC D hD ba = gM (gC D hD L[i]) (gC D hD (opF P)) := (gM_of g4).symm
        have hDF : r_impl_DivideForms L[i] P = some (ba, true) := by
          simp only [r_impl_DivideForms, (pair_true' hcf hcP).1, opp_val hcP.2.2.1, g1', Option.bind_some, Bool.not_true, cond_false]
        have hS := nb_spec hn hD1 hD hg hf p2
        obtain ⟨s1, s2, s3⟩ := nb_two hD1 hu k f2 g2 f4 g4' hS
        have hlen := nbs_len L[i] n
        have h66 := l66_run (b := true) (b1 := true) (b2 := true) (show (nbs L[i] n).length ≤ 100000 by omega) s3 (nbs L[i] n).length FU 0 (by omega) (by omega)
        have e0 : (((0 : Nat) : Int)) = 0 := rfl
        rw [e0] at h66
        have hcnt := nb_cnt hS
        have hw : w64 (1 + kr) = 1 + kr := w64_in (by omega)
        simp only [Option.bind_some, hNC, f1, hDF, hw, hcnt, eqSelf, Bool.not_true, cond_false, qHas_val (show (nbs L[i] n).length ≤ 100000 by omega) s1, qHas_val (show (nbs L[i] n).length ≤ 100000 by omega) s2, h66]
  · rw [decide_eq_false hok]
    simp [hnil]
end Go.Proofs.YtafomkclmkfjeaaGreat
