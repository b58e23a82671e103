/-
  Sums of series over lists of forms; genera are a partition of the reduced forms.
  Conditions: none.
-/
import Derived.Test.YtpfnhgpepgeaiaaTsThB
import Derived.Test.YtpfnhgpepgeaiaaTsRlI
import Derived.Test.YtpfnhgpepgeaiaaTsTsTab
namespace Go.Proofs.Ytpfnhgpepgeaiaa
set_option linter.unusedVariables false
set_option linter.unusedSimpArgs false

abbrev F3 := Int × Int × Int
def tcf (f : F3) (m : Nat) : Int := tcF f.1 f.2.1 f.2.2 m
def smF : List F3 → Nat → Int
  | [], _ => 0
  | f :: l, m => tcf f m + smF l m
theorem smF_app (a b : List F3) (m : Nat) : smF (a ++ b) m = smF a m + smF b m := by
  induction a with
  | nil => simp [smF]
  | cons f a ih => rw [List.cons_append, smF, smF, ih]; omega
theorem tcf_bd (f : F3) (m : Nat) : 0 ≤ tcf f m ∧ tcf f m ≤ 841 := by
  have := TC_le f.1 f.2.1 f.2.2 m
  unfold tcf tcF
  omega
theorem smF_bd : ∀ (l : List F3) (m : Nat), 0 ≤ smF l m ∧ smF l m ≤ 841 * l.length
  | [], m => by simp [smF]
  | f :: l, m => by
    have h1 := tcf_bd f m
    have h2 := smF_bd l m
    rw [smF, List.length_cons]
    omega
def mixF (F G : Nat → Int) (t j : Nat) : Int := if j < t then F j + G j else F j
theorem mix_set {F G : Nat → Int} {n t : Nat} (ht : t ≤ n) : (tabF (mixF F G t) n).set t (F t + G t) = tabF (mixF F G (t + 1)) n := by
  refine List.ext_getElem? fun i => ?_
  rw [List.getElem?_set]
  unfold tabF
  rw [List.getElem?_map, List.getElem?_map, List.length_map, List.length_range]
  by_cases hi : i < n + 1
  · rw [List.getElem?_range hi]
    simp only [Option.map_some]
    unfold mixF
    by_cases he : t = i
    · subst he
      rw [if_pos rfl, if_pos (by omega), if_pos (by omega)]
    · rw [if_neg he]
      congr 1
      by_cases h : i < t
      · rw [if_pos h, if_pos (by omega)]
      · rw [if_neg h, if_neg (by omega)]
  · rw [List.getElem?_eq_none (by simp; omega), if_neg (by omega)]
    rfl
theorem add_run (fs : List F3) (t4 vn : Int) {F G : Nat → Int} {n : Nat} (hn : n ≤ 100) (hF : ∀ j, (F j).natAbs ≤ 1000000000) (hG : ∀ j, (G j).natAbs ≤ 1000000000) : ∀ (k fu t : Nat), t + k = n + 1 → k < fu →
    r_impl_thetaSum_L13 fs t4 vn (tabF G n) fu (t : Int) (tabF (mixF F G t) n) = some (tabF (fun j => F j + G j) n)
  | k, 0, t, _, hf => by omega
  | 0, fu + 1, t, ht, hf => by
    rw [r_impl_thetaSum_L13, tabF_len, ltI_eq, decide_eq_false (by omega), cond_false]
    congr 1
    unfold tabF
    refine List.map_congr_left fun j hj => ?_
    rw [List.mem_range] at hj
    unfold mixF
    rw [if_pos (by omega)]
  | k + 1, fu + 1, t, ht, hf => by
    have e : mixF F G t t = F t := by unfold mixF; rw [if_neg (by omega)]
    rw [r_impl_thetaSum_L13, tabF_len, ltI_eq, decide_eq_true (by omega), cond_true, tabF_get (by omega), tabF_get (by omega), e]
    simp only [Option.bind_some, sI_eq, wsucc (show t < 1000000000 by omega), Int.toNat_natCast]
    have h1 := hF t
    have h2 := hG t
    rw [w64_in (by omega), mix_set (by omega)]
    exact add_run fs t4 vn hn hF hG k fu (t + 1) (by omega) (by omega)
theorem add_val (fs : List F3) (t4 vn : Int) {F G : Nat → Int} {n : Nat} (hn : n ≤ 100) (hF : ∀ j, (F j).natAbs ≤ 1000000000) (hG : ∀ j, (G j).natAbs ≤ 1000000000) : r_impl_thetaSum_L13 fs t4 vn (tabF G n) FU 0 (tabF F n) = some (tabF (fun j => F j + G j) n) := by
  have hFU := FUge
  have := add_run fs t4 vn hn hF hG (n + 1) FU 0 (by omega) (by omega)
  have e0 : (((0 : Nat) : Int)) = 0 := rfl
  have e1 : tabF (mixF F G 0) n = tabF F n := by
    unfold tabF
    refine List.map_congr_left fun j _ => ?_
    unfold mixF
    rw [if_neg (by omega)]
  rw [e0, e1] at this
  exact this
theorem sadd_eq (fs : List F3) (t4 vn : Int) (y : List Int) : ∀ (fu : Nat) (t : Int) (l : List Int), r_spec_thSum_L13 fs t4 vn y fu t l = r_impl_thetaSum_L13 fs t4 vn y fu t l
  | 0, t, l => rfl
  | fu + 1, t, l => by
    rw [r_spec_thSum_L13, r_impl_thetaSum_L13]
    simp only [sI_eq, sadd_eq fs t4 vn y fu]
theorem ladd_eq (more : List Int) (t16 : Int) (y13 : (List (List F3)) × Bool) (y24 : List Int × Bool) (y5 : Int × Int) (y6 y7 : List Int × Bool) (fs : List F3) (t4 vn : Int) : ∀ (fu : Nat) (t : Int) (l : List Int), r_laws_FnThetaSums_L30 more t16 y13 y24 y5 y6 y7 fu t l = r_impl_thetaSum_L13 fs t4 vn y24.1 fu t l
  | 0, t, l => rfl
  | fu + 1, t, l => by
    rw [r_laws_FnThetaSums_L30, r_impl_thetaSum_L13]
    simp only [sI_eq, ladd_eq more t16 y13 y24 y5 y6 y7 fs t4 vn fu]
theorem tabF_congr {F G : Nat → Int} {n : Nat} (h : ∀ j, F j = G j) : tabF F n = tabF G n := by
  unfold tabF
  exact List.map_congr_left fun j _ => h j
theorem smF_take {L : List F3} {t : Nat} (h : t < L.length) (m : Nat) : smF (L.take (t + 1)) m = smF (L.take t) m + tcf L[t] m := by
  rw [List.take_add_one, List.getElem?_eq_getElem h, smF_app]
  simp [smF]
theorem smF_nat {L : List F3} (hL : L.length ≤ 100000) (m : Nat) : (smF L m).natAbs ≤ 1000000000 := by
  have := smF_bd L m
  omega
theorem sum_loop {d : Int} (hd1 : -2000 ≤ d) (hd2 : d ≤ -3) {L : List F3} (hL : L.length ≤ 100000) (hp : ∀ f ∈ L, PrR d f) {n : Nat} (hn : n ≤ 100) : ∀ (k fu t : Nat), t + k = L.length → k < fu →
    r_impl_thetaSum_L6 L (n : Int) fu (t : Int) (tabF (smF (L.take t)) n) = some (tabF (smF L) n) ∧ r_spec_thSum_L6 L (n : Int) fu (t : Int) (tabF (smF (L.take t)) n) = some (tabF (smF L) n)
  | k, 0, t, _, hf => by omega
  | 0, fu + 1, t, ht, hf => by
    rw [r_impl_thetaSum_L6, r_spec_thSum_L6, ltI_eq, decide_eq_false (by omega), cond_false, cond_false, List.take_of_length_le (by omega)]
    exact ⟨rfl, rfl⟩
  | k + 1, fu + 1, t, ht, hf => by
    have hlt : t < L.length := by omega
    obtain ⟨h1, h2⟩ := theta_red hd1 hd2 (hp _ (List.getElem_mem hlt)) hn
    have hA := add_val L (t : Int) (n : Int) (F := smF (L.take t)) (G := tcf L[t]) hn (smF_nat (by rw [List.length_take]; omega)) (fun j => by have := tcf_bd L[t] j; omega)
    have e : tabF (tcF L[t].1 L[t].2.1 L[t].2.2) n = tabF (tcf L[t]) n := rfl
    rw [r_impl_thetaSum_L6, r_spec_thSum_L6, ltI_eq, decide_eq_true (by omega), cond_true, cond_true, getNat hlt]
    simp only [Option.bind_some, h1, h2, e, sadd_eq, hA, sI_eq, wsucc (show t < 1000000000 by omega)]
    rw [← tabF_congr (smF_take hlt)]
    exact sum_loop hd1 hd2 hL hp hn k fu (t + 1) (by omega) (by omega)
theorem zero_tab (n : Nat) : List.replicate (n + 1) (0 : Int) = tabF (smF []) n := by
  unfold tabF
  refine (List.eq_replicate_iff.2 ⟨by simp, fun b hb => ?_⟩).symm
  obtain ⟨r, _, rfl⟩ := List.mem_map.1 hb
  rfl
theorem thetaSum_val {d : Int} (hd1 : -2000 ≤ d) (hd2 : d ≤ -3) {L : List F3} (hL : L.length ≤ 100000) (hp : ∀ f ∈ L, PrR d f) {n : Nat} (hn : n ≤ 100) : r_impl_thetaSum L (n : Int) = some (tabF (smF L) n) ∧ r_spec_thSum L (n : Int) = some (tabF (smF L) n) := by
  have hFU := FUge
  have e1 : w64 ((n : Int) + 1) = ((n + 1 : Nat) : Int) := by rw [w64_in (by omega)]; push_cast; rfl
  obtain ⟨h1, h2⟩ := sum_loop hd1 hd2 hL hp hn L.length FU 0 (by omega) (by omega)
  have e0 : (((0 : Nat) : Int)) = 0 := rfl
  rw [e0, List.take_zero, ← zero_tab] at h1 h2
  constructor
  · simp only [r_impl_thetaSum, e1, mkN (show n + 1 ≤ 1000000 by omega), Option.bind_some, Int.toNat_natCast, h1]
  · simp only [r_spec_thSum, e1, mkN (show n + 1 ≤ 1000000 by omega), Option.bind_some, Int.toNat_natCast, h2]
/-! ### Genera -/
theorem sv_run (x y : List Int) (hl : x.length = y.length) (hx : x.length ≤ 1000000) : ∀ (k fu t : Nat), t + k = x.length → k < fu → (∀ j, j < t → x[j]? = y[j]?) →
    (r_impl_sameValues_L5 x y fu (t : Int) = some (.inl ()) ∧ x = y) ∨ (r_impl_sameValues_L5 x y fu (t : Int) = some (.inr false) ∧ x ≠ y)
  | k, 0, t, _, hf, _ => by omega
  | 0, fu + 1, t, ht, hf, hj => by
    left
    rw [r_impl_sameValues_L5, ltI_eq, decide_eq_false (by omega), cond_false]
    refine ⟨rfl, List.ext_getElem? fun i => ?_⟩
    by_cases hi : i < t
    · exact hj i hi
    · rw [List.getElem?_eq_none (by omega), List.getElem?_eq_none (by omega)]
  | k + 1, fu + 1, t, ht, hf, hj => by
    have h1 : t < x.length := by omega
    have h2 : t < y.length := by omega
    rw [r_impl_sameValues_L5, ltI_eq, decide_eq_true (by omega), cond_true, getNat h1, getNat h2]
    simp only [Option.bind_some, sI_eq, wsucc (show t < 1000000000 by omega)]
    by_cases h : y[t] = x[t]
    · rw [h, eqSelf]
      exact sv_run x y hl hx k fu (t + 1) (by omega) (by omega) fun j hh => by
        by_cases e : j = t
        · subst e; rw [List.getElem?_eq_getElem h1, List.getElem?_eq_getElem h2, h]
        · exact hj j (by omega)
    · right
      rw [eqNe h]
      refine ⟨rfl, fun e => h ?_⟩
      subst e
      rfl
theorem sv_val (x y : List Int) (hx : x.length ≤ 1000000) : r_impl_sameValues x y = some (decide (x = y)) := by
  have hFU : FU = 1000000000 := rfl
  unfold r_impl_sameValues
  by_cases hl : x.length = y.length
  · rw [hl, eqSelf]
    rcases sv_run x y hl hx x.length FU 0 (by omega) (by omega) (fun j h => by omega) with ⟨h1, h2⟩ | ⟨h1, h2⟩
    · have e0 : (((0 : Nat) : Int)) = 0 := rfl
      rw [e0] at h1
      rw [h1, decide_eq_true h2]
      rfl
    · have e0 : (((0 : Nat) : Int)) = 0 := rfl
      rw [e0] at h1
      rw [h1, decide_eq_false h2]
      rfl
  · rw [eqNe (by omega), decide_eq_false (fun e => hl (by rw [e]))]
    rfl
/-- The values of a form's genus. -/
def gv (f : F3) : List Int := (r_impl_genusValues f).getD []
structure GvOk (L : List F3) : Prop where
  s : ∀ f ∈ L, r_impl_genusValues f = some (gv f)
  l : ∀ f ∈ L, (gv f).length ≤ 1000
def cls (L : List F3) (c : List Int) : List F3 := L.filter fun g => decide (gv g = c)
theorem gw_run {L : List F3} (h : GvOk L) (c : List Int) (hL : L.length ≤ 100000) : ∀ (k fu t : Nat), t + k = L.length → k < fu → r_impl_genusWith_L6 c L fu (t : Int) (cls (L.take t) c) = some (cls L c)
  | k, 0, t, _, hf => by omega
  | 0, fu + 1, t, ht, hf => by
    rw [r_impl_genusWith_L6, ltI_eq, decide_eq_false (by omega), cond_false, List.take_of_length_le (by omega)]
  | k + 1, fu + 1, t, ht, hf => by
    have hlt : t < L.length := by omega
    have hm := List.getElem_mem hlt
    have hcl : cls (L.take (t + 1)) c = cls (L.take t) c ++ (if gv L[t] = c then [L[t]] else []) := by
      unfold cls
      rw [List.take_add_one, List.getElem?_eq_getElem hlt, List.filter_append]
      congr 1
      show List.filter _ [L[t]] = _
      rw [List.filter_cons]
      by_cases e : gv L[t] = c <;> simp [e]
    have hle : (cls (L.take t) c).length ≤ t := by
      unfold cls
      refine Nat.le_trans (List.length_filter_le _ _) ?_
      rw [List.length_take]; omega
    rw [r_impl_genusWith_L6, ltI_eq, decide_eq_true (by omega), cond_true, getNat hlt]
    simp only [Option.bind_some, h.s _ hm, sv_val _ _ (Nat.le_trans (h.l _ hm) (by omega)), sI_eq, wsucc (show t < 1000000000 by omega)]
    by_cases e : gv L[t] = c
    · rw [decide_eq_true e, cond_true, roomOk (by simp; omega)]
      rw [if_pos e] at hcl
      simp only [Option.bind_some]
      rw [← hcl]
      exact gw_run h c hL k fu (t + 1) (by omega) (by omega)
    · rw [decide_eq_false e, cond_false]
      rw [if_neg e, List.append_nil] at hcl
      rw [← hcl]
      exact gw_run h c hL k fu (t + 1) (by omega) (by omega)
theorem gw_val {d : Int} {L : List F3} (hd : r_impl_reducedForms d = some L) (h : GvOk L) (c : List Int) (hL : L.length ≤ 100000) : r_impl_genusWith d c = some (cls L c) := by
  have hFU := FUge
  have := gw_run h c hL L.length FU 0 (by omega) (by omega)
  have e0 : (((0 : Nat) : Int)) = 0 := rfl
  rw [e0] at this
  have e1 : cls (L.take 0) c = [] := rfl
  rw [e1] at this
  simp only [r_impl_genusWith, hd, this, Option.bind_some]
/-- The first form of its genus. -/
def isH (L : List F3) (f : F3) : Bool := decide ((cls L (gv f)).head? = some f)
def gnr (L M : List F3) : List (List F3) := (M.filter (isH L)).map fun f => cls L (gv f)
theorem eq3 (a b : F3) : ((a.1 == b.1) && ((a.2.1 == b.2.1) && (a.2.2 == b.2.2))) = decide (a = b) := by
  obtain ⟨a1, a2, a3⟩ := a
  obtain ⟨b1, b2, b3⟩ := b
  rw [Bool.eq_iff_iff, Bool.and_eq_true, Bool.and_eq_true, beq_iff_eq, beq_iff_eq, beq_iff_eq, decide_eq_true_iff, Prod.mk.injEq, Prod.mk.injEq]
theorem gen_run {d : Int} {L : List F3} (hd : r_impl_reducedForms d = some L) (h : GvOk L) (hL : L.length ≤ 100000) : ∀ (k fu t : Nat), t + k = L.length → k < fu → r_impl_genera_L5 d L fu (t : Int) (gnr L (L.take t)) = some (gnr L L)
  | k, 0, t, _, hf => by omega
  | 0, fu + 1, t, ht, hf => by
    rw [r_impl_genera_L5, ltI_eq, decide_eq_false (by omega), cond_false, List.take_of_length_le (by omega)]
  | k + 1, fu + 1, t, ht, hf => by
    have hlt : t < L.length := by omega
    have hm := List.getElem_mem hlt
    have hin : L[t] ∈ cls L (gv L[t]) := List.mem_filter.2 ⟨hm, decide_eq_true rfl⟩
    have hg : gnr L (L.take (t + 1)) = gnr L (L.take t) ++ (if isH L L[t] then [cls L (gv L[t])] else []) := by
      unfold gnr
      rw [List.take_add_one, List.getElem?_eq_getElem hlt, List.filter_append, List.map_append]
      congr 1
      show List.map _ (List.filter _ [L[t]]) = _
      rw [List.filter_cons]
      cases isH L L[t] <;> rfl
    have hle : (gnr L (L.take t)).length ≤ t := by
      unfold gnr
      rw [List.length_map]
      refine Nat.le_trans (List.length_filter_le _ _) ?_
      rw [List.length_take]; omega
    rw [r_impl_genera_L5, ltI_eq, decide_eq_true (by omega), cond_true, getNat hlt]
    simp only [Option.bind_some, h.s _ hm, gw_val hd h (gv L[t]) hL, sI_eq, wsucc (show t < 1000000000 by omega)]
    have hh : ∃ x r, cls L (gv L[t]) = x :: r := by
      match hc : cls L (gv L[t]) with
      | [] => rw [hc] at hin; cases hin
      | x :: r => exact ⟨x, r, rfl⟩
    obtain ⟨x, r, hx⟩ := hh
    have hg0 : getI (cls L (gv L[t])) 0 = some x := by rw [hx]; rfl
    have hH : isH L L[t] = decide (x = L[t]) := by
      unfold isH
      rw [hx]
      simp only [List.head?_cons, Option.some.injEq]
    rw [hg0]
    simp only [Option.bind_some, eq3]
    rw [← hH]
    cases hb : isH L L[t] with
    | true =>
      rw [hb, if_pos rfl] at hg
      rw [cond_true, roomOk (by simp; omega)]
      simp only [Option.bind_some]
      rw [← hg]
      exact gen_run hd h hL k fu (t + 1) (by omega) (by omega)
    | false =>
      rw [hb, if_neg (by simp), List.append_nil] at hg
      rw [cond_false, ← hg]
      exact gen_run hd h hL k fu (t + 1) (by omega) (by omega)
theorem gen_val {d : Int} {L : List F3} (hd : r_impl_reducedForms d = some L) (h : GvOk L) (hL : L.length ≤ 100000) : r_impl_genera d = some (gnr L L) := by
  have hFU := FUge
  have := gen_run hd h hL L.length FU 0 (by omega) (by omega)
  have e0 : (((0 : Nat) : Int)) = 0 := rfl
  rw [e0] at this
  have e1 : gnr L (L.take 0) = [] := rfl
  rw [e1] at this
  simp only [r_impl_genera, hd, this, Option.bind_some]
/-! ### The partition -/
def smN (c : F3 → Nat) : List F3 → Nat → Int
  | [], _ => 0
  | f :: l, m => (c f : Int) * tcf f m + smN c l m
theorem smN_one (l : List F3) (m : Nat) (c : F3 → Nat) (h : ∀ f ∈ l, c f = 1) : smN c l m = smF l m := by
  induction l with
  | nil => rfl
  | cons f l ih =>
    rw [smN, smF, ih fun g hg => h g (List.mem_cons_of_mem _ hg), h f List.mem_cons_self]
    simp
def gsum (L : List F3) : List F3 → Nat → Int
  | [], _ => 0
  | f :: r, m => smF (cls L (gv f)) m + gsum L r m
theorem gsum_eq (L : List F3) (m : Nat) : ∀ R : List F3, gsum L R m = smN (fun g => R.countP fun f => decide (gv g = gv f)) L m
  | [] => by
    have : ∀ l : List F3, smN (fun g => List.countP (fun f => decide (gv g = gv f)) []) l m = 0 := by
      intro l
      induction l with
      | nil => rfl
      | cons f l ih => rw [smN, ih]; simp
    rw [this]; rfl
  | f :: R => by
    have key : ∀ l : List F3, smF (cls l (gv f)) m + smN (fun g => R.countP fun f => decide (gv g = gv f)) l m = smN (fun g => (f :: R).countP fun f => decide (gv g = gv f)) l m := by
      intro l
      induction l with
      | nil => rfl
      | cons g l ih =>
        unfold cls at ih ⊢
        rw [List.filter_cons, smN, smN, ← ih, List.countP_cons]
        by_cases e : gv g = gv f
        · rw [decide_eq_true e, if_pos rfl, if_pos rfl, smF]
          push_cast
          grind
        · rw [decide_eq_false e, if_neg (by simp), if_neg (by simp)]
          push_cast
          grind
    rw [gsum, gsum_eq L m R, key]
theorem one_rep {L : List F3} (hn : L.Nodup) {g : F3} (hg : g ∈ L) : (L.filter (isH L)).countP (fun f => decide (gv g = gv f)) = 1 := by
  have hin : g ∈ cls L (gv g) := List.mem_filter.2 ⟨hg, decide_eq_true rfl⟩
  match hc : cls L (gv g) with
  | [] => rw [hc] at hin; cases hin
  | x :: r =>
    have hxm : x ∈ cls L (gv g) := by rw [hc]; exact List.mem_cons_self
    have hx := List.mem_filter.1 hxm
    have hxv : gv x = gv g := of_decide_eq_true hx.2
    have hpq : ((L.filter (isH L)).filter fun f => decide (gv g = gv f)) = L.filter (fun f => decide (f = x)) := by
      rw [List.filter_filter]
      refine List.filter_congr fun f hf => ?_
      rw [Bool.eq_iff_iff, Bool.and_eq_true, decide_eq_true_iff, decide_eq_true_iff]
      unfold isH
      rw [decide_eq_true_iff]
      constructor
      · rintro ⟨h1, h2⟩
        rw [← h1, hc] at h2
        simpa using h2.symm
      · rintro rfl
        exact ⟨hxv.symm, by rw [hxv, hc]; rfl⟩
    have hlen : (L.filter fun f => decide (f = x)).length = 1 := by
      have h1 : (L.filter fun f => decide (f = x)).Perm [x] := (List.perm_ext_iff_of_nodup (hn.filter _) (by simp)).2 fun y => by
        rw [List.mem_filter, List.mem_singleton, decide_eq_true_iff]
        exact ⟨fun h => h.2, fun h => ⟨by rw [h]; exact hx.1, h⟩⟩
      exact h1.length_eq
    rw [List.countP_eq_length_filter, hpq, hlen]
theorem gsum_val {L : List F3} (hn : L.Nodup) (m : Nat) : gsum L (L.filter (isH L)) m = smF L m := by
  rw [gsum_eq]
  exact smN_one L m _ fun g hg => one_rep hn hg
end Go.Proofs.Ytpfnhgpepgeaiaa
namespace Go.Proofs.Ytpfnhgpepgeaiaa
set_option linter.unusedVariables false
set_option linter.unusedSimpArgs false

/-! ### Quick symbols -/
theorem kq_val (d : Int) : ∀ (f e : Nat), 1 ≤ e → e < 2 ^ f → e ≤ 1000000 → kq d f e = KK d e
  | 0, e, h1, h2, _ => by simp at h2; omega
  | f + 1, e, h1, h2, h3 => by
    unfold kq
    rw [nbeq]
    by_cases h : e % 2 = 0
    · have h' : Nat.mod e 2 = 0 := h
      rw [decide_eq_true h', cond_true, KK_even d h, eqI_eq]
      unfold t2
      by_cases hd : d % 2 = 0
      · rw [if_pos hd, beq_iff_eq.2 hd, cond_true, Int.zero_mul]
      · have e2 : e / 2 < 2 ^ f := by rw [Nat.pow_succ] at h2; omega
        rw [if_neg hd, beq_eq_false_iff_ne.2 hd, cond_false, show Nat.div e 2 = e / 2 from rfl, kq_val d f (e / 2) (by omega) e2 (by omega), eqI_eq, eqI_eq]
        by_cases a : d % 8 = 3
        · rw [beq_iff_eq.2 a, if_pos (.inl a), cond_true, Int.mul_comm]
        · by_cases b : d % 8 = 5
          · rw [beq_eq_false_iff_ne.2 a, beq_iff_eq.2 b, if_pos (.inr b), cond_false, cond_true, Int.mul_comm]
          · rw [beq_eq_false_iff_ne.2 a, beq_eq_false_iff_ne.2 b, if_neg (by omega), cond_false, cond_false, Int.mul_comm]
    · have h' : ¬ Nat.mod e 2 = 0 := h
      have n1 := Int.emod_nonneg d (b := (e : Int)) (by omega)
      have n2 := Int.emod_lt_of_pos d (b := (e : Int)) (by omega)
      rw [decide_eq_false h', cond_false, jN_JJ 100 _ e false (jN_ok h1 h3 (by omega) false) (by omega), KK_odd d (by omega)]
      show sg false * _ = JI d e
      unfold JI
      have : sg false = 1 := rfl
      rw [this, Int.one_mul]
def sgK (d : Int) (m : Nat) : Nat → Int
  | 0 => 0
  | e + 1 => (if m % (e + 1) = 0 then KK d (e + 1) else 0) + sgK d m e
theorem sgQ_val (d : Int) (m : Nat) : ∀ (e : Nat) (s : Int), e ≤ 100 → sgQ d m e s = s + sgK d m e
  | 0, s, _ => by unfold sgQ sgK; omega
  | e + 1, s, h => by
    unfold sgQ sgK
    rw [nbeq, kq_val d 8 (Nat.succ e) (by omega) (by omega) (by omega), sI_eq]
    by_cases hm : m % (e + 1) = 0
    · have hm' : Nat.mod m (Nat.succ e) = 0 := hm
      rw [decide_eq_true hm', cond_true, if_pos hm, sgQ_val d m e _ (by omega), Int.add_assoc]
    · have hm' : ¬ Nat.mod m (Nat.succ e) = 0 := hm
      rw [decide_eq_false hm', cond_false, if_neg hm, sgQ_val d m e _ (by omega)]
      omega
/-! ### Values counted in digits -/
/-- The number whose digits count the values. -/
def dS : List Nat → Nat
  | [] => 0
  | v :: l => 1048576 ^ v + dS l
theorem dS_app : ∀ (a b : List Nat), dS (a ++ b) = dS a + dS b
  | [], b => by simp [dS]
  | v :: a, b => by
    have := dS_app a b
    simp only [List.cons_append, dS, this]
    omega
theorem dS_split (n : Nat) : ∀ l : List Nat, ∃ lo hi, dS l = lo + (l.count n + hi * 1048576) * 1048576 ^ n ∧ lo * 1048576 ≤ l.length * 1048576 ^ n
  | [] => ⟨0, 0, by simp [dS], by simp⟩
  | v :: l => by
    obtain ⟨lo, hi, e, h⟩ := dS_split n l
    have hlen : (l.length + 1) * 1048576 ^ n = l.length * 1048576 ^ n + 1048576 ^ n := by rw [Nat.add_mul, Nat.one_mul]
    rw [List.length_cons, hlen]
    clear hlen
    rcases Nat.lt_trichotomy v n with h1 | h1 | h1
    · refine ⟨lo + 1048576 ^ v, hi, ?_, ?_⟩
      · rw [dS, e, List.count_cons_of_ne (by omega)]; omega
      · have h2 : 1048576 ^ (v + 1) ≤ 1048576 ^ n := Nat.pow_le_pow_right (by omega) h1
        rw [Nat.pow_succ] at h2
        rw [Nat.add_mul lo]
        exact Nat.add_le_add h h2
    · refine ⟨lo, hi, ?_, Nat.le_trans h (Nat.le_add_right _ _)⟩
      rw [dS, e, h1, List.count_cons_self]
      generalize 1048576 ^ n = P
      generalize List.count n l = c
      rw [show c + 1 + hi * 1048576 = (c + hi * 1048576) + 1 by omega, Nat.add_mul (c + hi * 1048576) 1 P, Nat.one_mul]
      omega
    · obtain ⟨j, rfl⟩ : ∃ j, v = j + (n + 1) := ⟨v - (n + 1), by omega⟩
      refine ⟨lo, hi + 1048576 ^ j, ?_, Nat.le_trans h (Nat.le_add_right _ _)⟩
      rw [dS, e, List.count_cons_of_ne (by omega), Nat.pow_add, Nat.pow_succ]
      generalize 1048576 ^ n = P
      generalize 1048576 ^ j = Q
      generalize List.count n l = c
      have e1 : Q * (P * 1048576) = (Q * 1048576) * P := by rw [Nat.mul_assoc, Nat.mul_comm P]
      have e2 : (c + (hi + Q) * 1048576) * P = (c + hi * 1048576) * P + (Q * 1048576) * P := by rw [← Nat.add_mul]; congr 1; omega
      rw [e1, e2]
      omega
theorem dig {l : List Nat} (hl : l.length < 1048576) (n : Nat) : dS l / 1048576 ^ n % 1048576 = l.count n := by
  obtain ⟨lo, hi, e, h⟩ := dS_split n l
  have hB : 0 < 1048576 ^ n := Nat.pow_pos (by omega)
  have hlo : lo < 1048576 ^ n := by
    rcases Nat.lt_or_ge lo (1048576 ^ n) with h1 | h1
    · exact h1
    · have h2 : (l.length + 1) * 1048576 ^ n ≤ 1048576 * 1048576 ^ n := Nat.mul_le_mul_right _ hl
      rw [Nat.succ_mul] at h2
      omega
  have hc : l.count n ≤ l.length := List.count_le_length
  rw [e, Nat.add_mul_div_right _ _ hB, Nat.div_eq_of_lt hlo, Nat.zero_add, Nat.add_mul_mod_self_right, Nat.mod_eq_of_lt (by omega)]
def okV (A B C : Int) (p : Int × Int) : Bool := leI (vT A B C p) 100
def vN (A B C : Int) (p : Int × Int) : Nat := (vT A B C p).toNat
def colV (A B C x : Int) (g : Nat) (y0 : Int) : List (Int × Int) := ((upz g y0).map fun y => (x, y)).filter (okV A B C)
def enV (A B C : Int) (g : Nat) (y0 : Int) (f : Nat) (x : Int) : List (Int × Int) := (upz f x).flatMap fun x => colV A B C x g y0
theorem qY_eq (A B C x : Int) : ∀ (g : Nat) (y : Int) (acc : Nat), qY A B C x g y acc = acc + dS ((colV A B C x g y).map (vN A B C))
  | 0, y, acc => rfl
  | g + 1, y, acc => by
    rw [qY, sI_eq, sI_eq, fQ_eq]
    have e : leI (A * x * x + B * x * y + C * y * y) 100 = okV A B C (x, y) := rfl
    rw [e]
    unfold colV
    rw [upz, List.map_cons, List.filter_cons]
    cases okV A B C (x, y) with
    | false => rw [cond_false, qY_eq A B C x g]; rfl
    | true =>
      rw [cond_true, if_pos rfl, List.map_cons, dS, qY_eq A B C x g]
      show acc + 1048576 ^ (vN A B C (x, y)) + _ = _
      unfold colV
      omega
theorem qX_eq (A B C : Int) (g : Nat) (y0 : Int) : ∀ (f : Nat) (x : Int) (acc : Nat), qX A B C g y0 f x acc = acc + dS ((enV A B C g y0 f x).map (vN A B C))
  | 0, x, acc => rfl
  | f + 1, x, acc => by
    rw [qX, sI_eq, fQ_eq, qX_eq A B C g y0 f, qY_eq]
    unfold enV
    rw [upz, List.flatMap_cons, List.map_append, dS_app]
    omega
theorem mem_colV {A B C x : Int} {g : Nat} {y0 : Int} {p : Int × Int} : p ∈ colV A B C x g y0 ↔ p.1 = x ∧ (y0 ≤ p.2 ∧ p.2 < y0 + g) ∧ okV A B C p = true := by
  unfold colV
  rw [List.mem_filter, List.mem_map]
  constructor
  · rintro ⟨⟨y, hy, rfl⟩, h⟩
    exact ⟨rfl, (mem_upz _ _ _).1 hy, h⟩
  · rintro ⟨h1, h2, h3⟩
    exact ⟨⟨p.2, (mem_upz _ _ _).2 h2, by rw [← h1]⟩, h3⟩
theorem mem_enV {A B C : Int} {g f : Nat} {y0 x : Int} {p : Int × Int} : p ∈ enV A B C g y0 f x ↔ (x ≤ p.1 ∧ p.1 < x + f) ∧ (y0 ≤ p.2 ∧ p.2 < y0 + g) ∧ okV A B C p = true := by
  unfold enV
  rw [List.mem_flatMap]
  constructor
  · rintro ⟨x', hx, hp⟩
    obtain ⟨h1, h2, h3⟩ := mem_colV.1 hp
    rw [mem_upz] at hx
    exact ⟨by rw [h1]; exact hx, h2, h3⟩
  · rintro ⟨h1, h2, h3⟩
    exact ⟨p.1, (mem_upz _ _ _).2 h1, mem_colV.2 ⟨rfl, h2, h3⟩⟩
theorem enV_nodup (A B C : Int) (g : Nat) (y0 : Int) (f : Nat) (x : Int) : (enV A B C g y0 f x).Nodup := by
  unfold enV List.Nodup
  rw [List.pairwise_flatMap]
  refine ⟨fun x _ => ?_, (upz_lt f x).imp ?_⟩
  · unfold colV
    refine List.Pairwise.filter _ ?_
    rw [List.pairwise_map]
    refine (upz_lt g y0).imp ?_
    intro a b h e
    have := (Prod.mk.inj e).2
    omega
  · intro a b h p hp q hq e
    have h1 := (mem_colV.1 hp).1
    have h2 := (mem_colV.1 hq).1
    rw [e, h2] at h1
    omega
theorem nd_len {α : Type} [DecidableEq α] : ∀ (l m : List α), l.Nodup → (∀ x ∈ l, x ∈ m) → l.length ≤ m.length
  | [], m, _, _ => Nat.zero_le _
  | a :: t, m, hn, hs => by
    rw [List.nodup_cons] at hn
    have ha := hs a List.mem_cons_self
    have h1 := nd_len t (m.erase a) hn.2 fun x hx => (List.mem_erase_of_ne (fun e => hn.1 (by rw [← e]; exact hx))).2 (hs x (List.mem_cons_of_mem _ hx))
    rw [List.length_erase_of_mem ha] at h1
    have := List.length_pos_of_mem ha
    rw [List.length_cons]
    omega
theorem bOk_of {A X : Nat} (h : bOk A X = true) : 401 ≤ 3 * A * ((X + 1) * (X + 1)) ∧ X ≤ 14 := by
  unfold bOk at h
  rw [Bool.and_eq_true] at h
  exact ⟨Nat.le_of_ble_eq_true h.1, Nat.le_of_ble_eq_true h.2⟩
theorem enV_box {A B C : Int} {X Y : Nat} (hX : X ≤ 14) (hY : Y ≤ 14) {p : Int × Int} (h : p ∈ enV A B C (2 * Y + 1) (-(Y : Int)) (2 * X + 1) (-(X : Int))) : p ∈ bx := by
  obtain ⟨h1, h2, _⟩ := mem_enV.1 h
  exact mem_bx.2 (by omega)
theorem enV_len {A B C : Int} {X Y : Nat} (hX : X ≤ 14) (hY : Y ≤ 14) : (enV A B C (2 * Y + 1) (-(Y : Int)) (2 * X + 1) (-(X : Int))).length ≤ 841 := by
  rw [← bx_len]
  exact nd_len _ _ (enV_nodup _ _ _ _ _ _ _) fun p hp => enV_box hX hY hp
theorem in_box {A : Int} {X : Nat} (hA : 1 ≤ A) (h : 401 ≤ 3 * A.toNat * ((X + 1) * (X + 1))) {x : Int} (hx : 3 * (A * (x * x)) ≤ 400) : -(X : Int) ≤ x ∧ x ≤ X := by
  have key : ∀ z : Int, (X : Int) + 1 ≤ z → z * z = x * x → False := by
    intro z hz e
    have h1 : ((X : Int) + 1) * ((X : Int) + 1) ≤ z * z := sq_mono (by omega) hz
    have h2 : A * (((X : Int) + 1) * ((X : Int) + 1)) ≤ A * (z * z) := Int.mul_le_mul_of_nonneg_left h1 (by omega)
    have h3 : (401 : Int) ≤ 3 * A * (((X : Int) + 1) * ((X : Int) + 1)) := by
      have e0 : A = (A.toNat : Int) := by omega
      generalize A.toNat = n at h e0
      subst e0
      have e : ((3 * n * ((X + 1) * (X + 1)) : Nat) : Int) = 3 * (n : Int) * (((X : Int) + 1) * ((X : Int) + 1)) := by
        rw [Int.natCast_mul, Int.natCast_mul, Int.natCast_mul, Int.natCast_add]
        rfl
      rw [← e]
      exact Int.ofNat_le.2 h
    have e3 : 3 * A * (((X : Int) + 1) * ((X : Int) + 1)) = 3 * (A * (((X : Int) + 1) * ((X : Int) + 1))) := by grind
    rw [e] at h2
    omega
  constructor
  · rcases Int.lt_or_le x (-(X : Int)) with h1 | h1
    · exact (key (-x) (by omega) (by grind)).elim
    · exact h1
  · rcases Int.lt_or_le (X : Int) x with h1 | h1
    · exact (key x (by omega) rfl).elim
    · exact h1
theorem cnt_form {A B C : Int} (h : Rf A B C) {X Y : Nat} (hX : bOk A.toNat X = true) (hY : bOk C.toNat Y = true) {m : Nat} (hm : m ≤ 100) : ((enV A B C (2 * Y + 1) (-(Y : Int)) (2 * X + 1) (-(X : Int))).map (vN A B C)).count m = TC A B C m := by
  obtain ⟨x1, x2⟩ := bOk_of hX
  obtain ⟨y1, y2⟩ := bOk_of hY
  have hA := h.a1
  have hC : 1 ≤ C := by have := h.ac; omega
  unfold List.count TC
  rw [List.countP_map, List.countP_eq_length_filter]
  refine same_len ((enV_nodup _ _ _ _ _ _ _).filter _) (bx_nodup.filter _) fun p => ?_
  have hnn := h.nn p
  rw [List.mem_filter, List.mem_filter, decide_eq_true_eq]
  have hvm : (((fun x => x == m) ∘ vN A B C) p = true) ↔ vT A B C p = (m : Int) := by
    show ((vT A B C p).toNat == m) = true ↔ _
    rw [beq_iff_eq]
    omega
  rw [hvm]
  constructor
  · rintro ⟨h1, h2⟩
    exact ⟨enV_box x2 y2 h1, h2⟩
  · rintro ⟨_, h2⟩
    obtain ⟨k1, k2⟩ := h.key p
    rw [h2] at k1 k2
    have b1 := in_box hA x1 (x := p.1) (by omega)
    have b2 := in_box hC y1 (x := p.2) (by omega)
    refine ⟨mem_enV.2 ⟨by omega, by omega, ?_⟩, h2⟩
    unfold okV
    rw [leI_eq, decide_eq_true_iff, h2]
    omega
theorem qL_val {d : Int} (hd1 : -2000 ≤ d) (hd2 : d ≤ -3) : ∀ (L : List F3) (acc N : Nat), (∀ f ∈ L, PrR d f) → qL L acc = some N → ∃ vs : List Nat, N = acc + dS vs ∧ vs.length ≤ 841 * L.length ∧ ∀ m, m ≤ 100 → (vs.count m : Int) = smF L m
  | [], acc, N, _, h => by
    have h : some acc = some N := h
    exact ⟨[], by rw [← some_inj h]; rfl, by simp, fun m _ => by simp [smF]⟩
  | f :: L, acc, N, hp, h => by
    unfold qL at h
    rw [fQ_eq, fQ_eq] at h
    generalize xb f.1.toNat 14 0 = X at h
    generalize xb f.2.2.toNat 14 0 = Y at h
    have hr := rf_prr hd1 hd2 (hp f List.mem_cons_self)
    cases hb : (bOk f.1.toNat X && bOk f.2.2.toNat Y) with
    | false => rw [hb, cond_false] at h; cases h
    | true =>
      rw [hb, cond_true, fQ_eq, qX_eq] at h
      rw [Bool.and_eq_true] at hb
      obtain ⟨vs, e1, e2, e3⟩ := qL_val hd1 hd2 L _ N (fun g hg => hp g (List.mem_cons_of_mem _ hg)) h
      have c1 : Nat.succ (Nat.mul 2 Y) = 2 * Y + 1 := rfl
      have c2 : Nat.succ (Nat.mul 2 X) = 2 * X + 1 := rfl
      rw [c1, c2] at e1
      have hl := enV_len (A := f.1) (B := f.2.1) (C := f.2.2) (bOk_of hb.1).2 (bOk_of hb.2).2
      refine ⟨(enV f.1 f.2.1 f.2.2 (2 * Y + 1) (-(Y : Int)) (2 * X + 1) (-(X : Int))).map (vN f.1 f.2.1 f.2.2) ++ vs, ?_, ?_, fun m hm => ?_⟩
      · rw [e1, dS_app]; omega
      · rw [List.length_append, List.length_map, List.length_cons]; omega
      · rw [List.count_append, cnt_form hr hb.1 hb.2 hm, smF, ← e3 m hm]
        unfold tcf tcF
        push_cast
        rfl
/-! ### There are few reduced forms -/
def ab2 : List (Int × Int) := (upz 25 1).flatMap fun a => (upz (2 * a).toNat (1 - a)).map fun b => (a, b)
theorem ab2_len : ab2.length = 650 := by decide +kernel
theorem few {d : Int} (hd1 : -2000 ≤ d) {L : List F3} (hn : L.Nodup) (hp : ∀ f ∈ L, PrR d f) : L.length ≤ 650 := by
  rw [← ab2_len, ← List.length_map (f := fun f : F3 => (f.1, f.2.1))]
  refine nd_len _ _ ?_ fun x hx => ?_
  · unfold List.Nodup
    rw [List.pairwise_map]
    refine List.Pairwise.imp_of_mem ?_ hn
    intro f g hf hg hne e
    obtain ⟨a, b, c⟩ := f
    obtain ⟨a', b', c'⟩ := g
    have e1 : a = a' := (Prod.mk.inj e).1
    have e2 : b = b' := (Prod.mk.inj e).2
    subst e1 e2
    have h1 : b * b - 4 * a * c = d := (hp _ hf).2.2.1
    have h2 : b * b - 4 * a * c' = d := (hp _ hg).2.2.1
    have h3 : 1 ≤ a := (hp _ hf).1
    have h4 : 4 * a * c = 4 * a * c' := by omega
    have h5 : c = c' := Int.eq_of_mul_eq_mul_left (by omega) h4
    exact hne (by rw [h5])
  · obtain ⟨f, hf, rfl⟩ := List.mem_map.1 hx
    obtain ⟨h1, h2, h3, _⟩ := hp f hf
    have h4 := red_sq h1 h2 h3
    have ha : f.1 ≤ 25 := by
      rcases Int.lt_or_le 25 f.1 with h | h
      · have := sq_mono (a := 26) (b := f.1) (by omega) (by omega)
        have e : 3 * f.1 * f.1 = 3 * (f.1 * f.1) := by grind
        omega
      · exact h
    obtain ⟨⟨b1, b2⟩, _⟩ := h2
    unfold ab2
    exact List.mem_flatMap.2 ⟨f.1, (mem_upz _ _ _).2 (by omega), List.mem_map.2 ⟨f.2.1, (mem_upz _ _ _).2 (by omega), rfl⟩⟩
/-! ### What the tables say -/
theorem dv_at (D N : Nat) : ∀ (n : Nat), dvAll D N n = true → ∀ m, 1 ≤ m → m ≤ n → dgt N m = wD D * sgQ (-(D : Int)) m m 0
  | 0, _, m, h1, h2 => by omega
  | n + 1, h, m, h1, h2 => by
    unfold dvAll at h
    cases hc : eqI (dgt N (Nat.succ n)) (wD D * sgQ (-(D : Int)) (Nat.succ n) (Nat.succ n) 0) with
    | false => rw [hc] at h; cases h
    | true =>
      rw [hc, cond_true] at h
      by_cases e : m = n + 1
      · subst e
        rw [eqI_eq, beq_iff_eq] at hc
        exact hc
      · exact dv_at D N n h m h1 (by omega)
theorem ac_at (D N p : Nat) (c : Int) : ∀ (n : Nat), acAll D N p c n = true → ∀ m, 1 ≤ m → m ≤ n → dgt N (m * p) + (if m % p = 0 then c * dgt N (m / p) else 0) = (1 + c) * dgt N m
  | 0, _, m, h1, h2 => by omega
  | n + 1, h, m, h1, h2 => by
    unfold acAll at h
    rw [nbeq] at h
    cases hc : eqI (dgt N (Nat.mul (Nat.succ n) p) + (bif decide (Nat.mod (Nat.succ n) p = 0) then c * dgt N (Nat.div (Nat.succ n) p) else 0)) ((1 + c) * dgt N (Nat.succ n)) with
    | false => rw [hc] at h; cases h
    | true =>
      rw [hc, cond_true] at h
      by_cases e : m = n + 1
      · subst e
        rw [eqI_eq, beq_iff_eq] at hc
        by_cases hm : (n + 1) % p = 0
        · have hm' : Nat.mod (Nat.succ n) p = 0 := hm
          rw [decide_eq_true hm', cond_true] at hc
          rw [if_pos hm]
          exact hc
        · have hm' : ¬ Nat.mod (Nat.succ n) p = 0 := hm
          rw [decide_eq_false hm', cond_false] at hc
          rw [if_neg hm]
          exact hc
      · exact ac_at D N p c n h m h1 (by omega)
structure FunL (D : Nat) (L : List F3) : Prop where
  dv : ∀ m, 1 ≤ m → m ≤ 100 → smF L m = wD D * sgK (-(D : Int)) m m
  ac : ∀ p ∈ pS, ∀ m, 1 ≤ m → m * p ≤ 100 → smF L (m * p) + (if m % p = 0 then KK (-(D : Int)) p * smF L (m / p) else 0) = (1 + KK (-(D : Int)) p) * smF L m
theorem chF_val {D : Nat} (h1 : 3 ≤ D) (h2 : D ≤ 2000) {L : List F3} (hp : ∀ f ∈ L, PrR (-(D : Int)) f) (hl : L.length ≤ 650) (h : chF D L = true) : FunL D L := by
  unfold chF at h
  cases hq : qL L 0 with
  | none => rw [hq] at h; cases h
  | some N =>
    rw [hq] at h
    dsimp only at h
    cases hc : dvAll D N 100 with
    | false => rw [hc] at h; cases h
    | true =>
      rw [hc, cond_true] at h
      obtain ⟨vs, e1, e2, e3⟩ := qL_val (d := -(D : Int)) (by omega) (by omega) L 0 N hp hq
      rw [Nat.zero_add] at e1
      have hd : ∀ m, m ≤ 100 → dgt N m = smF L m := by
        intro m hm
        rw [← e3 m hm, ← dig (l := vs) (by omega) m, e1]
        rfl
      refine ⟨fun m m1 m2 => ?_, fun p hpp m m1 m2 => ?_⟩
      · have := dv_at D N 100 hc m m1 m2
        rw [hd m m2, sgQ_val _ _ _ _ m2, Int.zero_add] at this
        exact this
      · have h3 := List.all_eq_true.1 h p hpp
        rw [sI_eq] at h3
        have hp13 : 2 ≤ p ∧ p ≤ 13 := by
          simp only [pS, List.mem_cons, List.not_mem_nil, or_false] at hpp
          omega
        rw [kq_val _ 8 p (by omega) (by omega) (by omega)] at h3
        have hmn : m ≤ Nat.div 100 p := (Nat.le_div_iff_mul_le (by omega)).2 m2
        have := ac_at D N p _ _ h3 m m1 hmn
        have hm100 : m ≤ 100 := by
          have : m * 1 ≤ m * p := Nat.mul_le_mul_left _ (by omega)
          omega
        have hmd : m / p ≤ 100 := Nat.le_trans (Nat.div_le_self _ _) hm100
        rw [hd _ m2, hd _ hm100, hd _ hmd] at this
        exact this
theorem okG_of {L : List F3} (h : L.all okG = true) : GvOk L := by
  rw [List.all_eq_true] at h
  have key : ∀ f ∈ L, r_impl_genusValues f = some (gv f) ∧ (gv f).length ≤ 1000 := by
    intro f hf
    have h1 := h f hf
    unfold okG at h1
    unfold gv
    cases hv : r_impl_genusValues f with
    | none => rw [hv] at h1; cases h1
    | some v =>
      rw [hv] at h1
      exact ⟨rfl, Nat.le_of_ble_eq_true h1⟩
  exact ⟨fun f hf => (key f hf).1, fun f hf => (key f hf).2⟩
theorem ts_main {D : Nat} (h1 : 3 ≤ D) (h2 : D ≤ 2000) (h4 : D % 4 = 0 ∨ D % 4 = 3) : ∃ L, r_spec_reList (-(D : Int)) = some L ∧ r_impl_reducedForms (-(D : Int)) = some L ∧ (∀ f, f ∈ L ↔ PrR (-(D : Int)) f) ∧ L.Nodup ∧ L.length ≤ 650 ∧ GvOk L ∧ ∃ b, r_impl_IsFundamental (-(D : Int)) = some (b, true) ∧ (b = true → FunL D L) := by
  obtain ⟨L, e1, e2, e3, e4⟩ := relist_val (d := -(D : Int)) (by omega) (by omega)
  have hi := iforms_eq (d := -(D : Int)) (by omega) (by omega)
  have hl := few (d := -(D : Int)) (by omega) e4 fun f hf => (e3 f).1 hf
  have ht := ts_tab D h1 h2
  have ho : tsO D = true := by
    unfold tsG at ht
    rw [fQ_eq, nbeq, nbeq] at ht
    rcases h4 with h | h
    · have h' : Nat.mod D 4 = 0 := h
      rw [decide_eq_true h', cond_true] at ht
      exact ht
    · have h' : Nat.mod D 4 = 3 := h
      rw [h'] at ht
      exact ht
  unfold tsO at ho
  rw [e1] at ho
  dsimp only at ho
  cases hg : L.all okG with
  | false => rw [hg] at ho; cases ho
  | true =>
    rw [hg, cond_true] at ho
    refine ⟨L, e1, by rw [hi]; exact e1, e3, e4, hl, okG_of hg, ?_⟩
    generalize r_impl_IsFundamental (-(D : Int)) = x at ho
    match x, ho with
    | some (true, true), ho => exact ⟨true, rfl, fun _ => chF_val h1 h2 (fun f hf => (e3 f).1 hf) hl ho⟩
    | some (false, true), _ => exact ⟨false, rfl, fun h => by cases h⟩
end Go.Proofs.Ytpfnhgpepgeaiaa
