/-
  Rules of walks, plain functions and their laws, part 3.
  Conditions: none.
-/
import Derived.KernelRfl
import Derived.Test.YtfmjfofocklgpaaGreatDoorCuz2
namespace Go.Proofs.YtfmjfofocklgpaaGreatDoor
open Go.Lib
set_option linter.unusedVariables false
set_option linter.unusedSimpArgs false
def jn (c : UInt8) : List (List UInt8) → List UInt8
  | [] => []
  | [w] => w
  | w :: v :: ws => w ++ c :: jn c (v :: ws)
theorem jn_cons (c : UInt8) (w : List UInt8) {ws : List (List UInt8)} (h : ws ≠ []) : jn c (w :: ws) = w ++ c :: jn c ws := by
  cases ws with
  | nil => exact absurd rfl h
  | cons v ws => rfl
theorem jn_spl (c : UInt8) : ∀ l, jn c (spl c l) = l
  | [] => rfl
  | b :: l => by
    have ih := jn_spl c l
    by_cases h : b = c
    · subst h
      rw [spl_eq, jn_cons _ _ (spl_ne b l), ih]
      rfl
    · cases e : spl c l with
      | nil => exact absurd e (spl_ne c l)
      | cons w ws =>
        rw [spl_cons h e]
        rw [e] at ih
        cases ws with
        | nil =>
          show b :: w = b :: l
          have ih : w = l := ih
          rw [ih]
        | cons v ws =>
          rw [jn_cons _ _ (by simp)] at ih ⊢
          rw [List.cons_append, ih]
theorem spl_jn (c : UInt8) : ∀ ws : List (List UInt8), ws ≠ [] → (∀ w ∈ ws, ∀ b ∈ w, b ≠ c) → spl c (jn c ws) = ws
  | [], h, _ => absurd rfl h
  | [w], _, h => spl_one w (h w (List.mem_singleton.2 rfl))
  | w :: v :: ws, _, h => by
    rw [jn_cons _ _ (by simp), spl_word w _ (h w (List.mem_cons_self ..)), spl_jn c (v :: ws) (by simp) fun x hx => h x (List.mem_cons_of_mem _ hx)]
theorem foInts_run (ws : List (List UInt8)) (hw : ws.length ≤ 100000001) : ∀ (m n k : Nat) (acc : List Int), ws.length - k = m → m < n → k ≤ ws.length → acc.length ≤ k →
    (∃ ns : List Int, (∀ x ∈ ns, NB x) ∧ ws.drop k = ns.map itoa ∧ r_spec_foInts_L8 (ws.map bl) n (k : Int) acc = some (.inl (acc ++ ns))) ∨
    ((∀ ns : List Int, (∀ x ∈ ns, NB x) → ws.drop k ≠ ns.map itoa) ∧ r_spec_foInts_L8 (ws.map bl) n (k : Int) acc = some (.inr [])) := by
  intro m
  induction m with
  | zero =>
    intro n k acc hk hn hkl ha
    obtain ⟨n, rfl⟩ : ∃ m, n = m + 1 := ⟨n - 1, by omega⟩
    left
    refine ⟨[], (fun x h => by cases h), by rw [List.drop_of_length_le (by omega)]; rfl, ?_⟩
    unfold r_spec_foInts_L8
    rw [ltI_eq, List.length_map, decide_eq_false (by omega), cond_false, List.append_nil]
  | succ m ih =>
    intro n k acc hk hn hkl ha
    obtain ⟨n, rfl⟩ : ∃ m, n = m + 1 := ⟨n - 1, by omega⟩
    have hlt : k < ws.length := by omega
    have hdr : ws.drop k = ws[k]'hlt :: ws.drop (k + 1) := List.drop_eq_getElem_cons hlt
    have hg : getI (ws.map bl) (k : Int) = some (bl (ws[k]'hlt)) := by
      rw [getNat (by rw [List.length_map]; exact hlt), List.getElem_map]
    generalize ws[k]'hlt = w at hdr hg
    unfold r_spec_foInts_L8
    rw [ltI_eq, List.length_map, decide_eq_true (by omega), cond_true]
    simp only [hg, Option.bind_some, hdr]
    rcases foInt_spec (bl w) with ⟨x, hx, hw1, hw2⟩ | ⟨hw1, hw2⟩
    · have hw1 := bl_inj hw1
      subst hw1
      simp only [hw2, Option.bind_some, Bool.not_true, cond_false, sI_eq]
      rw [roomOk (by simp; omega), Option.bind_some, wsucc (by omega)]
      rcases ih n (k + 1) (acc ++ [x]) (by omega) (by omega) (by omega) (by simp; omega) with ⟨ns, h1, h2, h3⟩ | ⟨h1, h3⟩
      · left
        refine ⟨x :: ns, fun y hy => ?_, by rw [h2]; rfl, ?_⟩
        · rcases List.mem_cons.1 hy with rfl | hy
          · exact hx
          · exact h1 y hy
        · rw [h3, List.append_assoc]
          rfl
      · right
        refine ⟨fun ns hns e => ?_, h3⟩
        cases ns with
        | nil => cases e
        | cons y ns =>
          injection e with _ e
          exact h1 ns (fun z hz => hns z (List.mem_cons_of_mem _ hz)) e
    · right
      simp only [hw2, Option.bind_some, Bool.not_false, cond_true]
      refine ⟨fun ns hns e => ?_, trivial⟩
      cases ns with
      | nil => cases e
      | cons y ns =>
        injection e with e _
        exact hw1 y (hns y (List.mem_cons_self ..)) (by rw [e])
theorem foInts_spec {c : UInt8} (hc : isN c = false) (s : ByteArray) (hs : s.size ≤ 100000000) {cnt : Nat} (h1 : 1 ≤ cnt) :
    (∃ ns : List Int, (∀ x ∈ ns, NB x) ∧ ns.length = cnt ∧ s = bl (jn c (ns.map itoa)) ∧ r_spec_foInts s ((c.toNat : Nat) : Int) (cnt : Int) = some ns) ∨
    ((∀ ns : List Int, (∀ x ∈ ns, NB x) → ns.length = cnt → s ≠ bl (jn c (ns.map itoa))) ∧ r_spec_foInts s ((c.toNat : Nat) : Int) (cnt : Int) = some []) := by
  have hF : 200000000 < FU := by decide
  have back : ∀ ns : List Int, ns.length = cnt → s = bl (jn c (ns.map itoa)) → spl c s.data.toList = ns.map itoa := by
    intro ns hl e
    rw [e, bl_data]
    refine spl_jn c _ (fun h => ?_) fun w hw => ?_
    · have := congrArg List.length h
      simp at this
      rw [this] at hl
      simp at hl
      omega
    · obtain ⟨n, _, rfl⟩ := List.mem_map.1 hw
      exact itoa_no n c hc
  have hlen := spl_len c s.data.toList
  have hsz : s.data.toList.length = s.size := rfl
  unfold r_spec_foInts
  rw [l1Split_val s c hs, Option.bind_some, List.length_map]
  by_cases hcnt : (spl c s.data.toList).length = cnt
  · rw [hcnt, eqSelf, Bool.not_true, cond_false]
    have hr := foInts_run (spl c s.data.toList) (by omega) _ FU 0 [] rfl (by omega) (by omega) (by simp)
    simp only [List.drop_zero, List.nil_append] at hr
    rcases hr with ⟨ns, a1, a2, a3⟩ | ⟨a1, a3⟩
    · have a3 : r_spec_foInts_L8 ((spl c s.data.toList).map bl) FU 0 [] = _ := a3
      refine .inl ⟨ns, a1, by rw [← hcnt, a2, List.length_map], ?_, ?_⟩
      · rw [← a2, jn_spl]
        rfl
      · rw [a3]
        rfl
    · have a3 : r_spec_foInts_L8 ((spl c s.data.toList).map bl) FU 0 [] = _ := a3
      refine .inr ⟨fun ns b1 b2 b3 => a1 ns b1 (back ns b2 b3), ?_⟩
      rw [a3]
      rfl
  · refine .inr ⟨fun ns b1 b2 b3 => hcnt ?_, ?_⟩
    · rw [back ns b2 b3, List.length_map, b2]
    · rw [eqNe (by omega), Bool.not_false, cond_true]
theorem foInside_spec (s : ByteArray) (hs : s.size ≤ 100000000) (a z : UInt8) : (∃ m, s = bl (a :: (m ++ [z])) ∧ r_spec_foInside s ((a.toNat : Nat) : Int) ((z.toNat : Nat) : Int) = some (bl m, true)) ∨
    ((∀ m, s ≠ bl (a :: (m ++ [z]))) ∧ r_spec_foInside s ((a.toNat : Nat) : Int) ((z.toNat : Nat) : Int) = some (bl [], false)) := by
  have hsz : s.data.toList.length = s.size := rfl
  unfold r_spec_foInside
  rw [ltI_eq]
  by_cases h2 : s.size < 2
  · refine .inr ⟨fun m e => ?_, ?_⟩
    · rw [e, bl_size] at h2
      simp at h2
      omega
    · rw [decide_eq_true (by omega)]
      rfl
  · have hg0 := getB_nat (show 0 < s.size by omega)
    have hg0 : getB s 0 = _ := hg0
    have hg1 := getB_nat (show s.size - 1 < s.size by omega)
    have e1 : w64 (((s.size : Nat) : Int) - 1) = ((s.size - 1 : Nat) : Int) := by rw [zL (by omega)]; omega
    have hl0 : s.data.toList = s.data.toList[0] :: s.data.toList.drop 1 := by
      have := List.drop_eq_getElem_cons (l := s.data.toList) (i := 0) (by omega)
      simpa using this
    have hl1 : s.data.toList.drop 1 = (s.data.toList.drop 1).take (s.size - 1 - 1) ++ [s.data.toList[s.size - 1]'(by omega)] := by
      have h3 : (s.data.toList.drop 1).drop (s.size - 1 - 1) = [s.data.toList[s.size - 1]'(by omega)] := by
        rw [List.drop_drop, show 1 + (s.size - 1 - 1) = s.size - 1 by omega, List.drop_eq_getElem_cons (by omega), List.drop_of_length_le (by omega)]
      rw [← h3, List.take_append_drop]
    generalize s.data.toList[0]'(by omega) = b0 at hg0 hl0
    generalize s.data.toList[s.size - 1]'(by omega) = b1 at hg1 hl1
    rw [decide_eq_false (by omega), cond_false, hg0, e1, hg1]
    simp only [Option.bind_some, eqI_eq, byte_eq]
    by_cases hb0 : b0 = a
    · subst hb0
      simp only [decide_true, Bool.not_true, cond_false, Option.bind_some]
      by_cases hb1 : b1 = z
      · subst hb1
        simp only [decide_true, Bool.not_true, cond_false]
        refine .inl ⟨(s.data.toList.drop 1).take (s.size - 1 - 1), ?_, ?_⟩
        · rw [← hl1, ← hl0]
          rfl
        · have hsl : slc s.size 1 ((s.size - 1 : Nat) : Int) = some () := slcOk (l := 1) (by omega) (by omega)
          rw [hsl]
          simp only [Option.bind_some, show Int.toNat 1 = 1 from rfl, Int.toNat_natCast, ext_bl]
      · refine .inr ⟨fun m e => hb1 ?_, ?_⟩
        · have h4 : s.data.toList = b0 :: (m ++ [z]) := by rw [e, bl_data]
          have h5 : b0 :: ((s.data.toList.drop 1).take (s.size - 1 - 1) ++ [b1]) = b0 :: (m ++ [z]) := by rw [← hl1, ← hl0]; exact h4
          injection h5 with _ h5
          have := congrArg List.getLast? h5
          simpa using this
        · simp only [decide_eq_false hb1, Bool.not_false, cond_true]
          rfl
    · refine .inr ⟨fun m e => hb0 ?_, ?_⟩
      · have h4 : s.data.toList = a :: (m ++ [z]) := by rw [e, bl_data]
        rw [hl0] at h4
        injection h4
      · simp only [decide_eq_false hb0, Bool.not_false, cond_true, Option.bind_some]
        rfl
def FB (f : Int × Int × Int) : Prop := NB f.1 ∧ NB f.2.1 ∧ NB f.2.2
theorem fB_jn (f : Int × Int × Int) : fB f = 40 :: (jn 44 ([f.1, f.2.1, f.2.2].map itoa) ++ [41]) := by
  simp [fB, jn]
theorem fB_inj {f g : Int × Int × Int} (h : fB f = fB g) : f = g := by
  have h1 := fB_goFields f
  rw [h, fB_goFields g] at h1
  obtain ⟨a, b, c⟩ := f
  obtain ⟨a', b', c'⟩ := g
  simp only [List.cons.injEq, and_true] at h1
  have inj : ∀ {x y : Int}, bl (itoa x) = bl (itoa y) → x = y := fun {x y} e => by
    have e := bl_inj e
    have h2 := atoi_itoa x
    rw [e, atoi_itoa y] at h2
    exact (Option.some.inj h2).symm
  rw [inj h1.1, inj h1.2.1, inj h1.2.2]
theorem foRead_spec (s : ByteArray) (hs : s.size ≤ 100000000) : (∃ f, FB f ∧ s = bl (fB f) ∧ r_spec_foRead s = some (f, true)) ∨ ((∀ f, FB f → s ≠ bl (fB f)) ∧ r_spec_foRead s = some ((0, 0, 0), false)) := by
  unfold r_spec_foRead
  rcases foInside_spec s hs 40 41 with ⟨m, h1, h2⟩ | ⟨h1, h2⟩
  · have h2 : r_spec_foInside s 40 41 = _ := h2
    rw [h2, Option.bind_some]
    have hm : (bl m).size ≤ 100000000 := by
      rw [h1, bl_size] at hs
      rw [bl_size]
      simp at hs
      omega
    rcases foInts_spec (c := 44) (by decide) (bl m) hm (cnt := 3) (by omega) with ⟨ns, a1, a2, a3, a4⟩ | ⟨a1, a4⟩
    · have a4 : r_spec_foInts (bl m) 44 3 = _ := a4
      match ns, a2 with
      | [a, b, c], _ =>
        refine .inl ⟨(a, b, c), ⟨a1 a (by simp), a1 b (by simp), a1 c (by simp)⟩, ?_, ?_⟩
        · rw [h1, fB_jn, bl_inj a3]
        · rw [a4]
          rfl
    · have a4 : r_spec_foInts (bl m) 44 3 = _ := a4
      refine .inr ⟨fun f hf e => ?_, ?_⟩
      · rw [h1, fB_jn] at e
        have e := bl_inj e
        injection e with _ e
        have e := List.append_cancel_right e
        refine a1 [f.1, f.2.1, f.2.2] (fun x hx => ?_) rfl (by rw [e])
        simp only [List.mem_cons, List.not_mem_nil, or_false] at hx
        rcases hx with rfl | rfl | rfl
        · exact hf.1
        · exact hf.2.1
        · exact hf.2.2
      · rw [a4]
        rfl
  · have h2 : r_spec_foInside s 40 41 = _ := h2
    rw [h2, Option.bind_some]
    have h3 : ∃ l, r_spec_foInts (bl []) 44 3 = some l := by
      rcases foInts_spec (c := 44) (by decide) (bl []) (by decide) (cnt := 3) (by omega) with ⟨ns, _, _, _, a4⟩ | ⟨_, a4⟩
      · exact ⟨_, a4⟩
      · exact ⟨_, a4⟩
    obtain ⟨l, h3⟩ := h3
    refine .inr ⟨fun f hf e => h1 _ (by rw [e, fB_jn]), ?_⟩
    rw [h3]
    rfl
theorem pOf_pN : pOf r_impl_integersIn_1 = pN := by
  funext x
  unfold pOf pN r_impl_integersIn_1
  simp only [Option.bind_some, Option.getD_some, eqI_eq, ltI_eq]
  have e : ((x : Int) == 45) = (x == 45) := by rw [Bool.eq_iff_iff, beq_iff_eq, beq_iff_eq]; omega
  have e1 : decide ((x : Int) < 48) = decide (x < 48) := by rw [decide_eq_decide]; omega
  have e2 : decide ((57 : Int) < (x : Int)) = decide (57 < x) := by rw [decide_eq_decide]; omega
  rw [e, e1, e2]
  cases h1 : (x == 45) <;> cases h2 : decide (x < 48) <;> cases h3 : decide (57 < x) <;> simp_all [bne]
theorem spans_len (p : Nat → Bool) (s : ByteArray) : ∀ (f pos : Nat) (st : Option Nat) (acc : List (Nat × Nat)), (Go.Lib.spansFromP p s f pos st acc).1.length ≤ acc.length + f
  | 0, pos, st, acc => by simp [Go.Lib.spansFromP]
  | f + 1, pos, st, acc => by
    unfold Go.Lib.spansFromP
    split
    · split
      · split
        · have := spans_len p s f (pos + (Utf8.decode s pos).2) none (acc ++ [(‹Nat›, pos)])
          simp at this ⊢
          omega
        · have := spans_len p s f (pos + (Utf8.decode s pos).2) none acc
          omega
      · split
        · have := spans_len p s f (pos + (Utf8.decode s pos).2) (some ‹Nat›) acc
          omega
        · have := spans_len p s f (pos + (Utf8.decode s pos).2) (some pos) acc
          omega
    · simp
theorem fields_len (p : Nat → Bool) (s : ByteArray) : (goFieldsP p s).length ≤ s.size + 1 := by
  have h := spans_len p s s.size 0 none []
  unfold goFieldsP Go.Lib.spansOfP
  rw [List.length_map]
  generalize Go.Lib.spansFromP p s s.size 0 none [] = x at h
  obtain ⟨acc, st⟩ := x
  cases st with
  | none => simp [Go.Lib.closeSpans] at h ⊢; omega
  | some a => simp [Go.Lib.closeSpans] at h ⊢; omega
theorem fields_size (p : Nat → Bool) (s : ByteArray) : ∀ w ∈ goFieldsP p s, w.size ≤ s.size := by
  intro w hw
  unfold goFieldsP at hw
  obtain ⟨x, _, rfl⟩ := List.mem_map.1 hw
  rw [ext_bl, bl_size]
  have : s.data.toList.length = s.size := rfl
  simp
  omega
theorem ints_tot (ws : List ByteArray) (hw : ws.length ≤ 100000001) (hz : ∀ w ∈ ws, w.size ≤ 100000000) : ∀ (m n k : Nat) (acc : List Int), ws.length - k = m → m < n → k ≤ ws.length → acc.length ≤ k → ∃ r, r_impl_integersIn_L5 ws n (k : Int) acc = some r := by
  intro m
  induction m with
  | zero =>
    intro n k acc hk hn hkl ha
    obtain ⟨n, rfl⟩ : ∃ m, n = m + 1 := ⟨n - 1, by omega⟩
    unfold r_impl_integersIn_L5
    rw [ltI_eq, decide_eq_false (by omega), cond_false]
    exact ⟨_, rfl⟩
  | succ m ih =>
    intro n k acc hk hn hkl ha
    obtain ⟨n, rfl⟩ : ∃ m, n = m + 1 := ⟨n - 1, by omega⟩
    have hlt : k < ws.length := by omega
    have hg : getI ws (k : Int) = some (ws[k]'hlt) := getNat hlt
    have hs := hz _ (List.getElem_mem hlt)
    generalize ws[k]'hlt = w at hg hs
    unfold r_impl_integersIn_L5
    rw [ltI_eq, decide_eq_true (by omega), cond_true]
    obtain ⟨r, hr⟩ := atoi_some w (by omega)
    simp only [hg, Option.bind_some, hr]
    cases r.2 with
    | false => exact ⟨_, rfl⟩
    | true =>
      simp only [Bool.not_true, cond_false, sI_eq]
      rw [roomOk (by simp; omega), Option.bind_some, wsucc (by omega)]
      exact ih n (k + 1) _ (by omega) (by omega) (by omega) (by simp; omega)
theorem intsIn_tot (s : ByteArray) (hs : s.size ≤ 100000000) : ∃ l, r_impl_integersIn s = some l := by
  have hF : 200000000 < FU := by decide
  have hl := fields_len pN s
  obtain ⟨r, hr⟩ := ints_tot (goFieldsP pN s) (by omega) (fun w hw => by have := fields_size pN s w hw; omega) _ FU 0 [] rfl (by omega) (by omega) (by simp)
  have hr : r_impl_integersIn_L5 (goFieldsP pN s) FU 0 [] = _ := hr
  unfold r_impl_integersIn r_strings_FieldsFunc
  rw [pOf_pN, if_pos (by omega), Option.bind_some, hr]
  cases r with
  | inl x => exact ⟨_, rfl⟩
  | inr x => exact ⟨_, rfl⟩
theorem ints_run (ns : List Int) (hw : ns.length ≤ 1000) (hz : ∀ x ∈ ns, NB x) : ∀ (m n k : Nat) (acc : List Int), ns.length - k = m → m < n → k ≤ ns.length → acc.length ≤ k → r_impl_integersIn_L5 (ns.map fun x => bl (itoa x)) n (k : Int) acc = some (.inl (acc ++ ns.drop k)) := by
  intro m
  induction m with
  | zero =>
    intro n k acc hk hn hkl ha
    obtain ⟨n, rfl⟩ : ∃ m, n = m + 1 := ⟨n - 1, by omega⟩
    unfold r_impl_integersIn_L5
    rw [ltI_eq, List.length_map, decide_eq_false (by omega), cond_false, List.drop_of_length_le (by omega), List.append_nil]
  | succ m ih =>
    intro n k acc hk hn hkl ha
    obtain ⟨n, rfl⟩ : ∃ m, n = m + 1 := ⟨n - 1, by omega⟩
    have hlt : k < ns.length := by omega
    have hg : getI (ns.map fun x => bl (itoa x)) (k : Int) = some (bl (itoa (ns[k]'hlt))) := by
      rw [getNat (by rw [List.length_map]; exact hlt), List.getElem_map]
    have hdr : ns.drop k = ns[k]'hlt :: ns.drop (k + 1) := List.drop_eq_getElem_cons hlt
    have hs := hz _ (List.getElem_mem hlt)
    generalize ns[k]'hlt = w at hg hs hdr
    unfold r_impl_integersIn_L5
    rw [ltI_eq, List.length_map, decide_eq_true (by omega), cond_true]
    simp only [hg, Option.bind_some, atoi_val hs.1 hs.2, Bool.not_true, cond_false, sI_eq]
    rw [roomOk (by simp; omega), Option.bind_some, wsucc (by omega), ih n (k + 1) _ (by omega) (by omega) (by omega) (by simp; omega), hdr, List.append_assoc]
    rfl
theorem intsIn_of {s : ByteArray} (hs : s.size ≤ 100000000) {ns : List Int} (hw : ns.length ≤ 1000) (hz : ∀ x ∈ ns, NB x) (h : goFieldsP pN s = ns.map fun x => bl (itoa x)) : r_impl_integersIn s = some ns := by
  have hF : 200000000 < FU := by decide
  have hr := ints_run ns hw hz _ FU 0 [] rfl (by omega) (by omega) (by simp)
  have hr : r_impl_integersIn_L5 (ns.map fun x => bl (itoa x)) FU 0 [] = _ := hr
  unfold r_impl_integersIn r_strings_FieldsFunc
  rw [pOf_pN, if_pos (by omega), Option.bind_some, h, hr]
  rfl
theorem nb_sm {n : Int} (h : NB n) : sm18 n := by
  have h1 := h.1
  have h2 := h.2
  exact ⟨by omega, by omega⟩
theorem nb_inN {n : Int} : NB n ↔ inN n = true := by
  unfold NB inN
  rw [Bool.and_eq_true, leI_eq, leI_eq, decide_eq_true_iff, decide_eq_true_iff]
theorem parseForm_spec (s : ByteArray) (hs : s.size ≤ 100000000) : (∃ f, FB f ∧ s = bl (fB f) ∧ r_impl_ParseForm s = some (f, true)) ∨ ((∀ f, FB f → s ≠ bl (fB f)) ∧ r_impl_ParseForm s = some ((0, 0, 0), false)) := by
  by_cases hf : ∃ f, FB f ∧ s = bl (fB f)
  · obtain ⟨f, hf, rfl⟩ := hf
    refine .inl ⟨f, hf, rfl, ?_⟩
    obtain ⟨a, b, c⟩ := f
    have hi := intsIn_of (ns := [a, b, c]) hs (by simp) (fun x hx => by
      simp only [List.mem_cons, List.not_mem_nil, or_false] at hx
      rcases hx with rfl | rfl | rfl
      · exact hf.1
      · exact hf.2.1
      · exact hf.2.2) (fB_goFields (a, b, c))
    unfold r_impl_ParseForm
    rw [hi]
    have g0 : getI [a, b, c] 0 = some a := rfl
    have g1 : getI [a, b, c] 1 = some b := rfl
    have g2 : getI [a, b, c] 2 = some c := rfl
    simp only [Option.bind_some, g0, g1, g2, form_val, nb_inN.1 hf.1, nb_inN.1 hf.2.1, nb_inN.1 hf.2.2, Bool.and_self, Bool.not_true, cond_false, formText_eq (nb_sm hf.1) (nb_sm hf.2.1) (nb_sm hf.2.2), eqS, decide_true]
    rfl
  · refine .inr ⟨fun f h e => hf ⟨f, h, e⟩, ?_⟩
    obtain ⟨l, hl⟩ := intsIn_tot s hs
    unfold r_impl_ParseForm
    rw [hl, Option.bind_some]
    by_cases h3 : l.length = 3
    · match l, h3 with
      | [a, b, c], _ =>
        have g0 : getI [a, b, c] 0 = some a := rfl
        have g1 : getI [a, b, c] 1 = some b := rfl
        have g2 : getI [a, b, c] 2 = some c := rfl
        simp only [show eqI (([a, b, c].length : Nat) : Int) 3 = true from rfl, Bool.not_true, cond_false, Option.bind_some, g0, g1, g2, form_val]
        cases hb : (inN a && (inN b && inN c)) with
        | false => rfl
        | true =>
          simp only [Bool.and_eq_true] at hb
          have f1 := nb_inN.2 hb.1
          have f2 := nb_inN.2 hb.2.1
          have f3 := nb_inN.2 hb.2.2
          simp only [Bool.not_true, cond_false, formText_eq (f := (a, b, c)) (nb_sm f1) (nb_sm f2) (nb_sm f3), Option.bind_some, eqS]
          rw [decide_eq_false (fun e => hf ⟨(a, b, c), ⟨f1, f2, f3⟩, e.symm⟩)]
          rfl
    · rw [eqNe (by omega)]
      rfl
theorem parseForm_both (s : ByteArray) (hs : s.size ≤ 100000000) : ∃ r, r_impl_ParseForm s = some r ∧ r_spec_foRead s = some r ∧ ((∃ f, FB f ∧ s = bl (fB f) ∧ r = (f, true)) ∨ ((∀ f, FB f → s ≠ bl (fB f)) ∧ r = ((0, 0, 0), false))) := by
  rcases parseForm_spec s hs with ⟨f, h1, h2, h3⟩ | ⟨h1, h3⟩ <;> rcases foRead_spec s hs with ⟨g, g1, g2, g3⟩ | ⟨g1, g3⟩
  · have e : f = g := fB_inj (bl_inj (h2.symm.trans g2))
    subst e
    exact ⟨_, h3, g3, .inl ⟨f, h1, h2, rfl⟩⟩
  · exact absurd h2 (g1 f h1)
  · exact absurd g2 (h1 g g1)
  · exact ⟨_, h3, g3, .inr ⟨h1, rfl⟩⟩
end Go.Proofs.YtfmjfofocklgpaaGreatDoor
namespace Go.Proofs.YtfmjfofocklgpaaGreatDoor
open Go.Lib
set_option linter.unusedVariables false
set_option linter.unusedSimpArgs false
theorem number_both (w : ByteArray) (hw : w.size ≤ 100000000) : ∃ a b ok, r_impl_numberOf w = some (a, ok) ∧ r_spec_foInt w = some (b, ok) ∧ (ok = true → a = b) := by
  unfold r_impl_numberOf
  rcases foInt_spec w with ⟨n, hn, rfl, h⟩ | ⟨hn, h⟩
  · refine ⟨n, n, true, ?_, h, fun _ => rfl⟩
    have hnum : r_impl_areNumbers [n] = some true := by
      rw [num_val _ (by simp)]
      simp [nb_inN.1 hn]
    rw [atoi_val hn.1 hn.2]
    simp only [Option.bind_some, cond_true, hnum, itoa_eq (nb_sm hn), eqS, decide_true]
  · obtain ⟨r, hr⟩ := atoi_some w (by omega)
    refine ⟨r.1, 0, false, ?_, h, fun e => by cases e⟩
    rw [hr]
    simp only [Option.bind_some]
    cases hr2 : r.2 with
    | false => rfl
    | true =>
      rw [num_val _ (by simp)]
      cases hin : inN r.1 with
      | false =>
        simp only [List.all_cons, List.all_nil, hin, Bool.and_true, cond_true, Option.bind_some, cond_false]
      | true =>
        have hb := nb_inN.2 hin
        have hne : bl (itoa r.1) ≠ w := fun e => hn r.1 hb e.symm
        simp only [List.all_cons, List.all_nil, hin, Bool.and_true, cond_true, Option.bind_some, itoa_eq (nb_sm hb), eqS, decide_eq_false hne]
def MB (m : Int × Int × Int × Int) : Prop := NB m.1 ∧ NB m.2.1 ∧ NB m.2.2.1 ∧ NB m.2.2.2
theorem mB_eq (m : Int × Int × Int × Int) : mB m = 91 :: (itoa m.1 ++ 44 :: (itoa m.2.1 ++ 59 :: (itoa m.2.2.1 ++ 44 :: (itoa m.2.2.2 ++ [93])))) := by
  simp [mB]
theorem mB_jn (m : Int × Int × Int × Int) : mB m = 91 :: (jn 59 [jn 44 ([m.1, m.2.1].map itoa), jn 44 ([m.2.2.1, m.2.2.2].map itoa)] ++ [93]) := by
  simp [mB, jn]
theorem mB_goFields (m : Int × Int × Int × Int) : goFieldsP pN (bl (mB m)) = [m.1, m.2.1, m.2.2.1, m.2.2.2].map fun x => bl (itoa x) := by
  have hp : ∀ b, isN b = true → (fun b : UInt8 => pN b.toNat) b = false := fun b h => by simp only [pN_isN, h, Bool.not_true]
  have ha : ∀ b ∈ mB m, b.toNat < 128 := by
    intro b hb
    rw [mB_eq] at hb
    simp only [List.mem_cons, List.mem_append, List.not_mem_nil, or_false] at hb
    rcases hb with rfl | hb | rfl | hb | rfl | hb | rfl | hb | rfl
    · decide
    · exact isN_ascii (itoa_isN _ b hb)
    · decide
    · exact isN_ascii (itoa_isN _ b hb)
    · decide
    · exact isN_ascii (itoa_isN _ b hb)
    · decide
    · exact isN_ascii (itoa_isN _ b hb)
    · decide
  rw [fields_val pN (bl (mB m)) (by rw [bl_data]; exact ha), bl_data, mB_eq, fld_sep0 (by decide), fld_num hp (by decide), fld_num hp (by decide), fld_num hp (by decide), fld_num hp (by decide)]
  rfl
theorem mB_inj {f g : Int × Int × Int × Int} (h : mB f = mB g) : f = g := by
  have h1 := mB_goFields f
  rw [h, mB_goFields g] at h1
  obtain ⟨a, b, c, d⟩ := f
  obtain ⟨a', b', c', d'⟩ := g
  simp only [List.map_cons, List.map_nil, List.cons.injEq, and_true] at h1
  have inj : ∀ {x y : Int}, bl (itoa x) = bl (itoa y) → x = y := fun {x y} e => by
    have e := bl_inj e
    have h2 := atoi_itoa x
    rw [e, atoi_itoa y] at h2
    exact (Option.some.inj h2).symm
  rw [inj h1.1, inj h1.2.1, inj h1.2.2.1, inj h1.2.2.2]
theorem isMat_val (m : Int × Int × Int × Int) : r_impl_IsMatrix m = some (inN m.1 && (inN m.2.1 && (inN m.2.2.1 && inN m.2.2.2))) := by
  unfold r_impl_IsMatrix
  rw [num_val _ (by simp)]
  simp
theorem mB_sep {m : Int × Int × Int × Int} : ∀ w ∈ [jn 44 ([m.1, m.2.1].map itoa), jn 44 ([m.2.2.1, m.2.2.2].map itoa)], ∀ b ∈ w, b ≠ 59 := by
  have key : ∀ x y : Int, ∀ b ∈ jn 44 ([x, y].map itoa), b ≠ 59 := by
    intro x y b hb
    simp only [List.map_cons, List.map_nil, jn, List.mem_append, List.mem_cons] at hb
    rcases hb with hb | rfl | hb
    · exact itoa_no x 59 (by decide) b hb
    · decide
    · exact itoa_no y 59 (by decide) b hb
  intro w hw
  simp only [List.mem_cons, List.not_mem_nil, or_false] at hw
  rcases hw with rfl | rfl
  · exact key _ _
  · exact key _ _
theorem foReadM_spec (s : ByteArray) (hs : s.size ≤ 100000000) : (∃ m, MB m ∧ s = bl (mB m) ∧ r_spec_foReadMatrix s = some (m, true)) ∨ ((∀ m, MB m → s ≠ bl (mB m)) ∧ r_spec_foReadMatrix s = some ((0, 0, 0, 0), false)) := by
  unfold r_spec_foReadMatrix
  rcases foInside_spec s hs 91 93 with ⟨q, h1, h2⟩ | ⟨h1, h2⟩
  · have h2 : r_spec_foInside s 91 93 = _ := h2
    rw [h2, Option.bind_some]
    have hq : (bl q).size ≤ 100000000 := by
      rw [h1, bl_size] at hs
      rw [bl_size]
      simp at hs
      omega
    have hsp : r_spec_l1Split (bl q) 59 = some ((spl 59 q).map bl) := by
      have := l1Split_val (bl q) 59 hq
      rw [bl_data] at this
      exact this
    have hback : ∀ m, s = bl (mB m) → spl 59 q = [jn 44 ([m.1, m.2.1].map itoa), jn 44 ([m.2.2.1, m.2.2.2].map itoa)] := by
      intro m e
      rw [h1, mB_jn] at e
      have e := bl_inj e
      injection e with _ e
      have e := List.append_cancel_right e
      rw [e]
      exact spl_jn 59 _ (by simp) mB_sep
    have hjq := jn_spl 59 q
    have hwl : ∀ w ∈ spl 59 q, (bl w).size ≤ 100000000 := by
      intro w hw
      have : ∀ (l : List UInt8), ∀ w ∈ spl 59 l, w.length ≤ l.length := by
        intro l
        induction l with
        | nil => intro w hw; simp [spl] at hw; simp [hw]
        | cons b l ih =>
          intro w hw
          by_cases h : b = 59
          · subst h
            rw [spl_eq] at hw
            rcases List.mem_cons.1 hw with rfl | hw
            · exact Nat.zero_le _
            · have := ih w hw
              simp; omega
          · cases e : spl 59 l with
            | nil => exact absurd e (spl_ne 59 l)
            | cons v ws =>
              rw [spl_cons h e] at hw
              rw [e] at ih
              rcases List.mem_cons.1 hw with rfl | hw
              · have := ih v (List.mem_cons_self ..)
                simp; omega
              · have := ih w (List.mem_cons_of_mem _ hw)
                simp; omega
      have := this q w hw
      rw [bl_size] at hq ⊢
      omega
    simp only [hsp, Option.bind_some, Bool.not_true, cond_false]
    by_cases hlen : (spl 59 q).length = 2
    · generalize spl 59 q = W at hlen hback hjq hwl
      match W, hlen with
      | [x, y], _ =>
        have g0 : getI ([x, y].map bl) 0 = some (bl x) := rfl
        have g1 : getI ([x, y].map bl) 1 = some (bl y) := rfl
        rw [show eqI ((([x, y].map bl).length : Nat) : Int) 2 = true from rfl, Bool.not_true, cond_false, g0, g1]
        simp only [Option.bind_some]
        have hx := foInts_spec (c := 44) (by decide) (bl x) (hwl x (by simp)) (cnt := 2) (by omega)
        have hy := foInts_spec (c := 44) (by decide) (bl y) (hwl y (by simp)) (cnt := 2) (by omega)
        rcases hx with ⟨ns, a1, a2, a3, a4⟩ | ⟨a1, a4⟩
        · have a4 : r_spec_foInts (bl x) 44 2 = _ := a4
          rcases hy with ⟨ms, b1, b2, b3, b4⟩ | ⟨b1, b4⟩
          · have b4 : r_spec_foInts (bl y) 44 2 = _ := b4
            match ns, a2, ms, b2 with
            | [a, b], _, [c, d], _ =>
              refine .inl ⟨(a, b, c, d), ⟨a1 a (by simp), a1 b (by simp), b1 c (by simp), b1 d (by simp)⟩, ?_, ?_⟩
              · rw [h1, mB_jn, ← hjq, bl_inj a3, bl_inj b3]
              · rw [a4, b4]
                rfl
          · have b4 : r_spec_foInts (bl y) 44 2 = _ := b4
            refine .inr ⟨fun m hm e => ?_, ?_⟩
            · have := hback m e
              injection this with _ this
              injection this with this _
              refine b1 [m.2.2.1, m.2.2.2] (fun z hz => ?_) rfl (by rw [this])
              simp only [List.mem_cons, List.not_mem_nil, or_false] at hz
              rcases hz with rfl | rfl
              · exact hm.2.2.1
              · exact hm.2.2.2
            · rw [a4, b4]
              simp only [Option.bind_some]
              rw [show eqI (((([] : List Int).length : Nat)) : Int) 2 = false from rfl]
              cases eqI ((ns.length : Nat) : Int) 2 <;> rfl
        · have a4 : r_spec_foInts (bl x) 44 2 = _ := a4
          have b4 : ∃ l, r_spec_foInts (bl y) 44 2 = some l := by
            rcases hy with ⟨ms, b1, b2, b3, b4⟩ | ⟨b1, b4⟩
            · exact ⟨_, b4⟩
            · exact ⟨_, b4⟩
          obtain ⟨l, b4⟩ := b4
          refine .inr ⟨fun m hm e => ?_, ?_⟩
          · have := hback m e
            injection this with this _
            refine a1 [m.1, m.2.1] (fun z hz => ?_) rfl (by rw [this])
            simp only [List.mem_cons, List.not_mem_nil, or_false] at hz
            rcases hz with rfl | rfl
            · exact hm.1
            · exact hm.2.1
          · rw [a4, b4]
            rfl
    · refine .inr ⟨fun m hm e => hlen ?_, ?_⟩
      · rw [hback m e]
        rfl
      · rw [eqNe (by rw [List.length_map]; omega)]
        rfl
  · have h2 : r_spec_foInside s 91 93 = _ := h2
    rw [h2, Option.bind_some]
    have hsp : r_spec_l1Split (bl []) 59 = some ((spl 59 (bl []).data.toList).map bl) := l1Split_val (bl []) 59 (by decide)
    refine .inr ⟨fun m hm e => h1 _ (by rw [e, mB_jn]), ?_⟩
    rw [hsp]
    rfl
theorem parseM_spec (s : ByteArray) (hs : s.size ≤ 100000000) : (∃ m, MB m ∧ s = bl (mB m) ∧ r_impl_ParseMatrix s = some (m, true)) ∨ ((∀ m, MB m → s ≠ bl (mB m)) ∧ r_impl_ParseMatrix s = some ((0, 0, 0, 0), false)) := by
  by_cases hf : ∃ f, MB f ∧ s = bl (mB f)
  · obtain ⟨f, hf, rfl⟩ := hf
    refine .inl ⟨f, hf, rfl, ?_⟩
    obtain ⟨a, b, c, d⟩ := f
    have hi := intsIn_of (ns := [a, b, c, d]) hs (by simp) (fun x hx => by
      simp only [List.mem_cons, List.not_mem_nil, or_false] at hx
      rcases hx with rfl | rfl | rfl | rfl
      · exact hf.1
      · exact hf.2.1
      · exact hf.2.2.1
      · exact hf.2.2.2) (mB_goFields (a, b, c, d))
    unfold r_impl_ParseMatrix
    rw [hi]
    have g0 : getI [a, b, c, d] 0 = some a := rfl
    have g1 : getI [a, b, c, d] 1 = some b := rfl
    have g2 : getI [a, b, c, d] 2 = some c := rfl
    have g3 : getI [a, b, c, d] 3 = some d := rfl
    simp only [Option.bind_some, g0, g1, g2, g3, isMat_val, nb_inN.1 hf.1, nb_inN.1 hf.2.1, nb_inN.1 hf.2.2.1, nb_inN.1 hf.2.2.2, Bool.and_self, Bool.not_true, cond_false, matText_eq (nb_sm hf.1) (nb_sm hf.2.1) (nb_sm hf.2.2.1) (nb_sm hf.2.2.2), eqS, decide_true]
    rfl
  · refine .inr ⟨fun f h e => hf ⟨f, h, e⟩, ?_⟩
    obtain ⟨l, hl⟩ := intsIn_tot s hs
    unfold r_impl_ParseMatrix
    rw [hl, Option.bind_some]
    by_cases h3 : l.length = 4
    · match l, h3 with
      | [a, b, c, d], _ =>
        have g0 : getI [a, b, c, d] 0 = some a := rfl
        have g1 : getI [a, b, c, d] 1 = some b := rfl
        have g2 : getI [a, b, c, d] 2 = some c := rfl
        have g3 : getI [a, b, c, d] 3 = some d := rfl
        simp only [show eqI (([a, b, c, d].length : Nat) : Int) 4 = true from rfl, Bool.not_true, cond_false, Option.bind_some, g0, g1, g2, g3, isMat_val]
        cases hb : (inN a && (inN b && (inN c && inN d))) with
        | false => rfl
        | true =>
          simp only [Bool.and_eq_true] at hb
          have f1 := nb_inN.2 hb.1
          have f2 := nb_inN.2 hb.2.1
          have f3 := nb_inN.2 hb.2.2.1
          have f4 := nb_inN.2 hb.2.2.2
          simp only [Bool.not_true, cond_false, matText_eq (m := (a, b, c, d)) (nb_sm f1) (nb_sm f2) (nb_sm f3) (nb_sm f4), Option.bind_some, eqS]
          rw [decide_eq_false (fun e => hf ⟨(a, b, c, d), ⟨f1, f2, f3, f4⟩, e.symm⟩)]
          rfl
    · rw [eqNe (by omega)]
      rfl
theorem matrix_both (s : ByteArray) (hs : s.size ≤ 100000000) : ∃ r, r_impl_ParseMatrix s = some r ∧ r_spec_foReadMatrix s = some r := by
  rcases parseM_spec s hs with ⟨f, h1, h2, h3⟩ | ⟨h1, h3⟩ <;> rcases foReadM_spec s hs with ⟨g, g1, g2, g3⟩ | ⟨g1, g3⟩
  · have e : f = g := mB_inj (bl_inj (h2.symm.trans g2))
    subst e
    exact ⟨_, h3, g3⟩
  · exact absurd h2 (g1 f h1)
  · exact absurd g2 (h1 g g1)
  · exact ⟨_, h3, g3⟩
end Go.Proofs.YtfmjfofocklgpaaGreatDoor
namespace Go.Proofs.YtfmjfofocklgpaaGreatDoor
open Go.Lib
set_option linter.unusedVariables false
set_option linter.unusedSimpArgs false
theorem shape_both (w : ByteArray) : ∃ t, r_impl_shapeOf w = some t ∧ r_spec_prWords w = some t ∧ t.size ≤ 11 := by
  by_cases h1 : w = ⟨#[101, 113, 117, 105, 118, 97, 108, 101, 110, 116]⟩
  · subst h1; exact ⟨⟨#[102, 102, 109]⟩, by decide +kernel, by decide +kernel, by decide⟩
  by_cases h2 : w = ⟨#[100, 105, 102, 102, 101, 114, 101, 110, 116]⟩
  · subst h2; exact ⟨⟨#[102, 109, 102, 102, 109, 102]⟩, by decide +kernel, by decide +kernel, by decide⟩
  by_cases h3 : w = ⟨#[118, 97, 108, 117, 101]⟩
  · subst h3; exact ⟨⟨#[102, 110, 110, 110]⟩, by decide +kernel, by decide +kernel, by decide⟩
  by_cases h4 : w = ⟨#[111, 98, 115, 116, 114, 117, 99, 116, 105, 111, 110]⟩
  · subst h4; exact ⟨⟨#[110, 110, 110]⟩, by decide +kernel, by decide +kernel, by decide⟩
  by_cases h5 : w = ⟨#[99, 111, 109, 112, 111, 115, 105, 116, 101]⟩
  · subst h5; exact ⟨⟨#[102, 102, 102, 110, 110, 110, 110, 110, 110, 110, 110]⟩, by decide +kernel, by decide +kernel, by decide⟩
  by_cases h6 : w = ⟨#[111, 114, 100, 101, 114]⟩
  · subst h6; exact ⟨⟨#[102, 110]⟩, by decide +kernel, by decide +kernel, by decide⟩
  by_cases h7 : w = ⟨#[114, 111, 111, 116]⟩
  · subst h7; exact ⟨⟨#[110, 110, 110]⟩, by decide +kernel, by decide +kernel, by decide⟩
  by_cases h8 : w = ⟨#[97, 117, 116, 111, 109, 111, 114, 112, 104]⟩
  · subst h8; exact ⟨⟨#[102, 109]⟩, by decide +kernel, by decide +kernel, by decide⟩
  by_cases h9 : w = ⟨#[115, 111, 108, 117, 116, 105, 111, 110]⟩
  · subst h9; exact ⟨⟨#[110, 110, 110]⟩, by decide +kernel, by decide +kernel, by decide⟩
  refine ⟨⟨#[]⟩, ?_, ?_, by decide⟩
  · unfold r_impl_shapeOf
    have e : (mPut ((⟨#[115, 111, 108, 117, 116, 105, 111, 110]⟩ : ByteArray)) ((⟨#[110, 110, 110]⟩ : ByteArray)) (mPut ((⟨#[97, 117, 116, 111, 109, 111, 114, 112, 104]⟩ : ByteArray)) ((⟨#[102, 109]⟩ : ByteArray)) (mPut ((⟨#[114, 111, 111, 116]⟩ : ByteArray)) ((⟨#[110, 110, 110]⟩ : ByteArray)) (mPut ((⟨#[111, 114, 100, 101, 114]⟩ : ByteArray)) ((⟨#[102, 110]⟩ : ByteArray)) (mPut ((⟨#[99, 111, 109, 112, 111, 115, 105, 116, 101]⟩ : ByteArray)) ((⟨#[102, 102, 102, 110, 110, 110, 110, 110, 110, 110, 110]⟩ : ByteArray)) (mPut ((⟨#[111, 98, 115, 116, 114, 117, 99, 116, 105, 111, 110]⟩ : ByteArray)) ((⟨#[110, 110, 110]⟩ : ByteArray)) (mPut ((⟨#[118, 97, 108, 117, 101]⟩ : ByteArray)) ((⟨#[102, 110, 110, 110]⟩ : ByteArray)) (mPut ((⟨#[100, 105, 102, 102, 101, 114, 101, 110, 116]⟩ : ByteArray)) ((⟨#[102, 109, 102, 102, 109, 102]⟩ : ByteArray)) (mPut ((⟨#[101, 113, 117, 105, 118, 97, 108, 101, 110, 116]⟩ : ByteArray)) ((⟨#[102, 102, 109]⟩ : ByteArray)) (([] : List ((ByteArray × ByteArray))))))))))))) = [(⟨#[101, 113, 117, 105, 118, 97, 108, 101, 110, 116]⟩, ⟨#[102, 102, 109]⟩), (⟨#[100, 105, 102, 102, 101, 114, 101, 110, 116]⟩, ⟨#[102, 109, 102, 102, 109, 102]⟩), (⟨#[118, 97, 108, 117, 101]⟩, ⟨#[102, 110, 110, 110]⟩), (⟨#[111, 98, 115, 116, 114, 117, 99, 116, 105, 111, 110]⟩, ⟨#[110, 110, 110]⟩), (⟨#[99, 111, 109, 112, 111, 115, 105, 116, 101]⟩, ⟨#[102, 102, 102, 110, 110, 110, 110, 110, 110, 110, 110]⟩), (⟨#[111, 114, 100, 101, 114]⟩, ⟨#[102, 110]⟩), (⟨#[114, 111, 111, 116]⟩, ⟨#[110, 110, 110]⟩), (⟨#[97, 117, 116, 111, 109, 111, 114, 112, 104]⟩, ⟨#[102, 109]⟩), (⟨#[115, 111, 108, 117, 116, 105, 111, 110]⟩, ⟨#[110, 110, 110]⟩)] := by decide +kernel
    rw [e, Option.bind_some]
    simp [mAt, mGet, ixM, h1, h2, h3, h4, h5, h6, h7, h8, h9]
    rfl
  · unfold r_spec_prWords
    simp only [eqS, decide_eq_false h1, decide_eq_false h2, decide_eq_false h3, decide_eq_false h4, decide_eq_false h5, decide_eq_false h6, decide_eq_false h7, decide_eq_false h8, decide_eq_false h9, Option.bind_some, cond_false]
section
variable (y2 : List ByteArray) (t e4 : ByteArray) (hl : y2.length = t.size + 1) (hz : ∀ w ∈ y2, w.size ≤ 2000000) (ht : t.size ≤ 11)
include hl hz ht
theorem word_at {k : Nat} (hk : k < t.size) : ∃ w, getI (subl y2 1 (y2.length : Int)) (k : Int) = some w ∧ getI y2 (w64 ((k : Int) + 1)) = some w ∧ w.size ≤ 2000000 := by
  have h1 : k + 1 < y2.length := by omega
  refine ⟨y2[k + 1]'h1, ?_, ?_, hz _ (List.getElem_mem h1)⟩
  · unfold subl
    rw [Int.toNat_natCast, show Int.toNat 1 = 1 from rfl, List.take_of_length_le (by simp), getNat (by simp; omega)]
    congr 1
    rw [List.getElem_drop]
    congr 1
    omega
  · rw [wsucc (by omega), getNat h1]
theorem spec_stuck : ∀ (m n k : Nat) (F : List (Int × Int × Int)) (M : List (Int × Int × Int × Int)) (N : List Int), t.size - k = m → m < n → k ≤ t.size → F.length ≤ k → M.length ≤ k → N.length ≤ k →
    ∃ N' M' F', zR y2 t n false (k : Int) F M N = some (false, N', M', F') := by
  intro m
  induction m with
  | zero =>
    intro n k F M N hk hn hkt hF hM hN
    obtain ⟨n, rfl⟩ : ∃ m, n = m + 1 := ⟨n - 1, by omega⟩
    unfold zR
    rw [ltI_eq, decide_eq_false (by omega), cond_false]
    exact ⟨_, _, _, rfl⟩
  | succ m ih =>
    intro n k F M N hk hn hkt hF hM hN
    obtain ⟨n, rfl⟩ : ∃ m, n = m + 1 := ⟨n - 1, by omega⟩
    obtain ⟨w, _, w2, w3⟩ := word_at y2 t hl hz ht (show k < t.size by omega)
    have hlt : k < t.size := by omega
    have hg := getB_nat hlt
    generalize t.data.toList[k]'hlt = b at hg
    unfold zR
    rw [ltI_eq, decide_eq_true (by omega), cond_true]
    simp only [w2, hg, Option.bind_some, cond_false, sI_eq]
    cases eqI ((b.toNat : Nat) : Int) 102 with
    | true =>
      obtain ⟨r, _, h2, _⟩ := parseForm_both w (by omega)
      rw [cond_true, h2, Option.bind_some, roomOk (by simp; omega), Option.bind_some, wsucc (by omega)]
      exact ih n (k + 1) _ _ _ (by omega) (by omega) (by omega) (by simp; omega) (by omega) (by omega)
    | false =>
      rw [cond_false]
      cases eqI ((b.toNat : Nat) : Int) 109 with
      | true =>
        obtain ⟨r, _, h2⟩ := matrix_both w (by omega)
        rw [cond_true, h2, Option.bind_some, roomOk (by simp; omega), Option.bind_some, wsucc (by omega)]
        exact ih n (k + 1) _ _ _ (by omega) (by omega) (by omega) (by omega) (by simp; omega) (by omega)
      | false =>
        obtain ⟨a, b, ok, _, h2, _⟩ := number_both w (by omega)
        rw [cond_false, h2, Option.bind_some, roomOk (by simp; omega), Option.bind_some, wsucc (by omega)]
        exact ih n (k + 1) _ _ _ (by omega) (by omega) (by omega) (by omega) (by omega) (by simp; omega)
theorem loop_both : ∀ (m n k : Nat) (F : List (Int × Int × Int)) (M : List (Int × Int × Int × Int)) (N : List Int), t.size - k = m → m < n → k ≤ t.size → F.length ≤ k → M.length ≤ k → N.length ≤ k →
    (∃ N' M' F', zR y2 t n true (k : Int) F M N = some (true, N', M', F') ∧ r_impl_partsOf_L15 e4 ((t.size : Nat) : Int) y2 t n (k : Int) F M N = some (.inl (N', M', F'))) ∨
    (∃ N' M' F', zR y2 t n true (k : Int) F M N = some (false, N', M', F') ∧ r_impl_partsOf_L15 e4 ((t.size : Nat) : Int) y2 t n (k : Int) F M N = some (.inr ((ByteArray.empty, [], [], []), false))) := by
  intro m
  induction m with
  | zero =>
    intro n k F M N hk hn hkt hF hM hN
    obtain ⟨n, rfl⟩ : ∃ m, n = m + 1 := ⟨n - 1, by omega⟩
    unfold zR r_impl_partsOf_L15
    rw [ltI_eq, decide_eq_false (by omega), cond_false, cond_false]
    exact .inl ⟨_, _, _, rfl, rfl⟩
  | succ m ih =>
    intro n k F M N hk hn hkt hF hM hN
    obtain ⟨n, rfl⟩ : ∃ m, n = m + 1 := ⟨n - 1, by omega⟩
    obtain ⟨w, w1, w2, w3⟩ := word_at y2 t hl hz ht (show k < t.size by omega)
    have hlt : k < t.size := by omega
    have hg := getB_nat hlt
    generalize t.data.toList[k]'hlt = b at hg
    unfold zR r_impl_partsOf_L15
    rw [ltI_eq, decide_eq_true (by omega), cond_true, cond_true]
    simp only [w1, w2, hg, Option.bind_some, cond_true, sI_eq]
    cases eqI ((b.toNat : Nat) : Int) 102 with
    | true =>
      obtain ⟨r, h1, h2, _⟩ := parseForm_both w (by omega)
      rw [cond_true, cond_true, h1, h2, Option.bind_some, Option.bind_some, roomOk (by simp; omega), Option.bind_some, Option.bind_some, wsucc (by omega)]
      cases hr : r.2 with
      | true =>
        rw [Bool.not_true, cond_false]
        exact ih n (k + 1) _ _ _ (by omega) (by omega) (by omega) (by simp; omega) (by omega) (by omega)
      | false =>
        obtain ⟨N', M', F', h⟩ := spec_stuck y2 t hl hz ht m n (k + 1) (F ++ [r.1]) M N (by omega) (by omega) (by omega) (by simp; omega) (by omega) (by omega)
        exact .inr ⟨N', M', F', h, rfl⟩
    | false =>
      rw [cond_false, cond_false]
      cases eqI ((b.toNat : Nat) : Int) 109 with
      | true =>
        obtain ⟨r, h1, h2⟩ := matrix_both w (by omega)
        rw [cond_true, cond_true, h1, h2, Option.bind_some, Option.bind_some, roomOk (by simp; omega), Option.bind_some, Option.bind_some, wsucc (by omega)]
        cases hr : r.2 with
        | true =>
          rw [Bool.not_true, cond_false]
          exact ih n (k + 1) _ _ _ (by omega) (by omega) (by omega) (by omega) (by simp; omega) (by omega)
        | false =>
          obtain ⟨N', M', F', h⟩ := spec_stuck y2 t hl hz ht m n (k + 1) F (M ++ [r.1]) N (by omega) (by omega) (by omega) (by omega) (by simp; omega) (by omega)
          exact .inr ⟨N', M', F', h, rfl⟩
      | false =>
        obtain ⟨a, b, ok, h1, h2, h3⟩ := number_both w (by omega)
        rw [cond_false, cond_false, h1, h2, Option.bind_some, Option.bind_some, roomOk (by simp; omega), Option.bind_some, roomOk (by simp; omega), Option.bind_some, wsucc (by omega)]
        cases ok with
        | true =>
          have e := h3 rfl
          subst e
          rw [Bool.not_true, cond_false]
          exact ih n (k + 1) _ _ _ (by omega) (by omega) (by omega) (by omega) (by omega) (by simp; omega)
        | false =>
          obtain ⟨N', M', F', h⟩ := spec_stuck y2 t hl hz ht m n (k + 1) F M (N ++ [b]) (by omega) (by omega) (by omega) (by omega) (by omega) (by simp; omega)
          exact .inr ⟨N', M', F', h, rfl⟩
end
theorem spl_word_len2 (c : UInt8) : ∀ (l : List UInt8), ∀ w ∈ spl c l, w.length ≤ l.length
  | [], w, hw => by
    have : w = [] := by simpa [spl] using hw
    rw [this]
    exact Nat.zero_le _
  | b :: l, w, hw => by
    have ih := spl_word_len2 c l
    by_cases h : b = c
    · subst h
      rw [spl_eq] at hw
      rcases List.mem_cons.1 hw with rfl | hw
      · exact Nat.zero_le _
      · have := ih w hw
        simp; omega
    · cases e : spl c l with
      | nil => exact absurd e (spl_ne c l)
      | cons v ws =>
        rw [spl_cons h e] at hw
        rw [e] at ih
        rcases List.mem_cons.1 hw with rfl | hw
        · have := ih v (List.mem_cons_self ..)
          simp; omega
        · have := ih w (List.mem_cons_of_mem _ hw)
          simp; omega
end Go.Proofs.YtfmjfofocklgpaaGreatDoor
namespace Go.Proofs.YtfmjfofocklgpaaGreatDoor
open Go.Lib
set_option linter.unusedVariables false
set_option linter.unusedSimpArgs false
theorem matrix_nb (s : ByteArray) (hs : s.size ≤ 100000000) {r : (Int × Int × Int × Int) × Bool} (h : r_spec_foReadMatrix s = some r) (h2 : r.2 = true) : MB r.1 := by
  rcases foReadM_spec s hs with ⟨m, m1, _, m3⟩ | ⟨_, m3⟩
  · rw [m3] at h; cases h; exact m1
  · rw [m3] at h; cases h; cases h2
theorem number_nb (s : ByteArray) {r : Int × Bool} (h : r_spec_foInt s = some r) (h2 : r.2 = true) : NB r.1 := by
  rcases foInt_spec s with ⟨n, n1, _, n3⟩ | ⟨_, n3⟩
  · rw [n3] at h; cases h; exact n1
  · rw [n3] at h; cases h; cases h2
theorem form_nb (s : ByteArray) (hs : s.size ≤ 100000000) {r : (Int × Int × Int) × Bool} (h : r_spec_foRead s = some r) (h2 : r.2 = true) : FB r.1 := by
  rcases foRead_spec s hs with ⟨m, m1, _, m3⟩ | ⟨_, m3⟩
  · rw [m3] at h; cases h; exact m1
  · rw [m3] at h; cases h; cases h2
theorem letter_is (b c : UInt8) : eqI ((b.toNat : Nat) : Int) ((c.toNat : Nat) : Int) = decide (b = c) := by
  rw [eqI_eq, byte_eq]
section
variable (y2 : List ByteArray) (t : ByteArray) (hl : y2.length = t.size + 1) (hz : ∀ w ∈ y2, w.size ≤ 2000000) (ht : t.size ≤ 11)
include hl hz ht
theorem loop_facts : ∀ (m n k : Nat) (F : List (Int × Int × Int)) (M : List (Int × Int × Int × Int)) (N : List Int) (F' : List (Int × Int × Int)) (M' : List (Int × Int × Int × Int)) (N' : List Int), t.size - k = m → m < n → k ≤ t.size → F.length ≤ k → M.length ≤ k → N.length ≤ k →
    zR y2 t n true (k : Int) F M N = some (true, N', M', F') →
    F'.length = F.length + (t.data.toList.drop k).countP (fun b => decide (b = 102)) ∧ M'.length = M.length + (t.data.toList.drop k).countP (fun b => decide (b = 109)) ∧ N'.length = N.length + (t.data.toList.drop k).countP (fun b => !decide (b = 102) && !decide (b = 109)) ∧
    (∀ f ∈ F', f ∈ F ∨ FB f) ∧ (∀ f ∈ M', f ∈ M ∨ MB f) ∧ (∀ f ∈ N', f ∈ N ∨ NB f) := by
  intro m
  induction m with
  | zero =>
    intro n k F M N F' M' N' hk hn hkt hF hM hN h
    obtain ⟨n, rfl⟩ : ∃ m, n = m + 1 := ⟨n - 1, by omega⟩
    unfold zR at h
    rw [ltI_eq, decide_eq_false (by omega), cond_false] at h
    cases h
    have e : t.data.toList.drop k = [] := List.drop_eq_nil_of_le (by show t.size ≤ k; omega)
    rw [e]
    exact ⟨rfl, rfl, rfl, fun _ h => .inl h, fun _ h => .inl h, fun _ h => .inl h⟩
  | succ m ih =>
    intro n k F M N F' M' N' hk hn hkt hF hM hN h
    obtain ⟨n, rfl⟩ : ∃ m, n = m + 1 := ⟨n - 1, by omega⟩
    obtain ⟨w, _, w2, w3⟩ := word_at y2 t hl hz ht (show k < t.size by omega)
    have hlt : k < t.size := by omega
    have hg := getB_nat hlt
    have hd : t.data.toList.drop k = t.data.toList[k]'hlt :: t.data.toList.drop (k + 1) := List.drop_eq_getElem_cons hlt
    generalize t.data.toList[k]'hlt = b at hg hd
    rw [hd]
    unfold zR at h
    rw [ltI_eq, decide_eq_true (by omega), cond_true] at h
    have e1 : eqI ((b.toNat : Nat) : Int) 102 = decide (b = 102) := letter_is b 102
    have e2 : eqI ((b.toNat : Nat) : Int) 109 = decide (b = 109) := letter_is b 109
    simp only [w2, hg, Option.bind_some, cond_true, sI_eq, e1, e2] at h
    by_cases h1 : b = 102
    · subst h1
      rw [decide_eq_true rfl, cond_true] at h
      obtain ⟨r, _, r2, _⟩ := parseForm_both w (by omega)
      rw [r2, Option.bind_some, roomOk (by simp; omega), Option.bind_some, wsucc (by omega)] at h
      cases hr : r.2 with
      | false =>
        obtain ⟨N2, M2, F2, hx⟩ := spec_stuck y2 t hl hz ht m n (k + 1) (F ++ [r.1]) M N (by omega) (by omega) (by omega) (by simp; omega) (by omega) (by omega)
        have h : zR y2 t n r.2 ((k + 1 : Nat) : Int) (F ++ [r.1]) M N = _ := h
        rw [hr, hx] at h
        cases h
      | true =>
        have h : zR y2 t n r.2 ((k + 1 : Nat) : Int) (F ++ [r.1]) M N = _ := h
        rw [hr] at h
        obtain ⟨a1, a2, a3, a4, a5, a6⟩ := ih n (k + 1) (F ++ [r.1]) M N F' M' N' (by omega) (by omega) (by omega) (by simp; omega) (by omega) (by omega) h
        refine ⟨?_, ?_, ?_, fun f hf => ?_, a5, a6⟩
        · rw [a1, List.length_append, List.countP_cons]; simp; omega
        · rw [a2, List.countP_cons]; simp
        · rw [a3, List.countP_cons]; simp
        · rcases a4 f hf with h3 | h3
          · rcases List.mem_append.1 h3 with h4 | h4
            · exact .inl h4
            · rw [List.mem_singleton] at h4; subst h4; exact .inr (form_nb w (by omega) r2 hr)
          · exact .inr h3
    · rw [decide_eq_false h1, cond_false] at h
      by_cases h5 : b = 109
      · subst h5
        rw [decide_eq_true rfl, cond_true] at h
        obtain ⟨r, _, r2⟩ := matrix_both w (by omega)
        rw [r2, Option.bind_some, roomOk (by simp; omega), Option.bind_some, wsucc (by omega)] at h
        cases hr : r.2 with
        | false =>
          obtain ⟨N2, M2, F2, hx⟩ := spec_stuck y2 t hl hz ht m n (k + 1) F (M ++ [r.1]) N (by omega) (by omega) (by omega) (by omega) (by simp; omega) (by omega)
          have h : zR y2 t n r.2 ((k + 1 : Nat) : Int) F (M ++ [r.1]) N = _ := h
          rw [hr, hx] at h
          cases h
        | true =>
          have h : zR y2 t n r.2 ((k + 1 : Nat) : Int) F (M ++ [r.1]) N = _ := h
          rw [hr] at h
          obtain ⟨a1, a2, a3, a4, a5, a6⟩ := ih n (k + 1) F (M ++ [r.1]) N F' M' N' (by omega) (by omega) (by omega) (by omega) (by simp; omega) (by omega) h
          refine ⟨?_, ?_, ?_, a4, fun f hf => ?_, a6⟩
          · rw [a1, List.countP_cons]; simp
          · rw [a2, List.length_append, List.countP_cons]; simp; omega
          · rw [a3, List.countP_cons]; simp
          · rcases a5 f hf with h3 | h3
            · rcases List.mem_append.1 h3 with h4 | h4
              · exact .inl h4
              · rw [List.mem_singleton] at h4; subst h4; exact .inr (matrix_nb w (by omega) r2 hr)
            · exact .inr h3
      · rw [decide_eq_false h5, cond_false] at h
        obtain ⟨a, b2, ok, _, r2, _⟩ := number_both w (by omega)
        rw [r2, Option.bind_some, roomOk (by simp; omega), Option.bind_some, wsucc (by omega)] at h
        cases hr : ok with
        | false =>
          obtain ⟨N2, M2, F2, hx⟩ := spec_stuck y2 t hl hz ht m n (k + 1) F M (N ++ [b2]) (by omega) (by omega) (by omega) (by omega) (by omega) (by simp; omega)
          have h : zR y2 t n ok ((k + 1 : Nat) : Int) F M (N ++ [b2]) = _ := h
          rw [hr, hx] at h
          cases h
        | true =>
          have h : zR y2 t n ok ((k + 1 : Nat) : Int) F M (N ++ [b2]) = _ := h
          rw [hr] at h
          obtain ⟨a1, a2, a3, a4, a5, a6⟩ := ih n (k + 1) F M (N ++ [b2]) F' M' N' (by omega) (by omega) (by omega) (by omega) (by omega) (by simp; omega) h
          refine ⟨?_, ?_, ?_, a4, a5, fun f hf => ?_⟩
          · rw [a1, List.countP_cons]; simp [h1]
          · rw [a2, List.countP_cons]; simp [h5]
          · rw [a3, List.length_append, List.countP_cons]; simp [h1, h5]; omega
          · rcases a6 f hf with h3 | h3
            · rcases List.mem_append.1 h3 with h4 | h4
              · exact .inl h4
              · rw [List.mem_singleton] at h4; subst h4; exact .inr (number_nb w r2 hr)
            · exact .inr h3
end
/-- What both read, and what it is made of. -/
theorem parts_more (s : ByteArray) (hs : s.size ≤ 1048576) : (∃ k F M N t, r_impl_partsOf s = some ((k, F, M, N), true) ∧ r_spec_prParse s = some (k, (F, M, N), true) ∧ r_spec_prWords k = some t ∧ t ≠ ⟨#[]⟩ ∧
      F.length = t.data.toList.countP (fun b => decide (b = 102)) ∧ M.length = t.data.toList.countP (fun b => decide (b = 109)) ∧ N.length = t.data.toList.countP (fun b => !decide (b = 102) && !decide (b = 109)) ∧ (∀ f ∈ F, FB f) ∧ (∀ f ∈ M, MB f) ∧ (∀ f ∈ N, NB f)) ∨
    (r_impl_partsOf s = some ((ByteArray.empty, [], [], []), false) ∧ ∃ k x, r_spec_prParse s = some (k, x, false)) := by
  have hF : 200000000 < FU := by decide
  have hsz : s.data.toList.length = s.size := rfl
  unfold r_impl_partsOf r_spec_prParse
  have e1 : r_strings_Split s ⟨#[32]⟩ = some ((spl 32 s.data.toList).map bl) := split_val s 32 (by omega)
  have e2 : r_spec_l1Split s 32 = some ((spl 32 s.data.toList).map bl) := l1Split_val s 32 (by omega)
  rw [e1, e2, Option.bind_some, Option.bind_some]
  have hz : ∀ w ∈ (spl 32 s.data.toList).map bl, w.size ≤ 2000000 := by
    intro w hw
    obtain ⟨x, hx, rfl⟩ := List.mem_map.1 hw
    have := spl_word_len2 32 _ x hx
    rw [bl_size]
    omega
  have hlen := spl_len 32 s.data.toList
  have hyl : ((spl 32 s.data.toList).map bl).length ≤ 1048577 := by rw [List.length_map]; omega
  have hne : (spl 32 s.data.toList).map bl ≠ [] := fun h => spl_ne 32 _ (List.map_eq_nil_iff.1 h)
  generalize (spl 32 s.data.toList).map bl = y2 at hz hyl hne
  obtain ⟨x, r, rfl⟩ : ∃ x r, y2 = x :: r := by
    cases y2 with
    | nil => exact absurd rfl hne
    | cons x r => exact ⟨x, r, rfl⟩
  have g0 : getI (x :: r) 0 = some x := rfl
  obtain ⟨t, t1, t2, t3⟩ := shape_both x
  simp only [g0, Option.bind_some, t1, t2, eqS]
  by_cases ht : t = ⟨#[]⟩
  · subst ht
    simp only [decide_true, cond_true]
    exact .inr ⟨by first | trivial | rfl, _, _, rfl⟩
  · rw [decide_eq_false ht, cond_false, wsucc (by omega)]
    by_cases hl : (x :: r).length = t.size + 1
    · rw [hl, eqSelf, Bool.not_true, cond_false]
      simp only [cond_false]
      have hsl : slc (t.size + 1) 1 ((t.size + 1 : Nat) : Int) = some () := slcOk (l := 1) (by omega) (Nat.le_refl _)
      have hsub : ((subl (x :: r) 1 ((t.size + 1 : Nat) : Int)).length : Int) = ((t.size : Nat) : Int) := by
        unfold subl
        rw [Int.toNat_natCast, show Int.toNat 1 = 1 from rfl, List.length_take, List.length_drop, hl]
        simp
      rw [hsl, hsub]
      simp only [Option.bind_some, sI_eq]
      rcases loop_both (x :: r) t x hl hz t3 t.size FU 0 [] [] [] rfl (by omega) (by omega) (by simp) (by simp) (by simp) with ⟨N, M, F, h1, h2⟩ | ⟨N, M, F, h1, h2⟩
      · obtain ⟨a1, a2, a3, a4, a5, a6⟩ := loop_facts (x :: r) t hl hz t3 t.size FU 0 [] [] [] F M N rfl (by omega) (by omega) (by simp) (by simp) (by simp) h1
        have h1 : zR (x :: r) t FU true 0 [] [] [] = _ := h1
        have h2 : r_impl_partsOf_L15 x ((t.size : Nat) : Int) (x :: r) t FU 0 [] [] [] = _ := h2
        rw [h1, h2]
        refine .inl ⟨_, _, _, _, t, rfl, rfl, t2, ht, ?_, ?_, ?_, fun f hf => ?_, fun f hf => ?_, fun f hf => ?_⟩
        · simpa using a1
        · simpa using a2
        · simpa using a3
        · exact (a4 f hf).resolve_left (by simp)
        · exact (a5 f hf).resolve_left (by simp)
        · exact (a6 f hf).resolve_left (by simp)
      · have h1 : zR (x :: r) t FU true 0 [] [] [] = _ := h1
        have h2 : r_impl_partsOf_L15 x ((t.size : Nat) : Int) (x :: r) t FU 0 [] [] [] = _ := h2
        rw [h1, h2]
        exact .inr ⟨rfl, _, _, rfl⟩
    · rw [eqNe (by omega), Bool.not_false]
      exact .inr ⟨rfl, _, _, rfl⟩
/-- The kinds. -/
theorem kinds {k t : ByteArray} (h : r_spec_prWords k = some t) (ht : t ≠ ⟨#[]⟩) :
    (k = ⟨#[101, 113, 117, 105, 118, 97, 108, 101, 110, 116]⟩ ∧ t = ⟨#[102, 102, 109]⟩) ∨ (k = ⟨#[100, 105, 102, 102, 101, 114, 101, 110, 116]⟩ ∧ t = ⟨#[102, 109, 102, 102, 109, 102]⟩) ∨ (k = ⟨#[118, 97, 108, 117, 101]⟩ ∧ t = ⟨#[102, 110, 110, 110]⟩) ∨
    (k = ⟨#[111, 98, 115, 116, 114, 117, 99, 116, 105, 111, 110]⟩ ∧ t = ⟨#[110, 110, 110]⟩) ∨ (k = ⟨#[99, 111, 109, 112, 111, 115, 105, 116, 101]⟩ ∧ t = ⟨#[102, 102, 102, 110, 110, 110, 110, 110, 110, 110, 110]⟩) ∨ (k = ⟨#[111, 114, 100, 101, 114]⟩ ∧ t = ⟨#[102, 110]⟩) ∨
    (k = ⟨#[114, 111, 111, 116]⟩ ∧ t = ⟨#[110, 110, 110]⟩) ∨ (k = ⟨#[97, 117, 116, 111, 109, 111, 114, 112, 104]⟩ ∧ t = ⟨#[102, 109]⟩) ∨ (k = ⟨#[115, 111, 108, 117, 116, 105, 111, 110]⟩ ∧ t = ⟨#[110, 110, 110]⟩) := by
  unfold r_spec_prWords at h
  simp only [eqS, Option.bind_some] at h
  by_cases h1 : k = ⟨#[101, 113, 117, 105, 118, 97, 108, 101, 110, 116]⟩
  · simp only [decide_eq_true h1, cond_true, Option.bind_some, Option.some.injEq] at h
    exact .inl ⟨h1, h.symm⟩
  by_cases h2 : k = ⟨#[100, 105, 102, 102, 101, 114, 101, 110, 116]⟩
  · simp only [decide_eq_false h1, decide_eq_true h2, cond_true, cond_false, Option.bind_some, Option.some.injEq] at h
    exact .inr (.inl ⟨h2, h.symm⟩)
  by_cases h3 : k = ⟨#[118, 97, 108, 117, 101]⟩
  · simp only [decide_eq_false h1, decide_eq_false h2, decide_eq_true h3, cond_true, cond_false, Option.bind_some, Option.some.injEq] at h
    exact .inr (.inr (.inl ⟨h3, h.symm⟩))
  by_cases h4 : k = ⟨#[111, 98, 115, 116, 114, 117, 99, 116, 105, 111, 110]⟩
  · simp only [decide_eq_false h1, decide_eq_false h2, decide_eq_false h3, decide_eq_true h4, cond_true, cond_false, Option.bind_some, Option.some.injEq] at h
    exact .inr (.inr (.inr (.inl ⟨h4, h.symm⟩)))
  by_cases h7 : k = ⟨#[114, 111, 111, 116]⟩
  · simp only [decide_eq_false h1, decide_eq_false h2, decide_eq_false h3, decide_eq_false h4, decide_eq_true h7, cond_true, cond_false, Option.bind_some, Option.some.injEq] at h
    exact .inr (.inr (.inr (.inr (.inr (.inr (.inl ⟨h7, h.symm⟩))))))
  by_cases h9 : k = ⟨#[115, 111, 108, 117, 116, 105, 111, 110]⟩
  · simp only [decide_eq_false h1, decide_eq_false h2, decide_eq_false h3, decide_eq_false h4, decide_eq_false h7, decide_eq_true h9, cond_true, cond_false, Option.bind_some, Option.some.injEq] at h
    exact .inr (.inr (.inr (.inr (.inr (.inr (.inr (.inr ⟨h9, h.symm⟩)))))))
  by_cases h5 : k = ⟨#[99, 111, 109, 112, 111, 115, 105, 116, 101]⟩
  · simp only [decide_eq_false h1, decide_eq_false h2, decide_eq_false h3, decide_eq_false h4, decide_eq_false h7, decide_eq_false h9, decide_eq_true h5, cond_true, cond_false, Option.bind_some, Option.some.injEq] at h
    exact .inr (.inr (.inr (.inr (.inl ⟨h5, h.symm⟩))))
  by_cases h6 : k = ⟨#[111, 114, 100, 101, 114]⟩
  · simp only [decide_eq_false h1, decide_eq_false h2, decide_eq_false h3, decide_eq_false h4, decide_eq_false h7, decide_eq_false h9, decide_eq_false h5, decide_eq_true h6, cond_true, cond_false, Option.bind_some, Option.some.injEq] at h
    exact .inr (.inr (.inr (.inr (.inr (.inl ⟨h6, h.symm⟩)))))
  by_cases h8 : k = ⟨#[97, 117, 116, 111, 109, 111, 114, 112, 104]⟩
  · simp only [decide_eq_false h1, decide_eq_false h2, decide_eq_false h3, decide_eq_false h4, decide_eq_false h7, decide_eq_false h9, decide_eq_false h5, decide_eq_false h6, decide_eq_true h8, cond_true, cond_false, Option.bind_some, Option.some.injEq] at h
    exact .inr (.inr (.inr (.inr (.inr (.inr (.inr (.inl ⟨h8, h.symm⟩)))))))
  simp only [decide_eq_false h1, decide_eq_false h2, decide_eq_false h3, decide_eq_false h4, decide_eq_false h7, decide_eq_false h9, decide_eq_false h5, decide_eq_false h6, decide_eq_false h8, cond_false, Option.bind_some, Option.some.injEq] at h
  exact absurd h.symm ht
end Go.Proofs.YtfmjfofocklgpaaGreatDoor
namespace Go.Proofs.YtfmjfofocklgpaaGreatDoor
set_option linter.unusedVariables false
set_option linter.unusedSimpArgs false
/-- A definite form on its way to the reduced one. -/
structure RedInv (a b c d g : Int) : Prop where
  a1 : 1 ≤ a
  aM : a ≤ 1000000
  b1 : -1900000 ≤ b
  b2 : b ≤ 1900000
  c1 : 1 ≤ c
  cM : c ≤ 1250000
  dis : b * b - 4 * a * c = d
  neg : d < 0
  nrm : (-a < b ∧ b ≤ a) ∨ c ≤ 1000000
  con : ∀ k : Int, (k ∣ a ∧ k ∣ b ∧ k ∣ c) ↔ k ∣ g
def IsRed (a b c : Int) : Prop := (-a < b ∧ b ≤ a) ∧ (a < c ∨ (a = c ∧ 0 ≤ b))
instance (a b c : Int) : Decidable (IsRed a b c) := inferInstanceAs (Decidable ((-a < b ∧ b ≤ a) ∧ (a < c ∨ (a = c ∧ 0 ≤ b))))
theorem red_is {a b c : Int} (ha : 1 ≤ a) (haM : a ≤ 1000000) : r_impl_Form_isReduced (a, b, c) = some (decide (IsRed a b c)) := by
  have hn : r_impl_Form_isNormal (a, b, c) = some (decide (-a < b ∧ b ≤ a)) := by
    simp only [r_impl_Form_isNormal, Option.bind_some, ltI_eq, leI_eq]
    rw [zL (by omega)]
    by_cases h1 : -a < b <;> by_cases h2 : b ≤ a <;> simp [h1, h2]
    all_goals omega
  simp only [r_impl_Form_isReduced, hn, Option.bind_some, ltI_eq, leI_eq, eqI_eq]
  unfold IsRed
  by_cases h1 : -a < b <;> by_cases h2 : b ≤ a <;> by_cases h3 : a < c <;> by_cases h4 : a = c <;> by_cases h5 : 0 ≤ b <;> simp [h1, h2, h3, h4, h5]
theorem red_step {a b c d g : Int} (h : RedInv a b c d g) (hr : ¬ IsRed a b c) : ∃ m a2 b2 c2, r_impl_Form_step (a, b, c) = some m ∧ zX (a, b, c) m = some (a2, b2, c2) ∧ RedInv a2 b2 c2 d g ∧
    ((¬ (-a < b ∧ b ≤ a) ∧ a2 = a ∧ (-a2 < b2 ∧ b2 ≤ a2)) ∨ ((-a < b ∧ b ≤ a) ∧ a2 < a) ∨ ((-a < b ∧ b ≤ a) ∧ IsRed a2 b2 c2 ∧ a2 ≤ a)) := by
  obtain ⟨a1, aM, b1, b2, c1, cM, dis, neg, nrm, con⟩ := h
  have hn : r_impl_Form_isNormal (a, b, c) = some (decide (-a < b ∧ b ≤ a)) := by
    simp only [r_impl_Form_isNormal, Option.bind_some, ltI_eq, leI_eq]
    rw [zL (by omega)]
    by_cases h1 : -a < b <;> by_cases h2 : b ≤ a <;> simp [h1, h2]
    all_goals omega
  by_cases hN : -a < b ∧ b ≤ a
  · have hst : r_impl_Form_step (a, b, c) = some (0, -1, 1, 0) := by
      simp only [r_impl_Form_step, red_is a1 aM, hn, Option.bind_some, decide_eq_false hr, decide_eq_true hN]
      rfl
    refine ⟨_, c, -b, a, hst, dsc_act_swap (by omega) (by omega) (by omega), ?_, ?_⟩
    · have hca : c ≤ a := by
        unfold IsRed at hr
        have : ¬ (a < c ∨ (a = c ∧ 0 ≤ b)) := fun x => hr ⟨hN, x⟩
        omega
      exact ⟨c1, by omega, by omega, by omega, a1, by omega, by grind, neg, .inr aM, fun k => by rw [← con k, Int.dvd_neg]; exact ⟨fun h => ⟨h.2.2, h.2.1, h.1⟩, fun h => ⟨h.2.2, h.2.1, h.1⟩⟩⟩
    · have h2 : ¬ (a < c ∨ (a = c ∧ 0 ≤ b)) := fun x => hr ⟨hN, x⟩
      by_cases hac : a = c
      · refine .inr (.inr ⟨hN, ⟨?_, .inr ?_⟩, ?_⟩) <;> omega
      · exact .inr (.inl ⟨hN, by omega⟩)
  · have hf := dsc_floor_val (a := a - b) (m := 2 * a) (by omega) (by omega) (by omega) (by omega)
    have e1 := Int.emod_nonneg (a - b) (b := 2 * a) (by omega)
    have e2 := Int.emod_lt_of_pos (a - b) (b := 2 * a) (by omega)
    have e3 := Int.emod_add_mul_ediv (a - b) (2 * a)
    generalize hs : (a - b) / (2 * a) = s at *
    generalize hq : (a - b) % (2 * a) = q at *
    have hs1 : s ≤ 1000000 := by
      rcases Int.lt_or_le 1000000 s with h | h
      · have : 2 * a * 1000001 ≤ 2 * a * s := Int.mul_le_mul_of_nonneg_left (by omega) (by omega)
        omega
      · exact h
    have hs2 : -1000001 ≤ s := by
      rcases Int.lt_or_le s (-1000001) with h | h
      · have : 2 * a * s ≤ 2 * a * (-1000002) := Int.mul_le_mul_of_nonneg_left (by omega) (by omega)
        omega
      · exact h
    have hst : r_impl_Form_step (a, b, c) = some (1, s, 0, 1) := by
      simp only [r_impl_Form_step, red_is a1 aM, hn, Option.bind_some, decide_eq_false hr, decide_eq_false hN, cond_false, Bool.not_false, cond_true]
      rw [zL (n := a - b) (by omega), zL (n := 2 * a) (by omega), hf]
      rfl
    have hb : -a < 2 * a * s + b ∧ 2 * a * s + b ≤ a := by omega
    have hid : 4 * a * (a * s * s + b * s + c) = (2 * a * s + b) * (2 * a * s + b) - d := by grind
    have hsq : 0 ≤ (2 * a * s + b) * (2 * a * s + b) := by
      rcases Int.le_total 0 (2 * a * s + b) with h | h
      · exact Int.mul_nonneg h h
      · exact Int.mul_nonneg_of_nonpos_of_nonpos h h
    have hsq2 : (2 * a * s + b) * (2 * a * s + b) ≤ a * a := by
      have := abs_mul (x := 2 * a * s + b) (y := 2 * a * s + b) (A := a.natAbs) (B := a.natAbs) (by omega) (by omega)
      have h2 : ((2 * a * s + b) * (2 * a * s + b)).natAbs ≤ (a * a).natAbs := by rw [Int.natAbs_mul a a]; exact this
      have h3 : 0 ≤ a * a := Int.mul_nonneg (by omega) (by omega)
      omega
    have hbb : 0 ≤ b * b := by
      rcases Int.le_total 0 b with h | h
      · exact Int.mul_nonneg h h
      · exact Int.mul_nonneg_of_nonpos_of_nonpos h h
    have hc : 1 ≤ a * s * s + b * s + c := by
      rcases Int.lt_or_le 0 (a * s * s + b * s + c) with h | h
      · exact h
      · have : 4 * a * (a * s * s + b * s + c) ≤ 4 * a * 0 := Int.mul_le_mul_of_nonneg_left h (by omega)
        omega
    have hcc : c ≤ 1000000 := nrm.resolve_left hN
    have hcM : a * s * s + b * s + c ≤ 1250000 := by
      have h4 : 4 * a * (a * s * s + b * s + c) ≤ a * a + 4 * a * c := by omega
      have h5 : a * a + 4 * a * c ≤ a * 5000000 := by
        have : a * (a + 4 * c) ≤ a * 5000000 := Int.mul_le_mul_of_nonneg_left (by omega) (by omega)
        have e : a * (a + 4 * c) = a * a + 4 * a * c := by grind
        omega
      rcases Int.lt_or_le 1250000 (a * s * s + b * s + c) with h | h
      · have : 4 * a * 1250001 ≤ 4 * a * (a * s * s + b * s + c) := Int.mul_le_mul_of_nonneg_left (by omega) (by omega)
        omega
      · exact h
    have hcon : ∀ k : Int, (k ∣ a ∧ k ∣ 2 * a * s + b ∧ k ∣ a * s * s + b * s + c) ↔ k ∣ g := by
      intro k
      rw [← con k]
      constructor
      · rintro ⟨u1, u2, u3⟩
        have v1 : k ∣ b := by
          have w1 : k ∣ 2 * a * s := Int.dvd_mul_of_dvd_left (Int.dvd_mul_of_dvd_right u1)
          exact (Int.dvd_add_right w1).1 u2
        have w2 : k ∣ a * s * s + b * s := Int.dvd_add (Int.dvd_mul_of_dvd_left (Int.dvd_mul_of_dvd_left u1)) (Int.dvd_mul_of_dvd_left v1)
        exact ⟨u1, v1, (Int.dvd_add_right w2).1 u3⟩
      · rintro ⟨u1, u2, u3⟩
        have w1 : k ∣ 2 * a * s := Int.dvd_mul_of_dvd_left (Int.dvd_mul_of_dvd_right u1)
        have w2 : k ∣ a * s * s + b * s := Int.dvd_add (Int.dvd_mul_of_dvd_left (Int.dvd_mul_of_dvd_left u1)) (Int.dvd_mul_of_dvd_left u2)
        exact ⟨u1, Int.dvd_add w1 u2, Int.dvd_add w2 u3⟩
    refine ⟨_, a, 2 * a * s + b, a * s * s + b * s + c, hst, dsc_act_norm (by omega) (by omega) (by omega) (by omega), ⟨a1, aM, by omega, by omega, hc, hcM, by grind, neg, .inl hb, hcon⟩, .inl ⟨hN, rfl, hb⟩⟩
theorem times_some (m n : Int × Int × Int × Int) : ∃ y, r_impl_Matrix_times m n = some y := by
  simp only [r_impl_Matrix_times, sI_eq]
  exact ⟨_, rfl⟩
/-- Both loops end alike. -/
theorem red_run : ∀ (n : Nat) (a b c d g p q r s : Int), RedInv a b c d g → 4 * a + (if -a < b ∧ b ≤ a then 0 else 2) + (if IsRed a b c then 0 else 1) ≤ (n : Int) →
    ∃ m1 m2 m3 m4 a2 b2 c2, r_impl_reduce_L10 n p q r s a b c = some (m1, m2, m3, m4, a2, b2, c2) ∧ r_spec_reReduce_L9 n p q r s a b c = some (m1, m2, m3, m4, a2, b2, c2) ∧ RedInv a2 b2 c2 d g ∧ IsRed a2 b2 c2
  | 0, a, b, c, d, g, p, q, r, s, h, hm => by
    have := h.a1
    split at hm <;> split at hm <;> omega
  | n + 1, a, b, c, d, g, p, q, r, s, h, hm => by
    unfold r_impl_reduce_L10 r_spec_reReduce_L9
    rw [dsc_is, red_is h.a1 h.aM]
    by_cases hr : IsRed a b c
    · refine ⟨p, q, r, s, a, b, c, ?_, ?_, h, hr⟩ <;> simp [hr]
    · obtain ⟨m, a2, b2, c2, h1, h2, h3, h4⟩ := red_step h hr
      obtain ⟨y, hy⟩ := times_some (p, q, r, s) m
      obtain ⟨y1, y2, y3, y4⟩ := y
      have hstep : r_spec_reMove (a, b, c) = r_impl_Form_step (a, b, c) := dsc_step h.a1 (by have := h.aM; omega) (by have := h.b1; omega) (by have := h.b2; omega) (by rw [red_is h.a1 h.aM, decide_eq_false hr])
      have e1 : (!decide (IsRed a b c)) = true := by simp [hr]
      simp only [Option.bind_some, hstep, h1, dsc_act, dsc_mul, h2, hy, e1, cond_true]
      refine red_run n a2 b2 c2 d g y1 y2 y3 y4 h3 ?_
      rcases h4 with ⟨g1, g2, g3⟩ | ⟨g1, g2⟩ | ⟨g1, g2, g3⟩
      · rw [if_neg g1, if_neg hr] at hm
        rw [if_pos g3]
        split <;> omega
      · rw [if_pos g1, if_neg hr] at hm
        split <;> split <;> omega
      · rw [if_pos g1, if_neg hr] at hm
        rw [if_pos g2.1, if_pos g2]
        omega
/-- Reducing: the same on both sides. -/
theorem red_both {a b c d g : Int} (h : RedInv a b c d g) : ∃ m a2 b2 c2, r_impl_reduce (a, b, c) = some ((a2, b2, c2), m) ∧ r_spec_reReduce (a, b, c) = some ((a2, b2, c2), m) ∧ RedInv a2 b2 c2 d g ∧ IsRed a2 b2 c2 := by
  obtain ⟨m1, m2, m3, m4, a2, b2, c2, h1, h2, h3, h4⟩ := red_run FU a b c d g 1 0 0 1 h (by
    have e : ((FU : Nat) : Int) = 1000000000 := rfl
    rw [e]
    have := h.aM
    split <;> split <;> omega)
  refine ⟨(m1, m2, m3, m4), a2, b2, c2, ?_, ?_, h3, h4⟩
  · simp only [r_impl_reduce, r_impl_one, Option.bind_some, h1]
  · simp only [r_spec_reReduce, h2, Option.bind_some]
/-- A class form may be reduced. -/
theorem red_of_class {a b c : Int} (h : r_impl_isClassForm (a, b, c) = some true) : RedInv a b c (b * b - 4 * a * c) 1 := by
  obtain ⟨ha, hb, hc, hneg, hbig, hpos, hg⟩ := class_true h
  rw [inN_iff] at ha hb hc
  have hbb : 0 ≤ b * b := by
    rcases Int.le_total 0 b with h | h
    · exact Int.mul_nonneg h h
    · exact Int.mul_nonneg_of_nonpos_of_nonpos h h
  have hc1 : 1 ≤ c := by
    rcases Int.lt_or_le 0 c with h | h
    · exact h
    · have : 4 * a * c ≤ 4 * a * 0 := Int.mul_le_mul_of_nonneg_left h (by omega)
      omega
  refine ⟨by omega, by omega, by omega, by omega, hc1, by omega, rfl, hneg, .inr (by omega), fun k => ?_⟩
  constructor
  · rintro ⟨u1, u2, u3⟩
    have h1 : k ∣ (Int.gcd b c : Int) := Int.dvd_coe_gcd u2 u3
    have h2 : k ∣ (Int.gcd a (Int.gcd b c) : Int) := Int.dvd_coe_gcd u1 h1
    rw [hg] at h2
    exact h2
  · intro h1
    exact ⟨Int.dvd_trans h1 (Int.one_dvd _), Int.dvd_trans h1 (Int.one_dvd _), Int.dvd_trans h1 (Int.one_dvd _)⟩
end Go.Proofs.YtfmjfofocklgpaaGreatDoor
namespace Go.Proofs.YtfmjfofocklgpaaGreatDoor
set_option linter.unusedVariables false
set_option linter.unusedSimpArgs false
theorem sq_nonneg (x : Int) : 0 ≤ x * x := by
  rcases Int.le_total 0 x with h | h
  · exact Int.mul_nonneg h h
  · exact Int.mul_nonneg_of_nonpos_of_nonpos h h
theorem abs_of_sq {x : Int} {M N : Nat} (h : x * x ≤ (N : Int)) (hM : N < (M + 1) * (M + 1)) : x.natAbs ≤ M := by
  rcases Nat.lt_or_ge M x.natAbs with h1 | h1
  · have h2 : (M + 1) * (M + 1) ≤ x.natAbs * x.natAbs := Nat.mul_le_mul h1 h1
    have h3 : x * x = ((x.natAbs * x.natAbs : Nat) : Int) := Int.natAbs_mul_self.symm
    omega
  · exact h1
theorem quad_id {A B C d x y v : Int} (hd : B * B - 4 * A * C = d) (hv : A * x * x + B * x * y + C * y * y = v) : (-d) * (x * x) + (2 * C * y + B * x) * (2 * C * y + B * x) = 4 * C * v := by
  subst hd hv
  grind
theorem ent_le {A B C d x y v : Int} (hd : B * B - 4 * A * C = d) (hv : A * x * x + B * x * y + C * y * y = v) : (-d) * (x * x) ≤ 4 * C * v := by
  have h1 := quad_id hd hv
  have h2 := sq_nonneg (2 * C * y + B * x)
  omega
theorem ent_bd {A B C d x y v : Int} (hd : B * B - 4 * A * C = d) (hneg : d < 0) (hC1 : 1 ≤ C) (hC : C ≤ 1000000) (hv : A * x * x + B * x * y + C * y * y = v) (hv2 : v ≤ 1250000) : x.natAbs ≤ 2300000 := by
  have h1 := ent_le hd hv
  have h2 : 1 * (x * x) ≤ (-d) * (x * x) := Int.mul_le_mul_of_nonneg_right (by omega) (sq_nonneg x)
  have h3 : 4 * C * v ≤ 4 * C * 1250000 := Int.mul_le_mul_of_nonneg_left hv2 (by omega)
  exact abs_of_sq (N := 5000000000000) (by omega) (by decide)
/-- What the matrix makes of the form at the beginning. -/
structure MatInv (A B C p q r s a b c : Int) : Prop where
  e1 : A * p * p + B * p * r + C * r * r = a
  e2 : 2 * A * p * q + B * (p * s + q * r) + 2 * C * r * s = b
  e3 : A * q * q + B * q * s + C * s * s = c
  dt : p * s - q * r = 1
theorem MatInv.swap {A B C p q r s a b c : Int} (h : MatInv A B C p q r s a b c) : MatInv A B C q (-p) s (-r) c (-b) a := by
  obtain ⟨e1, e2, e3, dt⟩ := h
  exact ⟨e3, by grind, by grind, by grind⟩
theorem MatInv.norm {A B C p q r s a b c : Int} (t : Int) (h : MatInv A B C p q r s a b c) : MatInv A B C p (p * t + q) r (r * t + s) a (2 * a * t + b) (a * t * t + b * t + c) := by
  obtain ⟨e1, e2, e3, dt⟩ := h
  exact ⟨e1, by grind, by grind, by grind⟩
theorem step_cases {a b c d g : Int} (h : RedInv a b c d g) (hr : ¬ IsRed a b c) : r_impl_Form_step (a, b, c) = some (0, -1, 1, 0) ∨ ∃ t, -1000001 ≤ t ∧ t ≤ 1000000 ∧ r_impl_Form_step (a, b, c) = some (1, t, 0, 1) := by
  obtain ⟨a1, aM, b1, b2, c1, cM, dis, neg, nrm, con⟩ := h
  have hn : r_impl_Form_isNormal (a, b, c) = some (decide (-a < b ∧ b ≤ a)) := by
    simp only [r_impl_Form_isNormal, Option.bind_some, ltI_eq, leI_eq]
    rw [zL (by omega)]
    by_cases h1 : -a < b <;> by_cases h2 : b ≤ a <;> simp [h1, h2]
    all_goals omega
  by_cases hN : -a < b ∧ b ≤ a
  · left
    simp only [r_impl_Form_step, red_is a1 aM, hn, Option.bind_some, decide_eq_false hr, decide_eq_true hN]
    rfl
  · right
    have hf := dsc_floor_val (a := a - b) (m := 2 * a) (by omega) (by omega) (by omega) (by omega)
    have e1 := Int.emod_nonneg (a - b) (b := 2 * a) (by omega)
    have e2 := Int.emod_lt_of_pos (a - b) (b := 2 * a) (by omega)
    have e3 := Int.emod_add_mul_ediv (a - b) (2 * a)
    generalize hs : (a - b) / (2 * a) = s at *
    generalize hq : (a - b) % (2 * a) = q at *
    have hs1 : s ≤ 1000000 := by
      rcases Int.lt_or_le 1000000 s with h | h
      · have : 2 * a * 1000001 ≤ 2 * a * s := Int.mul_le_mul_of_nonneg_left (by omega) (by omega)
        omega
      · exact h
    have hs2 : -1000001 ≤ s := by
      rcases Int.lt_or_le s (-1000001) with h | h
      · have : 2 * a * s ≤ 2 * a * (-1000002) := Int.mul_le_mul_of_nonneg_left (by omega) (by omega)
        omega
      · exact h
    refine ⟨s, hs2, hs1, ?_⟩
    simp only [r_impl_Form_step, red_is a1 aM, hn, Option.bind_some, decide_eq_false hr, decide_eq_false hN, cond_false, Bool.not_false, cond_true]
    rw [zL (n := a - b) (by omega), zL (n := 2 * a) (by omega), hf]
    rfl
theorem times_swap {p q r s : Int} (hp : p.natAbs ≤ 2300000) (hq : q.natAbs ≤ 2300000) (hr : r.natAbs ≤ 2300000) (hs : s.natAbs ≤ 2300000) : r_impl_Matrix_times (p, q, r, s) (0, -1, 1, 0) = some (q, -p, s, -r) := by
  simp only [r_impl_Matrix_times, sI_eq, Int.mul_zero, Int.mul_one]
  have e : ∀ x : Int, x * -1 = -x := fun x => by omega
  rw [e p, e r, zL (n := 0) (by omega), zL (n := q) (by omega), zL (n := -p) (by omega), zL (n := s) (by omega), zL (n := -r) (by omega), zL (n := 0 + q) (by omega), zL (n := -p + 0) (by omega), zL (n := 0 + s) (by omega), zL (n := -r + 0) (by omega)]
  simp
theorem times_norm {p q r s t : Int} (hp : p.natAbs ≤ 2300000) (hq : q.natAbs ≤ 2300000) (hr : r.natAbs ≤ 2300000) (hs : s.natAbs ≤ 2300000) (ht : t.natAbs ≤ 1000001) : r_impl_Matrix_times (p, q, r, s) (1, t, 0, 1) = some (p, p * t + q, r, r * t + s) := by
  have m1 := abs_mul hp ht
  have m2 := abs_mul hr ht
  simp only [r_impl_Matrix_times, sI_eq, Int.mul_zero, Int.mul_one]
  rw [zL (n := 0) (by omega), zL (n := q) (by omega), zL (n := p) (by omega), zL (n := s) (by omega), zL (n := r) (by omega), zL (n := p * t) (by omega), zL (n := r * t) (by omega), zL (n := p + 0) (by omega), zL (n := p * t + q) (by omega), zL (n := r + 0) (by omega), zL (n := r * t + s) (by omega)]
  simp
/-- The loops end alike, and the matrix is known. -/
theorem mat_run {A B C : Int} (hA1 : 1 ≤ A) (hA : A ≤ 1000000) (hC1 : 1 ≤ C) (hC : C ≤ 1000000) : ∀ (n : Nat) (a b c d g p q r s : Int), B * B - 4 * A * C = d → RedInv a b c d g → MatInv A B C p q r s a b c → 4 * a + (if -a < b ∧ b ≤ a then 0 else 2) + (if IsRed a b c then 0 else 1) ≤ (n : Int) →
    ∃ m1 m2 m3 m4 a2 b2 c2, r_impl_reduce_L10 n p q r s a b c = some (m1, m2, m3, m4, a2, b2, c2) ∧ RedInv a2 b2 c2 d g ∧ IsRed a2 b2 c2 ∧ MatInv A B C m1 m2 m3 m4 a2 b2 c2
  | 0, a, b, c, d, g, p, q, r, s, hd, h, hv, hm => by
    have := h.a1
    split at hm <;> split at hm <;> omega
  | n + 1, a, b, c, d, g, p, q, r, s, hd, h, hv, hm => by
    unfold r_impl_reduce_L10
    rw [red_is h.a1 h.aM]
    by_cases hr : IsRed a b c
    · refine ⟨p, q, r, s, a, b, c, ?_, h, hr, hv⟩
      simp [hr]
    · obtain ⟨m, a2, b2, c2, h1, h2, h3, h4⟩ := red_step h hr
      have hdS : B * B - 4 * C * A = d := by rw [← hd]; grind
      have bp := ent_bd hd h.neg hC1 hC hv.e1 (by have := h.aM; omega)
      have bq := ent_bd hd h.neg hC1 hC hv.e3 h.cM
      have br := ent_bd (A := C) (C := A) (x := r) (y := p) hdS h.neg hA1 hA (v := a) (by have := hv.e1; grind) (by have := h.aM; omega)
      have bs := ent_bd (A := C) (C := A) (x := s) (y := q) hdS h.neg hA1 hA (v := c) (by have := hv.e3; grind) h.cM
      have e1 : (!decide (IsRed a b c)) = true := by simp [hr]
      have hmeas : 4 * a2 + (if -a2 < b2 ∧ b2 ≤ a2 then 0 else 2) + (if IsRed a2 b2 c2 then 0 else 1) ≤ (n : Int) := by
        rcases h4 with ⟨g1, g2, g3⟩ | ⟨g1, g2⟩ | ⟨g1, g2, g3⟩
        · rw [if_neg g1, if_neg hr] at hm
          rw [if_pos g3]
          split <;> omega
        · rw [if_pos g1, if_neg hr] at hm
          split <;> split <;> omega
        · rw [if_pos g1, if_neg hr] at hm
          rw [if_pos g2.1, if_pos g2]
          omega
      have ha := h.a1
      have hb1 := h.b1
      have hb2 := h.b2
      have haM := h.aM
      have hc1 := h.c1
      have hcM := h.cM
      rcases step_cases h hr with hs | ⟨t, t1, t2, hs⟩
      · rw [hs] at h1
        have hm0 := zB h1
        subst hm0
        have hsub := dsc_act_swap (a := a) (b := b) (c := c) (by omega) (by omega) (by omega)
        rw [hsub] at h2
        obtain ⟨ea, hbc⟩ := Prod.mk.inj (zB h2)
        obtain ⟨eb, ec⟩ := Prod.mk.inj hbc
        rw [← ea, ← eb, ← ec] at h3 hmeas
        simp only [Option.bind_some, hs, hsub, times_swap bp bq br bs, e1, cond_true]
        exact mat_run hA1 hA hC1 hC n _ _ _ d g _ _ _ _ hd h3 hv.swap hmeas
      · rw [hs] at h1
        have hm0 := zB h1
        subst hm0
        have hsub := dsc_act_norm (a := a) (b := b) (c := c) (s := t) (by omega) (by omega) (by omega) (by omega)
        rw [hsub] at h2
        obtain ⟨ea, hbc⟩ := Prod.mk.inj (zB h2)
        obtain ⟨eb, ec⟩ := Prod.mk.inj hbc
        rw [← ea, ← eb, ← ec] at h3 hmeas
        simp only [Option.bind_some, hs, hsub, times_norm bp bq br bs (t := t) (by omega), e1, cond_true]
        exact mat_run hA1 hA hC1 hC n _ _ _ d g _ _ _ _ hd h3 (hv.norm t) hmeas
theorem red_small {A B C d x y v a b c : Int} (hd : B * B - 4 * A * C = d) (hC1 : 1 ≤ C) (hC : C ≤ 1000000) (hdis : b * b - 4 * a * c = d) (hred : IsRed a b c) (ha : 1 ≤ a) (hv : A * x * x + B * x * y + C * y * y = v) (hv2 : v = a ∨ v = c) : x.natAbs ≤ 2000 := by
  have h1 := ent_le hd hv
  obtain ⟨⟨b1, b2⟩, hr⟩ := hred
  have hac : a ≤ c := by omega
  have hbb : b * b ≤ a * a := by
    have := abs_mul (x := b) (y := b) (A := a.natAbs) (B := a.natAbs) (by omega) (by omega)
    have h2 : (b * b).natAbs ≤ (a * a).natAbs := by rw [Int.natAbs_mul a a]; exact this
    have h3 := sq_nonneg a
    have h4 := sq_nonneg b
    omega
  have haa : a * a ≤ a * c := Int.mul_le_mul_of_nonneg_left hac (by omega)
  have hD : 3 * (a * c) ≤ -d := by
    have : 4 * a * c = 4 * (a * c) := by rw [Int.mul_assoc]
    omega
  have hxx := sq_nonneg x
  have h5 : 3 * (a * c) * (x * x) ≤ (-d) * (x * x) := Int.mul_le_mul_of_nonneg_right hD hxx
  have h6 : 4 * C * v ≤ 4000000 * v := Int.mul_le_mul_of_nonneg_right (by omega) (by omega)
  have h7 : 3 * (a * c) * (x * x) ≤ 4000000 * v := by omega
  -- divide by v
  have h8 : 3 * (x * x) ≤ 4000000 := by
    rcases Int.lt_or_le 4000000 (3 * (x * x)) with h | h
    · exfalso
      rcases hv2 with rfl | rfl
      · have h9 : v * (3 * (x * x)) ≤ v * (3 * (c * (x * x))) := Int.mul_le_mul_of_nonneg_left (by
          have : 1 * (x * x) ≤ c * (x * x) := Int.mul_le_mul_of_nonneg_right (by omega) hxx
          omega) (by omega)
        have h10 : v * (3 * (c * (x * x))) = 3 * (v * c) * (x * x) := by grind
        have h11 : v * 4000001 ≤ v * (3 * (x * x)) := Int.mul_le_mul_of_nonneg_left (by omega) (by omega)
        omega
      · have h9 : v * (3 * (x * x)) ≤ v * (3 * (a * (x * x))) := Int.mul_le_mul_of_nonneg_left (by
          have : 1 * (x * x) ≤ a * (x * x) := Int.mul_le_mul_of_nonneg_right (by omega) hxx
          omega) (by omega)
        have h10 : v * (3 * (a * (x * x))) = 3 * (a * v) * (x * x) := by grind
        have h11 : v * 4000001 ≤ v * (3 * (x * x)) := Int.mul_le_mul_of_nonneg_left (by omega) (by omega)
        omega
    · exact h
  exact abs_of_sq (N := 1333334) (by omega) (by decide)
/-- Reducing, with the matrix. -/
theorem red_full {a b c g : Int} (hi : RedInv a b c (b * b - 4 * a * c) g) (hcM : c ≤ 1000000) : ∃ m1 m2 m3 m4 a2 b2 c2, r_impl_reduce (a, b, c) = some ((a2, b2, c2), (m1, m2, m3, m4)) ∧ r_spec_reReduce (a, b, c) = some ((a2, b2, c2), (m1, m2, m3, m4)) ∧ RedInv a2 b2 c2 (b * b - 4 * a * c) g ∧ IsRed a2 b2 c2 ∧ MatInv a b c m1 m2 m3 m4 a2 b2 c2 ∧ m1.natAbs ≤ 2000 ∧ m2.natAbs ≤ 2000 ∧ m3.natAbs ≤ 2000 ∧ m4.natAbs ≤ 2000 := by
  obtain ⟨m, a2, b2, c2, k1, k2, k3, k4⟩ := red_both hi
  obtain ⟨m1, m2, m3, m4, a3, b3, c3, q1, q2, q3, q4⟩ := mat_run (B := b) hi.a1 hi.aM hi.c1 hcM FU a b c _ g 1 0 0 1 rfl hi ⟨by grind, by grind, by grind, by decide⟩ (by
    have e : ((FU : Nat) : Int) = 1000000000 := rfl
    rw [e]
    have := hi.aM
    split <;> split <;> omega)
  have k1' : r_impl_reduce (a, b, c) = some ((a3, b3, c3), (m1, m2, m3, m4)) := by
    simp only [r_impl_reduce, r_impl_one, Option.bind_some, q1]
  rw [k1] at k1'
  have e := zB k1'
  obtain ⟨e1, rfl⟩ := Prod.mk.inj e
  obtain ⟨rfl, e2⟩ := Prod.mk.inj e1
  obtain ⟨rfl, rfl⟩ := Prod.mk.inj e2
  have hdS : b * b - 4 * c * a = b * b - 4 * a * c := by grind
  have s1 := red_small (A := a) (B := b) (C := c) (x := m1) (y := m3) rfl hi.c1 hcM q2.dis q3 q2.a1 q4.e1 (.inl rfl)
  have s2 := red_small (A := a) (B := b) (C := c) (x := m2) (y := m4) rfl hi.c1 hcM q2.dis q3 q2.a1 q4.e3 (.inr rfl)
  have s3 := red_small (A := c) (B := b) (C := a) (x := m3) (y := m1) (v := a2) hdS hi.a1 hi.aM q2.dis q3 q2.a1 (by have := q4.e1; grind) (.inl rfl)
  have s4 := red_small (A := c) (B := b) (C := a) (x := m4) (y := m2) (v := c2) hdS hi.a1 hi.aM q2.dis q3 q2.a1 (by have := q4.e3; grind) (.inr rfl)
  exact ⟨m1, m2, m3, m4, a2, b2, c2, k1, k2, q2, q3, q4, s1, s2, s3, s4⟩
end Go.Proofs.YtfmjfofocklgpaaGreatDoor
namespace Go.Proofs.YtfmjfofocklgpaaGreatDoor
set_option linter.unusedVariables false
set_option linter.unusedSimpArgs false
def bv (x : Int) : BitVec 64 := BitVec.ofInt 64 x
theorem w64_bv (x : Int) : w64 x = (bv x).toInt := by
  rw [w64_eq, bv, BitVec.toInt_ofInt, IntKind.wrap_i64, Int.bmod_def]
  omega
theorem bv_w64 (x : Int) : bv (w64 x) = bv x := by
  rw [w64_bv]
  unfold bv
  rw [BitVec.ofInt_toInt]
theorem w64_congr {x y : Int} (h : bv x = bv y) : w64 x = w64 y := by rw [w64_bv, w64_bv, h]
theorem bv_add (x y : Int) : bv (x + y) = bv x + bv y := BitVec.ofInt_add x y
theorem bv_mul (x y : Int) : bv (x * y) = bv x * bv y := BitVec.ofInt_mul x y
theorem bv_sub (x y : Int) : bv (x - y) = bv x - bv y := by
  rw [Int.sub_eq_add_neg, bv_add]
  unfold bv
  rw [BitVec.ofInt_neg, BitVec.sub_eq_add_neg]
theorem wml (x y : Int) : w64 (w64 x * y) = w64 (x * y) := w64_congr (by rw [bv_mul, bv_mul, bv_w64])
theorem wmr (x y : Int) : w64 (x * w64 y) = w64 (x * y) := w64_congr (by rw [bv_mul, bv_mul, bv_w64])
theorem wal (x y : Int) : w64 (w64 x + y) = w64 (x + y) := w64_congr (by rw [bv_add, bv_add, bv_w64])
theorem war (x y : Int) : w64 (x + w64 y) = w64 (x + y) := w64_congr (by rw [bv_add, bv_add, bv_w64])
theorem wsl (x y : Int) : w64 (w64 x - y) = w64 (x - y) := w64_congr (by rw [bv_sub, bv_sub, bv_w64])
theorem wsr (x y : Int) : w64 (x - w64 y) = w64 (x - y) := w64_congr (by rw [bv_sub, bv_sub, bv_w64])
theorem at_w (a b c x y : Int) : r_impl_Form_at (a, b, c) x y = some (w64 (a * x * x + b * x * y + c * y * y)) := by
  simp only [r_impl_Form_at, sI_eq, wml, wmr, wal, war, wsl, wsr]
theorem polar_w (a b c x y u v : Int) : r_impl_Form_polar (a, b, c) x y u v = some (w64 (2 * a * x * u + b * (x * v + y * u) + 2 * c * y * v)) := by
  simp only [r_impl_Form_polar, sI_eq, wml, wmr, wal, war, wsl, wsr]
theorem sub_w (a b c p q r s : Int) : zX (a, b, c) (p, q, r, s) = some (w64 (a * p * p + b * p * r + c * r * r), w64 (2 * a * p * q + b * (p * s + r * q) + 2 * c * r * s), w64 (a * q * q + b * q * s + c * s * s)) := by
  simp only [zX, at_w, polar_w, Option.bind_some]
theorem times_w (p q r s p' q' r' s' : Int) : r_impl_Matrix_times (p, q, r, s) (p', q', r', s') = some (w64 (p * p' + q * r'), w64 (p * q' + q * s'), w64 (r * p' + s * r'), w64 (r * q' + s * s')) := by
  simp only [r_impl_Matrix_times, sI_eq, wml, wmr, wal, war, wsl, wsr]
theorem disc_w (a b c : Int) : r_impl_Form_disc (a, b, c) = some (w64 (b * b - 4 * a * c)) := by
  simp only [r_impl_Form_disc, sI_eq, wml, wmr, wal, war, wsl, wsr]
end Go.Proofs.YtfmjfofocklgpaaGreatDoor
namespace Go.Proofs.YtfmjfofocklgpaaGreatDoor
set_option linter.unusedVariables false
set_option linter.unusedSimpArgs false
def ptG (a A B C x y : Nat) : Bool := Nat.beq (Nat.gcd (Nat.add (Nat.add (Nat.mul A (Nat.mul x x)) (Nat.mul B (Nat.mul x y))) (Nat.mul C (Nat.mul y y))) a) 1
def ptA (a A B C : Nat) : Bool := bif ptG a A B C 0 1 then true else bif ptG a A B C 1 0 then true else bif ptG a A B C 1 1 then true else bif ptG a A B C 1 2 then true else bif ptG a A B C 2 1 then true else bif ptG a A B C 1 3 then true else bif ptG a A B C 2 3 then true else bif ptG a A B C 3 1 then true else ptG a A B C 3 2
def ptC (a A B : Nat) : Nat → Bool
  | 0 => true
  | k + 1 => bif (bif Nat.beq (Nat.gcd (Nat.gcd A B) (Nat.gcd k a)) 1 then ptA a A B k else true) then ptC a A B k else false
def ptB (a A : Nat) : Nat → Bool
  | 0 => true
  | k + 1 => bif ptC a A k a then ptB a A k else false
def ptD (a : Nat) : Nat → Bool
  | 0 => true
  | k + 1 => bif ptB a k a then ptD a k else false
def ptE : Nat → Bool
  | 0 => true
  | k + 1 => bif ptD (Nat.succ k) (Nat.succ k) then ptE k else false
theorem ptE_ok : ptE 25 = true := by decide +kernel
theorem bif_and {a b : Bool} (h : (bif a then b else false) = true) : a = true ∧ b = true := by cases a <;> simp_all
theorem ptC_all {a A B : Nat} : ∀ k, ptC a A B k = true → ∀ C, C < k → Nat.gcd (Nat.gcd A B) (Nat.gcd C a) = 1 → ptA a A B C = true
  | 0, _, C, hC, _ => by omega
  | k + 1, h, C, hC, hg => by
    obtain ⟨h1, h2⟩ := bif_and h
    by_cases e : C = k
    · subst e
      have : Nat.beq (Nat.gcd (Nat.gcd A B) (Nat.gcd C a)) 1 = true := by rw [Nat.beq_eq]; exact hg
      rw [this, cond_true] at h1
      exact h1
    · exact ptC_all k h2 C (by omega) hg
theorem ptB_all {a A : Nat} : ∀ k, ptB a A k = true → ∀ B, B < k → ptC a A B a = true
  | 0, _, C, hC => by omega
  | k + 1, h, C, hC => by
    obtain ⟨h1, h2⟩ := bif_and h
    by_cases e : C = k
    · subst e; exact h1
    · exact ptB_all k h2 C (by omega)
theorem ptD_all {a : Nat} : ∀ k, ptD a k = true → ∀ A, A < k → ptB a A a = true
  | 0, _, C, hC => by omega
  | k + 1, h, C, hC => by
    obtain ⟨h1, h2⟩ := bif_and h
    by_cases e : C = k
    · subst e; exact h1
    · exact ptD_all k h2 C (by omega)
theorem ptE_all : ∀ k, ptE k = true → ∀ a, a < k → ptD (a + 1) (a + 1) = true
  | 0, _, C, hC => by omega
  | k + 1, h, C, hC => by
    obtain ⟨h1, h2⟩ := bif_and h
    by_cases e : C = k
    · subst e; exact h1
    · exact ptE_all k h2 C (by omega)
theorem pt_nat {a A B C : Nat} (h1 : 1 ≤ a) (h2 : a ≤ 25) (hA : A < a) (hB : B < a) (hC : C < a) (hg : Nat.gcd (Nat.gcd A B) (Nat.gcd C a) = 1) : ptA a A B C = true := by
  have e := ptE_all 25 ptE_ok (a - 1) (by omega)
  rw [show a - 1 + 1 = a by omega] at e
  exact ptC_all a (ptB_all a (ptD_all a e A hA) B hB) C hC hg
def ptL : List (Int × Int) := [(0, 1), (1, 0), (1, 1), (1, 2), (2, 1), (1, 3), (2, 3), (3, 1), (3, 2)]
theorem gcd_of' {g x y : Int} (h : ∀ c : Int, c ∣ g → (c ∣ x ↔ c ∣ y)) : Int.gcd g x = Int.gcd g y := by
  refine Nat.dvd_antisymm ?_ ?_ <;> apply Int.natCast_dvd_natCast.1
  · exact Int.dvd_coe_gcd (Int.gcd_dvd_left _ _) ((h _ (Int.gcd_dvd_left _ _)).1 (Int.gcd_dvd_right _ _))
  · exact Int.dvd_coe_gcd (Int.gcd_dvd_left _ _) ((h _ (Int.gcd_dvd_left _ _)).2 (Int.gcd_dvd_right _ _))
theorem gcd_mod {v a : Int} {n : Nat} (ha : 1 ≤ a) (hn : a ∣ v - (n : Int)) : Int.gcd v a = Nat.gcd n a.toNat := by
  obtain ⟨k, hk⟩ := hn
  have e : v = (n : Int) + a * k := by omega
  rw [e, Int.gcd_comm, gcd_of' (y := (n : Int)) (fun c hc => by
    obtain ⟨j, hj⟩ := hc
    constructor
    · rintro ⟨i, hi⟩; exact ⟨i - j * k, by rw [Int.mul_sub, ← Int.mul_assoc, ← hj]; omega⟩
    · rintro ⟨i, hi⟩; exact ⟨i + j * k, by rw [Int.mul_add, ← Int.mul_assoc, ← hj]; omega⟩), Int.gcd_comm]
  unfold Int.gcd
  rw [Int.natAbs_natCast]
  congr 1
  omega
theorem emod_nat {x a : Int} (ha : 1 ≤ a) : a ∣ x - ((x % a).toNat : Int) ∧ (x % a).toNat < a.toNat := by
  have h1 := Int.emod_nonneg x (b := a) (by omega)
  have h2 := Int.emod_lt_of_pos x (b := a) (by omega)
  have h3 := Int.emod_add_mul_ediv x a
  exact ⟨⟨x / a, by omega⟩, by omega⟩
theorem pt_ex {a A B C : Int} (h1 : 1 ≤ a) (h2 : a ≤ 25) (hp : ∀ k : Int, k ∣ A → k ∣ B → k ∣ C → k ∣ 1) : ∃ p, p ∈ ptL ∧ Int.gcd (A * p.1 * p.1 + B * p.1 * p.2 + C * p.2 * p.2) a = 1 := by
  obtain ⟨a1, a2⟩ := emod_nat (x := A) h1
  obtain ⟨b1, b2⟩ := emod_nat (x := B) h1
  obtain ⟨c1, c2⟩ := emod_nat (x := C) h1
  generalize (A % a).toNat = A' at *
  generalize (B % a).toNat = B' at *
  generalize (C % a).toNat = C' at *
  have hg : Nat.gcd (Nat.gcd A' B') (Nat.gcd C' a.toNat) = 1 := by
    generalize hG : Nat.gcd (Nat.gcd A' B') (Nat.gcd C' a.toNat) = G
    have g1 : G ∣ A' := hG ▸ Nat.dvd_trans (Nat.gcd_dvd_left _ _) (Nat.gcd_dvd_left _ _)
    have g2 : G ∣ B' := hG ▸ Nat.dvd_trans (Nat.gcd_dvd_left _ _) (Nat.gcd_dvd_right _ _)
    have g3 : G ∣ C' := hG ▸ Nat.dvd_trans (Nat.gcd_dvd_right _ _) (Nat.gcd_dvd_left _ _)
    have g4 : G ∣ a.toNat := hG ▸ Nat.dvd_trans (Nat.gcd_dvd_right _ _) (Nat.gcd_dvd_right _ _)
    have g5 : (G : Int) ∣ a := by
      have : ((a.toNat : Nat) : Int) = a := by omega
      rw [← this]; exact Int.natCast_dvd_natCast.2 g4
    have up : ∀ {X : Int} {X' : Nat}, a ∣ X - (X' : Int) → G ∣ X' → (G : Int) ∣ X := by
      intro X X' u1 u2
      obtain ⟨i, hi⟩ := Int.dvd_trans g5 u1
      obtain ⟨j, hj⟩ := Int.natCast_dvd_natCast.2 u2
      exact ⟨i + j, by rw [Int.mul_add]; omega⟩
    have h := hp G (up a1 g1) (up b1 g2) (up c1 g3)
    have := Int.natCast_dvd_natCast.1 (show (G : Int) ∣ ((1 : Nat) : Int) from h)
    exact Nat.dvd_one.1 this
  have k := pt_nat (by omega) (by omega) a2 b2 c2 hg
  have fin : ∀ x y : Nat, ((x : Int), (y : Int)) ∈ ptL → ptG a.toNat A' B' C' x y = true → ∃ p, p ∈ ptL ∧ Int.gcd (A * p.1 * p.1 + B * p.1 * p.2 + C * p.2 * p.2) a = 1 := by
    intro x y hm hG
    refine ⟨_, hm, ?_⟩
    have e := Nat.eq_of_beq_eq_true hG
    rw [← e]
    refine gcd_mod h1 ?_
    obtain ⟨i, hi⟩ := a1
    obtain ⟨j, hj⟩ := b1
    obtain ⟨l, hl⟩ := c1
    refine ⟨i * (x * x) + j * (x * y) + l * (y * y), ?_⟩
    have eA : A = a * i + A' := by omega
    have eB : B = a * j + B' := by omega
    have eC : C = a * l + C' := by omega
    have e3 : ((((A'.mul (x.mul x)).add (B'.mul (x.mul y))).add (C'.mul (y.mul y)) : Nat) : Int) = A' * (x * x) + B' * (x * y) + C' * (y * y) := by
      simp only [Nat.add_eq, Nat.mul_eq, Int.natCast_add, Int.natCast_mul]
    rw [e3, eA, eB, eC]
    simp only []
    grind
  unfold ptA at k
  by_cases e1 : ptG a.toNat A' B' C' 0 1 = true; · exact fin 0 1 (by decide) e1
  by_cases e2 : ptG a.toNat A' B' C' 1 0 = true; · exact fin 1 0 (by decide) e2
  by_cases e3 : ptG a.toNat A' B' C' 1 1 = true; · exact fin 1 1 (by decide) e3
  by_cases e4 : ptG a.toNat A' B' C' 1 2 = true; · exact fin 1 2 (by decide) e4
  by_cases e5 : ptG a.toNat A' B' C' 2 1 = true; · exact fin 2 1 (by decide) e5
  by_cases e6 : ptG a.toNat A' B' C' 1 3 = true; · exact fin 1 3 (by decide) e6
  by_cases e7 : ptG a.toNat A' B' C' 2 3 = true; · exact fin 2 3 (by decide) e7
  by_cases e8 : ptG a.toNat A' B' C' 3 1 = true; · exact fin 3 1 (by decide) e8
  rw [Bool.not_eq_true] at e1 e2 e3 e4 e5 e6 e7 e8
  rw [e1, e2, e3, e4, e5, e6, e7, e8] at k
  simp only [cond_false] at k
  exact fin 3 2 (by decide) k
end Go.Proofs.YtfmjfofocklgpaaGreatDoor
namespace Go.Proofs.YtfmjfofocklgpaaGreatDoor
set_option linter.unusedVariables false
set_option linter.unusedSimpArgs false
/-- Coefficients of a reduced form. -/
structure Rb (A B C : Int) : Prop where
  a1 : 1 ≤ A
  a2 : A ≤ 26
  b1 : -26 ≤ B
  b2 : B ≤ 26
  c1 : 1 ≤ C
  c2 : C ≤ 1000
def Vl (A B C x y : Int) : Int := A * x * x + B * x * y + C * y * y
def Gd (a A B C s x y : Int) : Prop := mxI x y = s ∧ Int.gcd x y = 1 ∧ Int.gcd (Vl A B C x y) a = 1
theorem mx_val (x y : Int) : mxI x y = max x y := by
  unfold mxI
  rw [ltI_eq]
  by_cases h : x < y
  · rw [decide_eq_true h, cond_true]; omega
  · rw [decide_eq_false h, cond_false]; omega
theorem most_eq (x y : Int) : r_spec_l1Most x y = some (mxI x y) := by
  unfold r_spec_l1Most mxI
  rw [ltI_eq, ltI_eq]
  by_cases h : x < y
  · rw [decide_eq_true h, decide_eq_false (show ¬ y < x by omega)]; rfl
  · rw [decide_eq_false h]
    by_cases h2 : y < x
    · rw [decide_eq_true h2]; rfl
    · rw [decide_eq_false h2, show x = y by omega]; rfl
theorem vl_bd {A B C x y : Int} (h : Rb A B C) (hx : 0 ≤ x) (hx2 : x ≤ 3) (hy : 0 ≤ y) (hy2 : y ≤ 3) : (Vl A B C x y).natAbs ≤ 10000 := by
  obtain ⟨a1, a2, b1, b2, c1, c2⟩ := h
  have m1 : (A * x * x).natAbs ≤ 26 * 3 * 3 := abs_mul (abs_mul (by omega) (by omega)) (by omega)
  have m2 : (B * x * y).natAbs ≤ 26 * 3 * 3 := abs_mul (abs_mul (by omega) (by omega)) (by omega)
  have m3 : (C * y * y).natAbs ≤ 1000 * 3 * 3 := abs_mul (abs_mul (by omega) (by omega)) (by omega)
  unfold Vl
  omega
theorem fp11 {a A B C s x : Int} (h : Rb A B C) (ha : 1 ≤ a) (ha2 : a ≤ 100) (hx : 0 ≤ x) (hxs : x ≤ s) (hs : s ≤ 3) : ∀ (n : Nat) (y : Int), 0 ≤ y → y ≤ s + 1 → (s + 1 - y).toNat < n →
    ∃ r, r_impl_firstPoint_L11 a (A, B, C) s x n y = some r ∧ r_spec_coPoint_L12 a (A, B, C) s x n y = some r ∧ (r = .inl () → ∀ y', y ≤ y' → y' ≤ s → ¬ Gd a A B C s x y') ∧ (∀ p, r = .inr p → p.1 = x ∧ 0 ≤ p.2 ∧ p.2 ≤ s ∧ Gd a A B C s x p.2)
  | 0, y, h0, h1, hn => by omega
  | n + 1, y, h0, h1, hn => by
    rw [r_impl_firstPoint_L11, r_spec_coPoint_L12, leI_eq]
    by_cases hy : y ≤ s
    · rw [decide_eq_true hy, cond_true, cond_true]
      have hb := vl_bd (x := x) (y := y) h hx (by omega) h0 (by omega)
      have hv : w64 (A * x * x + B * x * y + C * y * y) = Vl A B C x y := w64_abs (by unfold Vl at hb; omega)
      have e1 : r_spec_foValue (A, B, C) x y = some (Vl A B C x y) := by rw [dsc_value, at_w, hv]
      rw [at_w, hv, e1, most_eq]
      simp only [Option.bind_some]
      rw [gcd_val (a := x) (b := y) (by omega) (by omega), sgcd_val (a := x) (b := y) (by omega) (by omega), gcd_val (b := a) (by omega) (by omega), sgcd_val (b := a) (by omega) (by omega)]
      simp only [Option.bind_some]
      by_cases hG : Gd a A B C s x y
      · obtain ⟨g1, g2, g3⟩ := hG
        rw [g1, g2, g3, eqI_true]
        simp only [cond_true, Int.natCast_one, eqI_true, Option.bind_some]
        refine ⟨_, rfl, rfl, fun e => (by cases e), fun p e => ?_⟩
        cases e
        exact ⟨rfl, h0, hy, g1, g2, g3⟩
      · have hc : ∀ {α : Type} (u v : Option α), ((bif eqI (mxI x y) s then some (eqI ((Int.gcd x y : Nat) : Int) 1) else some false).bind fun b16 => (bif b16 then some (eqI ((Int.gcd (Vl A B C x y) a : Nat) : Int) 1) else some false).bind fun b20 => bif b20 then u else v) = v := by
          intro α u v
          by_cases g1 : mxI x y = s
          · rw [g1, eqI_true, cond_true, Option.bind_some]
            by_cases g2 : Int.gcd x y = 1
            · rw [g2, show ((1 : Nat) : Int) = 1 from rfl, eqI_true, cond_true, Option.bind_some]
              have g3 : ¬ Int.gcd (Vl A B C x y) a = 1 := fun g3 => hG ⟨g1, g2, g3⟩
              rw [eqI_false (show ((Int.gcd (Vl A B C x y) a : Nat) : Int) ≠ 1 by omega), cond_false]
            · rw [eqI_false (show ((Int.gcd x y : Nat) : Int) ≠ 1 by omega), cond_false, Option.bind_some, cond_false]
          · rw [eqI_false g1, cond_false, Option.bind_some, cond_false, Option.bind_some, cond_false]
        rw [hc, hc]
        simp only [sI_eq]
        rw [zL (n := y + 1) (by omega)]
        obtain ⟨r, k1, k2, k3, k4⟩ := fp11 h ha ha2 hx hxs hs n (y + 1) (by omega) (by omega) (by omega)
        refine ⟨r, k1, k2, fun e y' u1 u2 => ?_, k4⟩
        by_cases e2 : y' = y
        · rw [e2]; exact hG
        · exact k3 e y' (by omega) u2
    · rw [decide_eq_false hy, cond_false, cond_false]
      refine ⟨_, rfl, rfl, fun _ y' u1 u2 => by omega, fun p e => by cases e⟩
theorem fp7 {a A B C s : Int} (h : Rb A B C) (ha : 1 ≤ a) (ha2 : a ≤ 100) (hs0 : 0 ≤ s) (hs : s ≤ 3) : ∀ (n : Nat) (x : Int), 0 ≤ x → x ≤ s + 1 → (s + 1 - x).toNat < n →
    ∃ r, r_impl_firstPoint_L7 a (A, B, C) s n x = some r ∧ r_spec_coPoint_L8 a (A, B, C) s n x = some r ∧ (r = .inl () → ∀ x' y', x ≤ x' → x' ≤ s → 0 ≤ y' → y' ≤ s → ¬ Gd a A B C s x' y') ∧ (∀ p, r = .inr p → 0 ≤ p.1 ∧ p.1 ≤ s ∧ 0 ≤ p.2 ∧ p.2 ≤ s ∧ Gd a A B C s p.1 p.2)
  | 0, x, h0, h1, hn => by omega
  | n + 1, x, h0, h1, hn => by
    have hF := FUge
    rw [r_impl_firstPoint_L7, r_spec_coPoint_L8, leI_eq]
    by_cases hx : x ≤ s
    · rw [decide_eq_true hx, cond_true, cond_true]
      obtain ⟨r, k1, k2, k3, k4⟩ := fp11 h ha ha2 h0 hx hs FU 0 (by omega) (by omega) (by omega)
      rw [k1, k2]
      simp only [Option.bind_some]
      cases r with
      | inr p =>
        obtain ⟨q1, q2, q3, q4⟩ := k4 p rfl
        refine ⟨_, rfl, rfl, fun e => (by cases e), fun p' e => ?_⟩
        cases e
        rw [q1]
        exact ⟨h0, hx, q2, q3, q4⟩
      | inl u =>
        simp only [sI_eq]
        rw [zL (n := x + 1) (by omega)]
        obtain ⟨r, j1, j2, j3, j4⟩ := fp7 h ha ha2 hs0 hs n (x + 1) (by omega) (by omega) (by omega)
        refine ⟨r, j1, j2, fun e x' y' u1 u2 u3 u4 => ?_, j4⟩
        by_cases e2 : x' = x
        · rw [e2]; exact k3 rfl y' u3 u4
        · exact j3 e x' y' (by omega) u2 u3 u4
    · rw [decide_eq_false hx, cond_false, cond_false]
      refine ⟨_, rfl, rfl, fun _ x' y' u1 u2 => by omega, fun p e => by cases e⟩
theorem fp4 {a A B C : Int} (h : Rb A B C) (ha : 1 ≤ a) (ha2 : a ≤ 100) {t x0 y0 : Int} (ht : t ≤ 3) (hG : Gd a A B C t x0 y0) (hx0 : 0 ≤ x0) (hx1 : x0 ≤ t) (hy0 : 0 ≤ y0) (hy1 : y0 ≤ t) : ∀ (m n n' : Nat) (s : Int), 0 ≤ s → s ≤ t → (t - s).toNat ≤ m → m < n → m < n' →
    ∃ p, r_impl_firstPoint_L4 a (A, B, C) n s = some (.inr p) ∧ r_spec_coPoint_L4 a (A, B, C) n' s = some (.inr p) ∧ ∃ s', s' ≤ 3 ∧ 0 ≤ p.1 ∧ p.1 ≤ s' ∧ 0 ≤ p.2 ∧ p.2 ≤ s' ∧ Gd a A B C s' p.1 p.2
  | m, 0, n', s, h0, h1, hm, hn, hn' => by omega
  | m, n + 1, 0, s, h0, h1, hm, hn, hn' => by omega
  | m, n + 1, n' + 1, s, h0, h1, hm, hn, hn' => by
    have hF := FUge
    rw [r_impl_firstPoint_L4, r_spec_coPoint_L4, leI_eq, decide_eq_true (show s ≤ 100 by omega), cond_true]
    obtain ⟨r, k1, k2, k3, k4⟩ := fp7 h ha ha2 h0 (by omega) FU 0 (by omega) (by omega) (by omega)
    rw [k1, k2]
    simp only [Option.bind_some]
    cases r with
    | inr p =>
      obtain ⟨q1, q2, q3, q4, q5⟩ := k4 p rfl
      exact ⟨p, rfl, rfl, s, by omega, q1, q2, q3, q4, q5⟩
    | inl u =>
      have hne : s ≠ t := by
        intro e
        rw [e] at k3
        exact k3 rfl x0 y0 hx0 hx1 hy0 hy1 hG
      obtain ⟨m', rfl⟩ : ∃ m', m = m' + 1 := ⟨m - 1, by omega⟩
      simp only [sI_eq]
      rw [zL (n := s + 1) (by omega)]
      exact fp4 h ha ha2 ht hG hx0 hx1 hy0 hy1 m' n n' (s + 1) (by omega) (by omega) (by omega) (by omega) (by omega)
theorem ptL_of {x y s : Int} (hs : s ≤ 3) (h1 : 0 ≤ x) (h2 : x ≤ s) (h3 : 0 ≤ y) (h4 : y ≤ s) (hg : Int.gcd x y = 1) : (x, y) ∈ ptL := by
  have e1 : x = 0 ∨ x = 1 ∨ x = 2 ∨ x = 3 := by omega
  have e2 : y = 0 ∨ y = 1 ∨ y = 2 ∨ y = 3 := by omega
  rcases e1 with rfl | rfl | rfl | rfl <;> rcases e2 with rfl | rfl | rfl | rfl <;> first | decide | (exfalso; revert hg; decide)
theorem point_both {a A B C : Int} (h : Rb A B C) (ha : 1 ≤ a) (ha2 : a ≤ 25) (hp : ∀ k : Int, k ∣ A → k ∣ B → k ∣ C → k ∣ 1) : ∃ p, r_impl_firstPoint (A, B, C) a = some p ∧ r_spec_coPoint (A, B, C) a = some p ∧ p ∈ ptL ∧ Int.gcd (Vl A B C p.1 p.2) a = 1 := by
  have hF := FUge
  obtain ⟨⟨x, y⟩, hm, hg⟩ := pt_ex ha ha2 hp
  have hr : 0 ≤ x ∧ x ≤ 3 ∧ 0 ≤ y ∧ y ≤ 3 ∧ Int.gcd x y = 1 ∧ 1 ≤ max x y := by
    simp only [ptL, List.mem_cons, Prod.mk.injEq, List.not_mem_nil, or_false] at hm
    rcases hm with ⟨rfl, rfl⟩ | ⟨rfl, rfl⟩ | ⟨rfl, rfl⟩ | ⟨rfl, rfl⟩ | ⟨rfl, rfl⟩ | ⟨rfl, rfl⟩ | ⟨rfl, rfl⟩ | ⟨rfl, rfl⟩ | ⟨rfl, rfl⟩ <;> decide
  obtain ⟨r1, r2, r3, r4, r5, r6⟩ := hr
  have hG : Gd a A B C (max x y) x y := ⟨mx_val x y, r5, hg⟩
  obtain ⟨p, k1, k2, s', u1, u2, u3, u4, u5, u6⟩ := fp4 h ha (by omega) (show max x y ≤ 3 by omega) hG r1 (by omega) r3 (by omega) 3 (FU - 1) FU 1 (by omega) (by omega) (by omega) (by omega) (by omega)
  have z : r_impl_firstPoint_L4 a (A, B, C) FU 0 = some (.inr p) := by
    obtain ⟨r, j1, j2, j3, j4⟩ := fp7 h ha (by omega) (s := 0) (by omega) (by omega) FU 0 (by omega) (by omega) (by omega)
    rw [show FU = (FU - 1) + 1 from rfl, r_impl_firstPoint_L4, j1, Option.bind_some]
    cases r with
    | inr q =>
      obtain ⟨w1, w2, w3, w4, w5, w6, w7⟩ := j4 q rfl
      have e1 : q.1 = 0 := by omega
      have e2 : q.2 = 0 := by omega
      rw [e1, e2] at w6
      exact absurd w6 (by decide)
    | inl u =>
      simp only [sI_eq]
      rw [show w64 (0 + 1) = 1 from rfl]
      exact k1
  refine ⟨p, ?_, ?_, ptL_of u1 u2 u3 u4 u5 u6.2.1, u6.2.2⟩
  · simp only [r_impl_firstPoint, z, Option.bind_some]
  · simp only [r_spec_coPoint, k2, Option.bind_some]
end Go.Proofs.YtfmjfofocklgpaaGreatDoor
namespace Go.Proofs.YtfmjfofocklgpaaGreatDoor
set_option linter.unusedVariables false
set_option linter.unusedSimpArgs false
theorem euc_bd {b x d y k : Int} (hk : 0 ≤ k) (hy : 1 ≤ y) (M : Int) (h : (x.natAbs : Int) * d + (b.natAbs : Int) * y ≤ M) : ((b - k * x).natAbs : Int) * y + (x.natAbs : Int) * (d - k * y) ≤ M ∧ ((x.natAbs : Int) * (d - k * y) ≥ 0 → ((b - k * x).natAbs : Int) ≤ M) := by
  have h1 : ((b - k * x).natAbs : Int) ≤ (b.natAbs : Int) + k * (x.natAbs : Int) := by
    have h2 : (b - k * x).natAbs ≤ b.natAbs + (k * x).natAbs := Int.natAbs_sub_le b (k * x)
    have h3 : (((k * x).natAbs : Nat) : Int) = k * (x.natAbs : Int) := by
      rw [Int.natAbs_mul, Int.natCast_mul, Int.natAbs_of_nonneg hk]
    omega
  have h4 : ((b - k * x).natAbs : Int) * y ≤ ((b.natAbs : Int) + k * (x.natAbs : Int)) * y := Int.mul_le_mul_of_nonneg_right h1 (by omega)
  have e : ((b.natAbs : Int) + k * (x.natAbs : Int)) * y + (x.natAbs : Int) * (d - k * y) = (x.natAbs : Int) * d + (b.natAbs : Int) * y := by grind
  have h5 : ((b - k * x).natAbs : Int) * 1 ≤ ((b - k * x).natAbs : Int) * y := Int.mul_le_mul_of_nonneg_left hy (by omega)
  constructor
  · omega
  · intro h6; omega
theorem tdiv_q {d y : Int} (hd : 0 ≤ d) (hy : 1 ≤ y) : 0 ≤ Int.tdiv d y ∧ Int.tdiv d y ≤ d ∧ 0 ≤ d - Int.tdiv d y * y ∧ d - Int.tdiv d y * y < y := by
  have h1 := Int.tmod_add_mul_tdiv d y
  have h2 : 0 ≤ d.tmod y ∧ d.tmod y < y := ⟨Int.tmod_nonneg _ hd, Int.tmod_lt_of_pos _ (by omega)⟩
  have h3 := Int.tdiv_nonneg hd (show 0 ≤ y by omega)
  have e : Int.tdiv d y * y = y * Int.tdiv d y := Int.mul_comm _ _
  have h4 : Int.tdiv d y * 1 ≤ Int.tdiv d y * y := Int.mul_le_mul_of_nonneg_left hy h3
  refine ⟨h3, by omega, by omega, by omega⟩
theorem bigk {k x : Int} {K M : Nat} (h1 : k.natAbs ≤ K) (h2 : x.natAbs ≤ M) (hKM : K * M ≤ 9000000000000) : w64 (k * x) = k * x ∧ (k * x).natAbs ≤ K * M := by
  have := abs_mul h1 h2
  exact ⟨w64_abs (by omega), this⟩
theorem tz {z g : Int} (hg : g ≠ 0) : eqI (Int.tmod z g) 0 = decide (g ∣ z) := by
  rw [eqI_eq, Bool.eq_iff_iff, beq_iff_eq, decide_eq_true_iff]
  exact ⟨Int.dvd_of_tmod_eq_zero, Int.tmod_eq_zero_of_dvd⟩
theorem tdv {a b c : Int} (hb : b ≠ 0) (h : b * c = a) : Int.tdiv a b = c := by
  rw [← h, Int.mul_tdiv_cancel_left _ hb]
theorem inv_run {n m : Int} : ∀ (k fu : Nat) (r nx x y : Int), 0 ≤ nx → nx ≤ k → k < fu → 1 ≤ r → r ≤ 100000 → nx ≤ 100000 → (y.natAbs : Int) * r + (x.natAbs : Int) * nx ≤ 100000 → x.natAbs ≤ 100000 → y.natAbs ≤ 100000 → n ∣ r - x * m → n ∣ nx - y * m → (∀ c : Int, c ∣ r → c ∣ nx → c ∣ 1) →
    ∃ z, r_spec_nuInverse_L8 n fu r nx x y = some (1, z) ∧ n ∣ 1 - z * m ∧ z.natAbs ≤ 100000
  | k, 0, r, nx, x, y, _, _, hf, _, _, _, _, _, _, _, _, _ => by omega
  | k, fu + 1, r, nx, x, y, h0, hk, hf, hr, hr2, hn2, hS, hx, hy, d1, d2, hc => by
    rw [r_spec_nuInverse_L8]
    by_cases hz : nx = 0
    · subst hz
      have h1 : r = 1 := Int.eq_one_of_dvd_one (by omega) (hc r ⟨1, by omega⟩ ⟨0, by omega⟩)
      subst h1
      rw [eqSelf, Bool.not_true, cond_false]
      exact ⟨x, rfl, d1, hx⟩
    · have hn1 : 1 ≤ nx := by omega
      obtain ⟨k', rfl⟩ : ∃ k', k = k' + 1 := ⟨k - 1, by omega⟩
      obtain ⟨q0, q1, q2, q3⟩ := tdiv_q (d := r) (y := nx) (by omega) hn1
      obtain ⟨s1, s2⟩ := euc_bd (b := x) (x := y) (d := r) (y := nx) (k := Int.tdiv r nx) q0 hn1 100000 hS
      have s4 := s2 (Int.mul_nonneg (by omega) q2)
      generalize hq : Int.tdiv r nx = q at *
      obtain ⟨w1, w2⟩ := bigk (k := q) (x := nx) (K := 100000) (M := 100000) (by omega) (by omega) (by decide)
      obtain ⟨w3, w4⟩ := bigk (k := q) (x := y) (K := 100000) (M := 100000) (by omega) hy (by decide)
      have hne : (!eqI nx 0) = true := by rw [eqNe hz]; rfl
      rw [hne, cond_true]
      simp only [nzOk hz, Option.bind_some, sI_eq, hq]
      rw [zL (n := q) (by omega), w1, w3, zL (n := r - q * nx) (by omega), zL (n := x - q * y) (by omega)]
      refine inv_run k' fu nx (r - q * nx) y (x - q * y) q2 (by omega) (by omega) hn1 hn2 (by omega) (by omega) hy (by omega) d2 ?_ fun c c1 c2 => hc c ?_ c1
      · obtain ⟨u, hu⟩ := d1
        obtain ⟨v, hv⟩ := d2
        exact ⟨u - q * v, by grind⟩
      · obtain ⟨u, hu⟩ := c1
        obtain ⟨v, hv⟩ := c2
        exact ⟨v + q * u, by grind⟩
theorem inv_val {n m : Int} (hn : 1 ≤ n) (hn2 : n ≤ 100000) (hm : m.natAbs ≤ 100000) (hc : ∀ c : Int, c ∣ n → c ∣ m → c ∣ 1) : ∃ v, r_spec_nuInverse m n = some v ∧ n ∣ 1 - v * m ∧ 0 ≤ v ∧ v < n := by
  have hF := FUge
  have m1 := Int.emod_nonneg m (b := n) (by omega)
  have m2 := Int.emod_lt_of_pos m (b := n) (by omega)
  have em := Int.emod_add_mul_ediv m n
  obtain ⟨z, e1, e2, e3⟩ := inv_run (n := n) (m := m) 100000 FU n (m % n) 0 1 m1 (by omega) (by omega) hn hn2 (by omega) (by simp; omega) (by decide) (by decide) ⟨1, by omega⟩ ⟨-(m / n), by grind⟩ fun c c1 c2 => hc c c1 (by
    obtain ⟨u, hu⟩ := c1
    obtain ⟨v, hv⟩ := c2
    exact ⟨v + u * (m / n), by grind⟩)
  have z1 := Int.emod_nonneg z (b := n) (by omega)
  have z2 := Int.emod_lt_of_pos z (b := n) (by omega)
  have ez := Int.emod_add_mul_ediv z n
  refine ⟨z % n, ?_, ?_, z1, z2⟩
  · simp only [r_spec_nuInverse, dsc_mod, dsc_mod_val hn (show n ≤ 9223372036854775807 by omega), Option.bind_some, e1, eqSelf, Bool.not_true, cond_false]
  · obtain ⟨u, hu⟩ := e2
    exact ⟨u + (z / n) * m, by grind⟩
end Go.Proofs.YtfmjfofocklgpaaGreatDoor
namespace Go.Proofs.YtfmjfofocklgpaaGreatDoor
set_option linter.unusedVariables false
set_option linter.unusedSimpArgs false
theorem inv9 {x y : Int} (h : (x, y) ∈ ptL) : ∃ q s : Int, (bif eqI y 0 then some (0, x) else (r_impl_abs y).bind fun y6 => (r_impl_inverse x y6).bind fun y7 => (nz y).bind fun z8 => sI (w64 (Int.tdiv (w64 ((w64 (x * y7)) - 1)) y)) fun f9 => some (f9, y7)) = some (q, s) ∧ r_spec_nuBezout x y = some (1, s, -q) ∧ x * s - q * y = 1 ∧ q.natAbs ≤ 3 ∧ s.natAbs ≤ 3 ∧ 0 ≤ x ∧ x ≤ 3 ∧ 0 ≤ y ∧ y ≤ 3 := by
  simp only [ptL, List.mem_cons, Prod.mk.injEq, List.not_mem_nil, or_false] at h
  rcases h with ⟨rfl, rfl⟩ | ⟨rfl, rfl⟩ | ⟨rfl, rfl⟩ | ⟨rfl, rfl⟩ | ⟨rfl, rfl⟩ | ⟨rfl, rfl⟩ | ⟨rfl, rfl⟩ | ⟨rfl, rfl⟩ | ⟨rfl, rfl⟩
  · exact ⟨-1, 0, by decide +kernel, by decide +kernel, by decide⟩
  · exact ⟨0, 1, by decide +kernel, by decide +kernel, by decide⟩
  · exact ⟨-1, 0, by decide +kernel, by decide +kernel, by decide⟩
  · exact ⟨0, 1, by decide +kernel, by decide +kernel, by decide⟩
  · exact ⟨-1, 0, by decide +kernel, by decide +kernel, by decide⟩
  · exact ⟨0, 1, by decide +kernel, by decide +kernel, by decide⟩
  · exact ⟨1, 2, by decide +kernel, by decide +kernel, by decide⟩
  · exact ⟨-1, 0, by decide +kernel, by decide +kernel, by decide⟩
  · exact ⟨1, 1, by decide +kernel, by decide +kernel, by decide⟩
structure Cmp (A B C D x y v q0 s0 B0 Q Bh C1 : Int) : Prop where
  hv : A * x * x + B * x * y + C * y * y = v
  v1 : 1 ≤ v
  v2 : v ≤ 10000
  hB0 : 2 * A * x * q0 + B * (x * s0 + y * q0) + 2 * C * y * s0 = B0
  b0 : B0.natAbs ≤ 20000
  hQ : B0 / (2 * v) = Q
  q : Q.natAbs ≤ 20001
  m6 : (-Q * x).natAbs ≤ 60003
  m7 : (-Q * y).natAbs ≤ 60003
  hBh : B0 % (2 * v) = Bh
  e1 : B0 + 2 * v * -Q = Bh
  t1 : 0 ≤ Bh
  t2 : Bh < 2 * v
  e2 : 2 * A * x * (q0 + -Q * x) + B * (x * (s0 + -Q * y) + y * (q0 + -Q * x)) + 2 * C * y * (s0 + -Q * y) = Bh
  hC1 : A * (q0 + -Q * x) * (q0 + -Q * x) + B * (q0 + -Q * x) * (s0 + -Q * y) + C * (s0 + -Q * y) * (s0 + -Q * y) = C1
  em : MatInv A B C x (q0 + -Q * x) y (s0 + -Q * y) v Bh C1
  dis : Bh * Bh - 4 * v * C1 = D
  bb : Bh * Bh ≤ 400000000
  c1 : C1.natAbs ≤ 20000
theorem cmp_e2 (A B C x y q0 s0 Q : Int) : 2 * A * x * (q0 + -Q * x) + B * (x * (s0 + -Q * y) + y * (q0 + -Q * x)) + 2 * C * y * (s0 + -Q * y) = (2 * A * x * q0 + B * (x * s0 + y * q0) + 2 * C * y * s0) + 2 * (A * x * x + B * x * y + C * y * y) * -Q := by grind
theorem cmp_dt (x s0 Q y q0 : Int) : x * (s0 + -Q * y) - (q0 + -Q * x) * y = x * s0 - q0 * y := by grind
theorem cmp_k2 (v : Int) : 4 * v * (v + 2001) = 2 * v * (2 * v) + 8004 * v := by grind
theorem cmp_dis {A B C p q r s a b c : Int} (h : MatInv A B C p q r s a b c) : b * b - 4 * a * c = B * B - 4 * A * C := by
  obtain ⟨f1, f2, f3, f4⟩ := h
  have : b * b - 4 * a * c = (B * B - 4 * A * C) * ((p * s - q * r) * (p * s - q * r)) := by
    rw [← f1, ← f2, ← f3]
    grind
  rw [this, f4]; omega
theorem cmp_b {A B C x y q0 s0 : Int} (h : Rb A B C) (i4 : q0.natAbs ≤ 3) (i5 : s0.natAbs ≤ 3) (i6 : 0 ≤ x) (i7 : x ≤ 3) (i8 : 0 ≤ y) (i9 : y ≤ 3) : (2 * A * x * q0 + B * (x * s0 + y * q0) + 2 * C * y * s0).natAbs ≤ 20000 := by
  obtain ⟨a1, a2, b1, b2, c1, c2⟩ := h
  have m1 : (2 * A * x * q0).natAbs ≤ 2 * 26 * 3 * 3 := abs_mul (abs_mul (abs_mul (by omega) (by omega)) (by omega)) (by omega)
  have m2 : (x * s0).natAbs ≤ 3 * 3 := abs_mul (by omega) (by omega)
  have m3 : (y * q0).natAbs ≤ 3 * 3 := abs_mul (by omega) (by omega)
  have m4 : (B * (x * s0 + y * q0)).natAbs ≤ 26 * 18 := abs_mul (by omega) (by omega)
  have m5 : (2 * C * y * s0).natAbs ≤ 2 * 1000 * 3 * 3 := abs_mul (abs_mul (abs_mul (by omega) (by omega)) (by omega)) (by omega)
  omega
theorem cmp_q {v B0 : Int} (v1 : 1 ≤ v) (hB : B0.natAbs ≤ 20000) : (B0 / (2 * v)).natAbs ≤ 20001 ∧ B0 + 2 * v * -(B0 / (2 * v)) = B0 % (2 * v) ∧ 0 ≤ B0 % (2 * v) ∧ B0 % (2 * v) < 2 * v := by
  have t1 := Int.emod_nonneg B0 (b := 2 * v) (by omega)
  have t2 := Int.emod_lt_of_pos B0 (b := 2 * v) (by omega)
  have t3 := Int.emod_add_mul_ediv B0 (2 * v)
  generalize hQ : B0 / (2 * v) = Q at *
  refine ⟨?_, by rw [Int.mul_neg]; omega, t1, t2⟩
  rcases Int.lt_or_le 20001 Q with h | h
  · have : 2 * v * 20002 ≤ 2 * v * Q := Int.mul_le_mul_of_nonneg_left (by omega) (by omega)
    omega
  · rcases Int.lt_or_le Q (-20001) with h' | h'
    · have : 2 * v * Q ≤ 2 * v * (-20002) := Int.mul_le_mul_of_nonneg_left (by omega) (by omega)
      omega
    · omega
theorem cmp_c {v Bh C1 D : Int} (v1 : 1 ≤ v) (v2 : v ≤ 10000) (hD1 : -2000 ≤ D) (hD2 : D ≤ 0) (t1 : 0 ≤ Bh) (t2 : Bh < 2 * v) (hdis : Bh * Bh - 4 * v * C1 = D) : Bh * Bh ≤ 400000000 ∧ C1.natAbs ≤ 20000 := by
  have hBB : Bh * Bh ≤ 2 * v * (2 * v) := Int.mul_le_mul (by omega) (by omega) t1 (by omega)
  have hBB0 : 0 ≤ Bh * Bh := Int.mul_nonneg t1 t1
  have hBB4 : 2 * v * (2 * v) ≤ 20000 * 20000 := Int.mul_le_mul (by omega) (by omega) (by omega) (by omega)
  have hCu : C1 ≤ v + 2000 := by
    rcases Int.lt_or_le (v + 2000) C1 with h | h
    · have k1 : 4 * v * (v + 2001) ≤ 4 * v * C1 := Int.mul_le_mul_of_nonneg_left (by omega) (by omega)
      have k2 := cmp_k2 v
      omega
    · exact h
  have hCl : -2000 ≤ C1 := by
    rcases Int.lt_or_le C1 (-2000) with h | h
    · have k1 : 4 * v * C1 ≤ 4 * v * (-2001) := Int.mul_le_mul_of_nonneg_left (by omega) (by omega)
      omega
    · exact h
  omega
theorem cmp_mat {A B C x y v q0 s0 Q Bh : Int} (hv : A * x * x + B * x * y + C * y * y = v) (i3 : x * s0 - q0 * y = 1) (e2 : 2 * A * x * (q0 + -Q * x) + B * (x * (s0 + -Q * y) + y * (q0 + -Q * x)) + 2 * C * y * (s0 + -Q * y) = Bh) : MatInv A B C x (q0 + -Q * x) y (s0 + -Q * y) v Bh (A * (q0 + -Q * x) * (q0 + -Q * x) + B * (q0 + -Q * x) * (s0 + -Q * y) + C * (s0 + -Q * y) * (s0 + -Q * y)) := by
  refine ⟨hv, ?_, rfl, ?_⟩
  · rw [← e2, Int.mul_comm (q0 + -Q * x) y]
  · rw [cmp_dt x s0 Q y q0, i3]
theorem cmp_mk {A B C D x y v q0 s0 : Int} (h : Rb A B C) (hD : B * B - 4 * A * C = D) (hD1 : -2000 ≤ D) (hD2 : D ≤ 0) (hv : Vl A B C x y = v) (hv1 : 1 ≤ v) (i3 : x * s0 - q0 * y = 1) (i4 : q0.natAbs ≤ 3) (i5 : s0.natAbs ≤ 3) (i6 : 0 ≤ x) (i7 : x ≤ 3) (i8 : 0 ≤ y) (i9 : y ≤ 3) : ∃ B0 Q Bh C1, Cmp A B C D x y v q0 s0 B0 Q Bh C1 := by
  have hvb := vl_bd h i6 i7 i8 i9
  rw [hv] at hvb
  unfold Vl at hv
  have hB0b := cmp_b h i4 i5 i6 i7 i8 i9
  have ee := cmp_e2 A B C x y q0 s0
  rw [hv] at ee
  obtain ⟨hQb, e1, t1, t2⟩ := cmp_q (v := v) hv1 hB0b
  have e2 := (ee ((2 * A * x * q0 + B * (x * s0 + y * q0) + 2 * C * y * s0) / (2 * v))).trans e1
  have em := cmp_mat hv i3 e2
  have hdis := (cmp_dis em).trans hD
  obtain ⟨hBB, hC⟩ := cmp_c hv1 (by omega) hD1 hD2 t1 t2 hdis
  exact ⟨_, _, _, _, hv, hv1, by omega, rfl, hB0b, rfl, hQb, abs_mul (A := 20001) (B := 3) (by omega) (by omega), abs_mul (A := 20001) (B := 3) (by omega) (by omega), rfl, e1, t1, t2, e2, rfl, em, hdis, hBB, hC⟩
theorem cmp_impl {A B C D x y v q0 s0 B0 Q Bh C1 : Int} (h : Cmp A B C D x y v q0 s0 B0 Q Bh C1) (i4 : q0.natAbs ≤ 3) (i5 : s0.natAbs ≤ 3) (i1 : (bif eqI y 0 then some (0, x) else (r_impl_abs y).bind fun y6 => (r_impl_inverse x y6).bind fun y7 => (nz y).bind fun z8 => sI (w64 (Int.tdiv (w64 ((w64 (x * y7)) - 1)) y)) fun f9 => some (f9, y7)) = some (q0, s0)) : r_impl_Form_complete (A, B, C) x y = some ((v, Bh, C1), (x, q0 + -Q * x, y, s0 + -Q * y)) := by
  obtain ⟨hv, v1, v2, hB0, b0, hQ, q, m6, m7, hBh, e1, t1, t2, e2, hC1, em, dis, bb, c1⟩ := h
  unfold r_impl_Form_complete
  rw [i1]
  simp only [Option.bind_some, sub_w]
  rw [hv, hB0, zL (n := B0) (by omega), zL (n := v) (by omega), zL (n := 2 * v) (by omega), dsc_floor_val (by omega) (by omega) (by omega) (by omega), hQ]
  simp only [Option.bind_some, sI_eq]
  rw [zL (n := 0 - Q) (by omega), show (0 - Q) = -Q by omega, zL (n := -Q * x) (by omega), zL (n := -Q * y) (by omega), zL (n := q0 + -Q * x) (by omega), zL (n := s0 + -Q * y) (by omega)]
  rw [e2, hC1, zL (n := C1) (by omega), zL (n := Bh) (by omega)]
theorem cmp_spec {A B C D x y v q0 s0 B0 Q Bh C1 : Int} (h : Cmp A B C D x y v q0 s0 B0 Q Bh C1) (hD : B * B - 4 * A * C = D) (hD1 : -2000 ≤ D) (hD2 : D ≤ 0) (i4 : q0.natAbs ≤ 3) (i5 : s0.natAbs ≤ 3) (i2 : r_spec_nuBezout x y = some (1, s0, -q0)) : r_spec_vaComplete (A, B, C) x y = some ((v, Bh, C1), (x, q0 + -Q * x, y, s0 + -Q * y)) := by
  obtain ⟨hv, v1, v2, hB0, b0, hQ, q, m6, m7, hBh, e1, t1, t2, e2, hC1, em, dis, bb, c1⟩ := h
  unfold r_spec_vaComplete
  rw [i2]
  simp only [Option.bind_some]
  rw [dsc_value, at_w, hv, zL (n := v) (by omega)]
  simp only [Option.bind_some, sI_eq]
  rw [show w64 (0 - -q0) = q0 by rw [zL (by omega)]; omega, dsc_polar, polar_w, hB0, zL (n := B0) (by omega)]
  simp only [Option.bind_some]
  rw [dsc_mod, zL (n := 2 * v) (by omega), dsc_mod_val (by omega) (by omega), hBh]
  simp only [Option.bind_some]
  rw [nz_ne (show 2 * v ≠ 0 by omega), zL (n := Bh - B0) (by omega), tdv (c := -Q) (by omega) (by omega)]
  simp only [Option.bind_some]
  have x1 : x * -Q = -Q * x := Int.mul_comm _ _
  have y1 : y * -Q = -Q * y := Int.mul_comm _ _
  rw [zL (n := -Q) (by omega), x1, y1, zL (n := -Q * x) (by omega), zL (n := -Q * y) (by omega), zL (n := q0 + -Q * x) (by omega), zL (n := s0 + -Q * y) (by omega), zL (n := 2 * v * -Q) (by omega), e1, zL (n := Bh) (by omega), disc_eq, disc_w, hD, zL (n := D) (by omega)]
  simp only [Option.bind_some]
  rw [zL (n := 4 * v) (by omega), nz_ne (show 4 * v ≠ 0 by omega)]
  have hBB0 : 0 ≤ Bh * Bh := Int.mul_nonneg t1 t1
  simp only [Option.bind_some]
  rw [zL (n := Bh * Bh) (by omega), zL (n := Bh * Bh - D) (by omega), tdv (b := 4 * v) (c := C1) (by omega) (by omega), zL (n := C1) (by omega)]
/-- The completed form: its first coefficient is the value, the second one is in a range. -/
theorem complete_both {A B C D x y v : Int} (h : Rb A B C) (hD : B * B - 4 * A * C = D) (hD1 : -2000 ≤ D) (hD2 : D ≤ 0) (hm : (x, y) ∈ ptL) (hv : Vl A B C x y = v) (hv1 : 1 ≤ v) :
    ∃ q s Bh Ch, r_impl_Form_complete (A, B, C) x y = some ((v, Bh, Ch), (x, q, y, s)) ∧ r_spec_vaComplete (A, B, C) x y = some ((v, Bh, Ch), (x, q, y, s)) ∧ MatInv A B C x q y s v Bh Ch ∧ 0 ≤ Bh ∧ Bh < 2 * v ∧ v ≤ 10000 ∧ q.natAbs ≤ 100000 ∧ s.natAbs ≤ 100000 ∧ 0 ≤ x ∧ x ≤ 3 ∧ 0 ≤ y ∧ y ≤ 3 := by
  obtain ⟨q0, s0, i1, i2, i3, i4, i5, i6, i7, i8, i9⟩ := inv9 hm
  obtain ⟨B0, Q, Bh, C1, k⟩ := cmp_mk h hD hD1 hD2 hv hv1 i3 i4 i5 i6 i7 i8 i9
  have k1 := cmp_impl k i4 i5 i1
  have k2 := cmp_spec k hD hD1 hD2 i4 i5 i2
  obtain ⟨hv, v1, v2, hB0, b0, hQ, q, m6, m7, hBh, e1, t1, t2, e2, hC1, em, dis, bb, c1⟩ := k
  exact ⟨_, _, Bh, C1, k1, k2, em, t1, t2, v2, by omega, by omega, i6, i7, i8, i9⟩
end Go.Proofs.YtfmjfofocklgpaaGreatDoor
namespace Go.Proofs.YtfmjfofocklgpaaGreatDoor
set_option linter.unusedVariables false
set_option linter.unusedSimpArgs false
/-- The element u + v * sqrt D is the pair u, v. -/
abbrev El := Int × Int
def eM (D : Int) (x y : El) : El := (x.1 * y.1 + D * x.2 * y.2, x.1 * y.2 + x.2 * y.1)
def eA (x y : El) : El := (x.1 + y.1, x.2 + y.2)
def eS (x y : El) : El := (x.1 - y.1, x.2 - y.2)
def eK (k : Int) (x : El) : El := (k * x.1, k * x.2)
def eN (D : Int) (x : El) : Int := x.1 * x.1 - D * x.2 * x.2
def eT (D : Int) (x y : El) : Int := x.1 * y.1 - D * x.2 * y.2
def eW (x y : El) : Int := x.1 * y.2 - x.2 * y.1
/-- The least module with the elements of a list. -/
def Sp (L : List El) (x : El) : Prop := ∀ P : El → Prop, P (0, 0) → (∀ a b, P a → P b → P (eS a b)) → (∀ l, l ∈ L → P l) → P x
theorem sp_zero (L : List El) : Sp L (0, 0) := fun P h _ _ => h
theorem sp_sub {L : List El} {x y : El} (h1 : Sp L x) (h2 : Sp L y) : Sp L (eS x y) := fun P a b c => b _ _ (h1 P a b c) (h2 P a b c)
theorem sp_mem {L : List El} {x : El} (h : x ∈ L) : Sp L x := fun P a b c => c _ h
theorem el_ext {x y : El} (h1 : x.1 = y.1) (h2 : x.2 = y.2) : x = y := Prod.ext h1 h2
theorem sp_neg {L : List El} {x : El} (h : Sp L x) : Sp L (eK (-1) x) := by
  have := sp_sub (sp_zero L) h
  have e : eS (0, 0) x = eK (-1) x := el_ext (by simp [eS, eK]) (by simp [eS, eK])
  rwa [e] at this
theorem sp_add {L : List El} {x y : El} (h1 : Sp L x) (h2 : Sp L y) : Sp L (eA x y) := by
  have := sp_sub h1 (sp_neg h2)
  have e : eS x (eK (-1) y) = eA x y := el_ext (by simp [eS, eK, eA]) (by simp [eS, eK, eA])
  rwa [e] at this
theorem sp_nat {L : List El} {x : El} (h : Sp L x) (n : Nat) : Sp L (eK n x) := by
  induction n with
  | zero => have e : eK ((0 : Nat) : Int) x = (0, 0) := el_ext (by simp [eK]) (by simp [eK])
            rw [e]; exact sp_zero L
  | succ n ih =>
    have e : eK ((n + 1 : Nat) : Int) x = eA (eK n x) x := el_ext (by simp [eK, eA, Int.add_mul]) (by simp [eK, eA, Int.add_mul])
    rw [e]; exact sp_add ih h
theorem sp_mul {L : List El} {x : El} (h : Sp L x) (k : Int) : Sp L (eK k x) := by
  rcases Int.le_total 0 k with hk | hk
  · have e : k = (k.toNat : Int) := by omega
    rw [e]; exact sp_nat h _
  · have e : eK k x = eK (-1) (eK ((-k).toNat : Nat) x) := by
      have e1 : (((-k).toNat : Nat) : Int) = -k := by omega
      rw [e1]
      exact el_ext (by simp only [eK]; grind) (by simp only [eK]; grind)
    rw [e]; exact sp_neg (sp_nat h _)
theorem sp_le {L M : List El} (h : ∀ l, l ∈ L → Sp M l) {x : El} (hx : Sp L x) : Sp M x := hx (Sp M) (sp_zero M) (fun _ _ => sp_sub) h
theorem sp_two {u v x : El} (h : Sp [u, v] x) : ∃ p q : Int, x = eA (eK p u) (eK q v) := by
  refine h (fun x => ∃ p q : Int, x = eA (eK p u) (eK q v)) ⟨0, 0, el_ext (by simp [eA, eK]) (by simp [eA, eK])⟩ ?_ ?_
  · rintro a b ⟨p, q, e1⟩ ⟨p', q', e2⟩
    refine ⟨p - p', q - q', ?_⟩
    subst e1 e2
    exact el_ext (by simp only [eS, eA, eK]; grind) (by simp only [eS, eA, eK]; grind)
  · intro l hl
    simp only [List.mem_cons, List.not_mem_nil, or_false] at hl
    rcases hl with e | e
    · exact ⟨1, 0, by subst e; exact el_ext (by simp [eA, eK]) (by simp [eA, eK])⟩
    · exact ⟨0, 1, by subst e; exact el_ext (by simp [eA, eK]) (by simp [eA, eK])⟩
theorem sp_comb {u v : El} (p q : Int) : Sp [u, v] (eA (eK p u) (eK q v)) := sp_add (sp_mul (sp_mem (by simp)) p) (sp_mul (sp_mem (by simp)) q)
/-- A multiple of a list. -/
def eL (D : Int) (a : El) (L : List El) : List El := L.map (eM D a)
def eP (D : Int) (L M : List El) : List El := L.flatMap fun l => M.map (eM D l)
theorem eM_comm (D : Int) (x y : El) : eM D x y = eM D y x := el_ext (by simp only [eM]; grind) (by simp only [eM]; grind)
theorem eM_assoc (D : Int) (x y z : El) : eM D (eM D x y) z = eM D x (eM D y z) := el_ext (by simp only [eM]; grind) (by simp only [eM]; grind)
theorem eM_sub (D : Int) (x y z : El) : eM D x (eS y z) = eS (eM D x y) (eM D x z) := el_ext (by simp only [eM, eS]; grind) (by simp only [eM, eS]; grind)
theorem eM_subl (D : Int) (x y z : El) : eM D (eS x y) z = eS (eM D x z) (eM D y z) := el_ext (by simp only [eM, eS]; grind) (by simp only [eM, eS]; grind)
theorem eM_zero (D : Int) (x : El) : eM D x (0, 0) = (0, 0) := el_ext (by simp [eM]) (by simp [eM])
theorem eM_zerol (D : Int) (x : El) : eM D (0, 0) x = (0, 0) := el_ext (by simp [eM]) (by simp [eM])
theorem eN_mul (D : Int) (x y : El) : eN D (eM D x y) = eN D x * eN D y := by simp only [eN, eM]; grind
theorem eN_pos {D : Int} (hD : D < 0) {x : El} (hx : x ≠ (0, 0)) : 0 < eN D x := by
  simp only [eN]
  have h1 : 0 ≤ x.1 * x.1 := by rcases Int.le_total 0 x.1 with h | h; exact Int.mul_nonneg h h; exact Int.mul_nonneg_of_nonpos_of_nonpos h h
  have h2 : 0 ≤ x.2 * x.2 := by rcases Int.le_total 0 x.2 with h | h; exact Int.mul_nonneg h h; exact Int.mul_nonneg_of_nonpos_of_nonpos h h
  have h3 : 0 ≤ (-D) * (x.2 * x.2) := Int.mul_nonneg (by omega) h2
  have e : D * x.2 * x.2 = -((-D) * (x.2 * x.2)) := by grind
  rw [e]
  rcases Decidable.em (x.1 = 0) with h | h
  · have h4 : x.2 ≠ 0 := fun h5 => hx (el_ext h h5)
    have h5 : x.2 * x.2 ≠ 0 := fun h6 => by rcases Int.mul_eq_zero.1 h6 with h7 | h7 <;> exact h4 h7
    have h6 : 0 < (-D) * (x.2 * x.2) := Int.mul_pos (by omega) (by omega)
    omega
  · have h5 : x.1 * x.1 ≠ 0 := fun h6 => by rcases Int.mul_eq_zero.1 h6 with h7 | h7 <;> exact h h7
    omega
theorem eM_ne {D : Int} (hD : D < 0) {x y : El} (hx : x ≠ (0, 0)) (hy : y ≠ (0, 0)) : eM D x y ≠ (0, 0) := by
  intro h
  have h1 := Int.mul_pos (eN_pos hD hx) (eN_pos hD hy)
  rw [← eN_mul, h] at h1
  simp [eN] at h1
theorem sp_eL {D : Int} {a : El} {L : List El} {x : El} : Sp (eL D a L) x ↔ ∃ y, Sp L y ∧ x = eM D a y := by
  constructor
  · intro h
    refine h (fun x => ∃ y, Sp L y ∧ x = eM D a y) ⟨(0, 0), sp_zero L, (eM_zero D a).symm⟩ ?_ ?_
    · rintro x y ⟨x', h1, e1⟩ ⟨y', h2, e2⟩
      exact ⟨eS x' y', sp_sub h1 h2, by rw [e1, e2, eM_sub]⟩
    · intro l hl
      obtain ⟨m, hm, e⟩ := List.mem_map.1 hl
      exact ⟨m, sp_mem hm, e.symm⟩
  · rintro ⟨y, hy, e⟩
    subst e
    refine hy (fun y => Sp (eL D a L) (eM D a y)) (by rw [eM_zero]; exact sp_zero _) ?_ ?_
    · intro x y h1 h2
      rw [eM_sub]; exact sp_sub h1 h2
    · exact fun l hl => sp_mem (List.mem_map.2 ⟨l, hl, rfl⟩)
theorem mem_eP {D : Int} {L M : List El} {x : El} : x ∈ eP D L M ↔ ∃ l, l ∈ L ∧ ∃ m, m ∈ M ∧ x = eM D l m := by
  simp only [eP, List.mem_flatMap, List.mem_map]
  constructor
  · rintro ⟨l, hl, m, hm, e⟩; exact ⟨l, hl, m, hm, e.symm⟩
  · rintro ⟨l, hl, m, hm, e⟩; exact ⟨l, hl, m, hm, e.symm⟩
theorem sp_eP {D : Int} {L M : List El} {x y : El} (hx : Sp L x) (hy : Sp M y) : Sp (eP D L M) (eM D x y) := by
  refine hx (fun x => Sp (eP D L M) (eM D x y)) (by rw [eM_zerol]; exact sp_zero _) ?_ ?_
  · intro a b h1 h2
    rw [eM_subl]; exact sp_sub h1 h2
  · intro l hl
    refine hy (fun y => Sp (eP D L M) (eM D l y)) (by rw [eM_zero]; exact sp_zero _) ?_ ?_
    · intro a b h1 h2
      rw [eM_sub]; exact sp_sub h1 h2
    · exact fun m hm => sp_mem (mem_eP.2 ⟨l, hl, m, hm, rfl⟩)
/-- Two modules are in one class. -/
def Cl (D : Int) (L M : List El) : Prop := ∃ a b : El, a ≠ (0, 0) ∧ b ≠ (0, 0) ∧ ∀ x, Sp (eL D a L) x ↔ Sp (eL D b M) x
theorem cl_refl (D : Int) (L : List El) : Cl D L L := ⟨(1, 0), (1, 0), by simp, by simp, fun _ => Iff.rfl⟩
theorem cl_symm {D : Int} {L M : List El} (h : Cl D L M) : Cl D M L := by
  obtain ⟨a, b, h1, h2, h3⟩ := h
  exact ⟨b, a, h2, h1, fun x => (h3 x).symm⟩
theorem eL_cong {D : Int} {c a b : El} {L M : List El} (h : ∀ x, Sp (eL D a L) x ↔ Sp (eL D b M) x) (x : El) : Sp (eL D (eM D c a) L) x ↔ Sp (eL D (eM D c b) M) x := by
  simp only [sp_eL] at h ⊢
  constructor
  · rintro ⟨y, hy, e⟩
    obtain ⟨z, hz, e2⟩ := (h (eM D a y)).1 ⟨y, hy, rfl⟩
    exact ⟨z, hz, by rw [e, eM_assoc, e2, eM_assoc]⟩
  · rintro ⟨y, hy, e⟩
    obtain ⟨z, hz, e2⟩ := (h (eM D b y)).2 ⟨y, hy, rfl⟩
    exact ⟨z, hz, by rw [e, eM_assoc, e2, eM_assoc]⟩
theorem cl_trans {D : Int} (hD : D < 0) {L M N : List El} (h1 : Cl D L M) (h2 : Cl D M N) : Cl D L N := by
  obtain ⟨a, b, ha, hb, h⟩ := h1
  obtain ⟨c, d, hc, hd, k⟩ := h2
  refine ⟨eM D c a, eM D b d, eM_ne hD hc ha, eM_ne hD hb hd, fun x => ?_⟩
  rw [eL_cong h x, eM_comm D c b, eL_cong k x]
theorem cl_of_sp {D : Int} {L M : List El} (h : ∀ x, Sp L x ↔ Sp M x) : Cl D L M := by
  refine ⟨(1, 0), (1, 0), by simp, by simp, fun x => ?_⟩
  rw [sp_eL, sp_eL]
  constructor
  · rintro ⟨y, hy, e⟩; exact ⟨y, (h y).1 hy, e⟩
  · rintro ⟨y, hy, e⟩; exact ⟨y, (h y).2 hy, e⟩
theorem sp_iff {L M : List El} (h1 : ∀ l, l ∈ L → Sp M l) (h2 : ∀ l, l ∈ M → Sp L l) (x : El) : Sp L x ↔ Sp M x := ⟨sp_le h1, sp_le h2⟩
/-- Multiples that are equal: a list M of which a multiple spans what a multiple of L spans. -/
theorem cl_mk {D : Int} {a b : El} {L M : List El} (ha : a ≠ (0, 0)) (hb : b ≠ (0, 0)) (h1 : ∀ l, l ∈ L → Sp (eL D b M) (eM D a l)) (h2 : ∀ m, m ∈ M → Sp (eL D a L) (eM D b m)) : Cl D L M := by
  refine ⟨a, b, ha, hb, sp_iff ?_ ?_⟩
  · intro l hl
    obtain ⟨m, hm, e⟩ := List.mem_map.1 hl
    rw [← e]; exact h1 m hm
  · intro l hl
    obtain ⟨m, hm, e⟩ := List.mem_map.1 hl
    rw [← e]; exact h2 m hm
theorem cl_prod_half {D : Int} {a b c d : El} {L L' M M' : List El} (h : ∀ x, Sp (eL D a L) x ↔ Sp (eL D b L') x) (k : ∀ x, Sp (eL D c M) x ↔ Sp (eL D d M') x) : ∀ l, l ∈ eP D L M → Sp (eL D (eM D b d) (eP D L' M')) (eM D (eM D a c) l) := by
  intro l hl
  obtain ⟨l1, h1, m1, h2, e⟩ := mem_eP.1 hl
  obtain ⟨y, hy, e1⟩ := sp_eL.1 ((h (eM D a l1)).1 (sp_eL.2 ⟨l1, sp_mem h1, rfl⟩))
  obtain ⟨z, hz, e2⟩ := sp_eL.1 ((k (eM D c m1)).1 (sp_eL.2 ⟨m1, sp_mem h2, rfl⟩))
  refine sp_eL.2 ⟨eM D y z, sp_eP hy hz, ?_⟩
  have e3 : eM D (eM D a c) l = eM D (eM D a l1) (eM D c m1) := by
    rw [e]; exact el_ext (by simp only [eM]; grind) (by simp only [eM]; grind)
  rw [e3, e1, e2]
  exact el_ext (by simp only [eM]; grind) (by simp only [eM]; grind)
theorem cl_prod {D : Int} (hD : D < 0) {L L' M M' : List El} (h1 : Cl D L L') (h2 : Cl D M M') : Cl D (eP D L M) (eP D L' M') := by
  obtain ⟨a, b, ha, hb, h⟩ := h1
  obtain ⟨c, d, hc, hd, k⟩ := h2
  exact cl_mk (eM_ne hD ha hc) (eM_ne hD hb hd) (cl_prod_half h k) (cl_prod_half (fun x => (h x).symm) (fun x => (k x).symm))
theorem cl_comm (D : Int) (L M : List El) : Cl D (eP D L M) (eP D M L) := by
  refine cl_of_sp (sp_iff ?_ ?_)
  · intro l hl
    obtain ⟨x, hx, y, hy, e⟩ := mem_eP.1 hl
    rw [e, eM_comm]
    exact sp_mem (mem_eP.2 ⟨y, hy, x, hx, rfl⟩)
  · intro l hl
    obtain ⟨x, hx, y, hy, e⟩ := mem_eP.1 hl
    rw [e, eM_comm]
    exact sp_mem (mem_eP.2 ⟨y, hy, x, hx, rfl⟩)
theorem cl_assoc (D : Int) (L M N : List El) : Cl D (eP D (eP D L M) N) (eP D L (eP D M N)) := by
  refine cl_of_sp (sp_iff ?_ ?_)
  · intro l hl
    obtain ⟨x, hx, y, hy, e⟩ := mem_eP.1 hl
    obtain ⟨z, hz, w, hw, e2⟩ := mem_eP.1 hx
    rw [e, e2, eM_assoc]
    exact sp_mem (mem_eP.2 ⟨z, hz, _, mem_eP.2 ⟨w, hw, y, hy, rfl⟩, rfl⟩)
  · intro l hl
    obtain ⟨x, hx, y, hy, e⟩ := mem_eP.1 hl
    obtain ⟨z, hz, w, hw, e2⟩ := mem_eP.1 hy
    rw [e, e2, ← eM_assoc]
    exact sp_mem (mem_eP.2 ⟨_, mem_eP.2 ⟨x, hx, z, hz, rfl⟩, w, hw, rfl⟩)
/-- The module of a form. -/
def fL (f : Int × Int × Int) : List El := [(2 * f.1, 0), (f.2.1, 1)]
def fD (f : Int × Int × Int) : Int := f.2.1 * f.2.1 - 4 * f.1 * f.2.2
/-- One form is the other one after a substitution of determinant 1. -/
def Eqf (f g : Int × Int × Int) : Prop := ∃ p q r s : Int, p * s - q * r = 1 ∧ f.1 = g.1 * p * p + g.2.1 * p * r + g.2.2 * r * r ∧ f.2.1 = 2 * g.1 * p * q + g.2.1 * (p * s + q * r) + 2 * g.2.2 * r * s ∧ f.2.2 = g.1 * q * q + g.2.1 * q * s + g.2.2 * s * s
theorem eqf_disc {f g : Int × Int × Int} (h : Eqf f g) : fD f = fD g := by
  obtain ⟨p, q, r, s, hdet, e1, e2, e3⟩ := h
  simp only [fD]
  have : p * s = 1 + q * r := by omega
  rw [e1, e2, e3]
  grind
theorem cl_of_eqf {f g : Int × Int × Int} (hf : 0 < f.1) (hg : 0 < g.1) (h : Eqf f g) : Cl (fD g) (fL f) (fL g) := by
  have hd := eqf_disc h
  obtain ⟨p, q, r, s, hdet, e1, e2, e3⟩ := h
  obtain ⟨a, b, c⟩ := f
  obtain ⟨a', b', c'⟩ := g
  simp only [fD] at hd hf hg e1 e2 e3 ⊢
  have hps : p * s = 1 + q * r := by omega
  have hne : ((2 * a' * p + b' * r, r) : El) ≠ (0, 0) := by
    intro h0
    have h1 : r = 0 := congrArg Prod.snd h0
    have h2 : 2 * a' * p + b' * r = 0 := congrArg Prod.fst h0
    subst h1
    have h3 : p = 0 := by
      have : 2 * a' * p = 0 := by omega
      rcases Int.mul_eq_zero.1 this with h4 | h4
      · omega
      · exact h4
    subst h3
    omega
  have hne2 : ((2 * a, 0) : El) ≠ (0, 0) := by
    intro h0
    have h1 : 2 * a = 0 := congrArg Prod.fst h0
    omega
  have k1 : eM (b' * b' - 4 * a' * c') (2 * a' * p + b' * r, r) (2 * a, 0) = eM (b' * b' - 4 * a' * c') (2 * a, 0) (eA (eK p (2 * a', 0)) (eK r (b', 1))) := el_ext (by simp only [eM, eA, eK]; grind) (by simp only [eM, eA, eK]; grind)
  have k2 : eM (b' * b' - 4 * a' * c') (2 * a' * p + b' * r, r) (b, 1) = eM (b' * b' - 4 * a' * c') (2 * a, 0) (eA (eK q (2 * a', 0)) (eK s (b', 1))) := by
    refine el_ext ?_ ?_
    · simp only [eM, eA, eK]
      rw [e1, e2]
      have : (2 * a' * p + b' * r) * (2 * a' * p * q + b' * (p * s + q * r) + 2 * c' * r * s) + (b' * b' - 4 * a' * c') * r * 1 - (2 * (a' * p * p + b' * p * r + c' * r * r) * (q * (2 * a') + s * b') + (b' * b' - 4 * a' * c') * 0 * (q * 0 + s * 1)) = (b' * b' - 4 * a' * c') * r * (1 - (p * s - q * r)) := by grind
      rw [hdet] at this
      omega
    · simp only [eM, eA, eK]
      rw [e1, e2]
      have : (2 * a' * p + b' * r) * 1 + r * (2 * a' * p * q + b' * (p * s + q * r) + 2 * c' * r * s) - (2 * (a' * p * p + b' * p * r + c' * r * r) * (q * 0 + s * 1) + 0 * (q * (2 * a') + s * b')) = (2 * a' * p + b' * r) * (1 - (p * s - q * r)) := by grind
      rw [hdet] at this
      omega
  refine cl_mk hne hne2 ?_ ?_
  · intro l hl
    simp only [fL, List.mem_cons, List.not_mem_nil, or_false] at hl
    rcases hl with e | e
    · subst e; rw [k1]; exact sp_eL.2 ⟨_, sp_comb p r, rfl⟩
    · subst e; rw [k2]; exact sp_eL.2 ⟨_, sp_comb q s, rfl⟩
  · intro l hl
    have j1 : eA (eK s (eA (eK p (2 * a', 0)) (eK r (b', 1)))) (eK (-r) (eA (eK q (2 * a', 0)) (eK s (b', 1)))) = ((2 * a', 0) : El) := by
      refine el_ext ?_ ?_
      · simp only [eA, eK]
        have : s * (p * (2 * a') + r * b') + -r * (q * (2 * a') + s * b') = 2 * a' * (p * s - q * r) := by grind
        rw [hdet] at this
        omega
      · simp only [eA, eK]; grind
    have j2 : eA (eK (-q) (eA (eK p (2 * a', 0)) (eK r (b', 1)))) (eK p (eA (eK q (2 * a', 0)) (eK s (b', 1)))) = ((b', 1) : El) := by
      refine el_ext ?_ ?_
      · simp only [eA, eK]
        have : -q * (p * (2 * a') + r * b') + p * (q * (2 * a') + s * b') = b' * (p * s - q * r) := by grind
        rw [hdet] at this
        omega
      · simp only [eA, eK]; grind
    have m1 : ∀ x y : Int, eM (b' * b' - 4 * a' * c') (2 * a, 0) (eA (eK x (eA (eK p (2 * a', 0)) (eK r (b', 1)))) (eK y (eA (eK q (2 * a', 0)) (eK s (b', 1))))) = eA (eK x (eM (b' * b' - 4 * a' * c') (2 * a, 0) (eA (eK p (2 * a', 0)) (eK r (b', 1))))) (eK y (eM (b' * b' - 4 * a' * c') (2 * a, 0) (eA (eK q (2 * a', 0)) (eK s (b', 1))))) := by
      intro x y
      exact el_ext (by simp only [eM, eA, eK]; grind) (by simp only [eM, eA, eK]; grind)
    have m2 : ∀ x y : Int, Sp (eL (b' * b' - 4 * a' * c') (2 * a' * p + b' * r, r) (fL (a, b, c))) (eA (eK x (eM (b' * b' - 4 * a' * c') (2 * a, 0) (eA (eK p (2 * a', 0)) (eK r (b', 1))))) (eK y (eM (b' * b' - 4 * a' * c') (2 * a, 0) (eA (eK q (2 * a', 0)) (eK s (b', 1)))))) := by
      intro x y
      rw [← k1, ← k2]
      exact sp_add (sp_mul (sp_eL.2 ⟨_, sp_mem (by simp [fL]), rfl⟩) x) (sp_mul (sp_eL.2 ⟨_, sp_mem (by simp [fL]), rfl⟩) y)
    simp only [fL, List.mem_cons, List.not_mem_nil, or_false] at hl
    rcases hl with e | e
    · subst e; rw [← j1, m1]; exact m2 _ _
    · subst e; rw [← j2, m1]; exact m2 _ _
theorem eN_comb (D : Int) (p r : Int) (u v : El) : eN D (eA (eK p u) (eK r v)) = p * p * eN D u + 2 * p * r * eT D u v + r * r * eN D v := by
  simp only [eN, eA, eK, eT]; grind
theorem eT_comb (D : Int) (p r q s : Int) (u v : El) : eT D (eA (eK p u) (eK r v)) (eA (eK q u) (eK s v)) = p * q * eN D u + (p * s + q * r) * eT D u v + r * s * eN D v := by
  simp only [eN, eA, eK, eT]; grind
theorem eW_comb (p r q s : Int) (u v : El) : eW (eA (eK p u) (eK r v)) (eA (eK q u) (eK s v)) = (p * s - q * r) * eW u v := by
  simp only [eW, eA, eK]; grind
theorem eT_mul (D : Int) (a x y : El) : eT D (eM D a x) (eM D a y) = eN D a * eT D x y := by simp only [eN, eM, eT]; grind
theorem eW_mul (D : Int) (a x y : El) : eW (eM D a x) (eM D a y) = eN D a * eW x y := by simp only [eN, eM, eW]; grind
/-- Forms whose modules are in one class are equivalent. -/
theorem eqf_of_cl {f g : Int × Int × Int} (hf : 0 < f.1) (hg : 0 < g.1) (hD : fD g < 0) (hd : fD f = fD g) (h : Cl (fD g) (fL f) (fL g)) : Eqf f g := by
  obtain ⟨α, β, hα, hβ, hs⟩ := h
  have hNα := eN_pos hD hα
  have hNβ := eN_pos hD hβ
  have half : ∀ {f g : Int × Int × Int} {α β : El}, (∀ x, Sp (eL (fD g) α (fL f)) x ↔ Sp (eL (fD g) β (fL g)) x) → ∃ p q r s : Int, eM (fD g) α (2 * f.1, 0) = eM (fD g) β (eA (eK p (2 * g.1, 0)) (eK r (g.2.1, 1))) ∧ eM (fD g) α (f.2.1, 1) = eM (fD g) β (eA (eK q (2 * g.1, 0)) (eK s (g.2.1, 1))) := by
    intro f g α β hs
    obtain ⟨y, hy, e1⟩ := sp_eL.1 ((hs _).1 (sp_eL.2 ⟨(2 * f.1, 0), sp_mem (by simp [fL]), rfl⟩))
    obtain ⟨z, hz, e2⟩ := sp_eL.1 ((hs _).1 (sp_eL.2 ⟨(f.2.1, 1), sp_mem (by simp [fL]), rfl⟩))
    obtain ⟨p, r, e3⟩ := sp_two hy
    obtain ⟨q, s, e4⟩ := sp_two hz
    exact ⟨p, q, r, s, by rw [e1, e3], by rw [e2, e4]⟩
  obtain ⟨p, q, r, s, e1, e2⟩ := half hs
  obtain ⟨p', q', r', s', e3, e4⟩ := half (f := g) (g := f) (by rw [hd]; exact fun x => (hs x).symm)
  rw [hd] at e3 e4
  have w1 : eN (fD g) α * (2 * f.1) = eN (fD g) β * ((p * s - q * r) * (2 * g.1)) := by
    have h1 := eW_mul (fD g) α (2 * f.1, 0) (f.2.1, 1)
    rw [e1, e2, eW_mul, eW_comb] at h1
    simpa [eW] using h1.symm
  have w2 : eN (fD g) β * (2 * g.1) = eN (fD g) α * ((p' * s' - q' * r') * (2 * f.1)) := by
    have h1 := eW_mul (fD g) β (2 * g.1, 0) (g.2.1, 1)
    rw [e3, e4, eW_mul, eW_comb] at h1
    simpa [eW] using h1.symm
  have hX : 0 < eN (fD g) α * (2 * f.1) := Int.mul_pos hNα (by omega)
  have hY : 0 < eN (fD g) β * (2 * g.1) := Int.mul_pos hNβ (by omega)
  have hdet : p * s - q * r = 1 := by
    have x1 : eN (fD g) α * (2 * f.1) = (eN (fD g) β * (2 * g.1)) * (p * s - q * r) := by rw [w1]; grind
    have x2 : eN (fD g) β * (2 * g.1) = (eN (fD g) α * (2 * f.1)) * (p' * s' - q' * r') := by
      have : eN (fD g) α * ((p' * s' - q' * r') * (2 * f.1)) = (eN (fD g) α * (2 * f.1)) * (p' * s' - q' * r') := by grind
      rw [← this]; exact w2
    generalize hXX : eN (fD g) α * (2 * f.1) = X at *
    generalize hYY : eN (fD g) β * (2 * g.1) = Y at *
    generalize p * s - q * r = t at *
    generalize p' * s' - q' * r' = t' at *
    have ht : 0 < t := by
      rcases Int.lt_or_le 0 t with h | h
      · exact h
      · have : Y * t ≤ 0 := Int.mul_nonpos_of_nonneg_of_nonpos (by omega) h
        omega
    have ht' : 0 < t' := by
      rcases Int.lt_or_le 0 t' with h | h
      · exact h
      · have : X * t' ≤ 0 := Int.mul_nonpos_of_nonneg_of_nonpos (by omega) h
        omega
    have h1 : X * 1 = X * (t' * t) := by
      have : X = X * t' * t := by rw [← x2]; exact x1
      rw [Int.mul_one, ← Int.mul_assoc]; exact this
    have h2 : 1 = t' * t := Int.eq_of_mul_eq_mul_left (by omega) h1
    have h3 : 1 * t ≤ t' * t := Int.mul_le_mul_of_nonneg_right (by omega) (by omega)
    omega
  have key : eN (fD g) α * f.1 = eN (fD g) β * g.1 := by
    rw [hdet] at w1
    have : 2 * (eN (fD g) α * f.1) = 2 * (eN (fD g) β * g.1) := by grind
    omega
  have hK : 0 < eN (fD g) α * f.1 := Int.mul_pos hNα hf
  have n1 : eN (fD g) (2 * g.1, 0) = 4 * g.1 * g.1 := by simp only [eN]; grind
  have n2 : eN (fD g) (g.2.1, 1) = 4 * g.1 * g.2.2 := by simp only [eN, fD]; grind
  have n3 : eT (fD g) (2 * g.1, 0) (g.2.1, 1) = 2 * g.1 * g.2.1 := by simp only [eT]; grind
  have m1 : eN (fD g) (2 * f.1, 0) = 4 * f.1 * f.1 := by simp only [eN]; grind
  have m2 : eN (fD g) (f.2.1, 1) = 4 * f.1 * f.2.2 := by rw [← hd]; simp only [eN, fD]; grind
  have m3 : eT (fD g) (2 * f.1, 0) (f.2.1, 1) = 2 * f.1 * f.2.1 := by simp only [eT]; grind
  have v1 : eN (fD g) α * (4 * f.1 * f.1) = eN (fD g) β * (p * p * (4 * g.1 * g.1) + 2 * p * r * (2 * g.1 * g.2.1) + r * r * (4 * g.1 * g.2.2)) := by
    rw [← m1, ← n1, ← n2, ← n3, ← eN_comb, ← eN_mul, ← eN_mul, e1]
  have v2 : eN (fD g) α * (4 * f.1 * f.2.2) = eN (fD g) β * (q * q * (4 * g.1 * g.1) + 2 * q * s * (2 * g.1 * g.2.1) + s * s * (4 * g.1 * g.2.2)) := by
    rw [← m2, ← n1, ← n2, ← n3, ← eN_comb, ← eN_mul, ← eN_mul, e2]
  have v3 : eN (fD g) α * (2 * f.1 * f.2.1) = eN (fD g) β * (p * q * (4 * g.1 * g.1) + (p * s + q * r) * (2 * g.1 * g.2.1) + r * s * (4 * g.1 * g.2.2)) := by
    rw [← m3, ← n1, ← n2, ← n3, ← eT_comb, ← eT_mul, ← eT_mul, e1, e2]
  have canc : ∀ x y : Int, (eN (fD g) α * f.1) * x = (eN (fD g) β * g.1) * y → x = y := by
    intro x y h
    rw [← key] at h
    exact Int.eq_of_mul_eq_mul_left (by omega) h
  generalize eN (fD g) α = A at *
  generalize eN (fD g) β = B at *
  refine ⟨p, q, r, s, hdet, canc _ _ ?_, canc _ _ ?_, canc _ _ ?_⟩
  · have e1 : 4 * (A * f.1 * f.1) = A * (4 * f.1 * f.1) := by grind
    have e2 : 4 * (B * g.1 * (g.1 * p * p + g.2.1 * p * r + g.2.2 * r * r)) = B * (p * p * (4 * g.1 * g.1) + 2 * p * r * (2 * g.1 * g.2.1) + r * r * (4 * g.1 * g.2.2)) := by grind
    omega
  · have e1 : 2 * (A * f.1 * f.2.1) = A * (2 * f.1 * f.2.1) := by grind
    have e2 : 2 * (B * g.1 * (2 * g.1 * p * q + g.2.1 * (p * s + q * r) + 2 * g.2.2 * r * s)) = B * (p * q * (4 * g.1 * g.1) + (p * s + q * r) * (2 * g.1 * g.2.1) + r * s * (4 * g.1 * g.2.2)) := by grind
    omega
  · have e1 : 4 * (A * f.1 * f.2.2) = A * (4 * f.1 * f.2.2) := by grind
    have e2 : 4 * (B * g.1 * (g.1 * q * q + g.2.1 * q * s + g.2.2 * s * s)) = B * (q * q * (4 * g.1 * g.1) + 2 * q * s * (2 * g.1 * g.2.1) + s * s * (4 * g.1 * g.2.2)) := by grind
    omega
end Go.Proofs.YtfmjfofocklgpaaGreatDoor
namespace Go.Proofs.YtfmjfofocklgpaaGreatDoor
set_option linter.unusedVariables false
set_option linter.unusedSimpArgs false
theorem mem_fP {D : Int} {a b a' b' : Int} {x : El} {c c' : Int} (h : x ∈ eP D (fL (a, b, c)) (fL (a', b', c'))) : x = (4 * a * a', 0) ∨ x = (2 * a * b', 2 * a) ∨ x = (2 * a' * b, 2 * a') ∨ x = (b * b' + D, b + b') := by
  obtain ⟨l, hl, m, hm, e⟩ := mem_eP.1 h
  simp only [fL, List.mem_cons, List.not_mem_nil, or_false] at hl hm
  rcases hl with e1 | e1 <;> rcases hm with e2 | e2 <;> subst e1 e2
  · left; rw [e]; exact el_ext (by simp only [eM]; grind) (by simp only [eM]; grind)
  · right; left; rw [e]; exact el_ext (by simp only [eM]; grind) (by simp only [eM]; grind)
  · right; right; left; rw [e]; exact el_ext (by simp only [eM]; grind) (by simp only [eM]; grind)
  · right; right; right; rw [e]; exact el_ext (by simp only [eM]; grind) (by simp only [eM]; grind)
theorem fP_1 (D a b c a' b' c' : Int) : Sp (eP D (fL (a, b, c)) (fL (a', b', c'))) (4 * a * a', 0) := by
  have : eM D (2 * a, 0) (2 * a', 0) = (4 * a * a', 0) := el_ext (by simp only [eM]; grind) (by simp only [eM]; grind)
  rw [← this]; exact sp_eP (sp_mem (by simp [fL])) (sp_mem (by simp [fL]))
theorem fP_2 (D a b c a' b' c' : Int) : Sp (eP D (fL (a, b, c)) (fL (a', b', c'))) (2 * a * b', 2 * a) := by
  have : eM D (2 * a, 0) (b', 1) = (2 * a * b', 2 * a) := el_ext (by simp only [eM]; grind) (by simp only [eM]; grind)
  rw [← this]; exact sp_eP (sp_mem (by simp [fL])) (sp_mem (by simp [fL]))
theorem fP_3 (D a b c a' b' c' : Int) : Sp (eP D (fL (a, b, c)) (fL (a', b', c'))) (2 * a' * b, 2 * a') := by
  have : eM D (b, 1) (2 * a', 0) = (2 * a' * b, 2 * a') := el_ext (by simp only [eM]; grind) (by simp only [eM]; grind)
  rw [← this]; exact sp_eP (sp_mem (by simp [fL])) (sp_mem (by simp [fL]))
theorem fP_4 (D a b c a' b' c' : Int) : Sp (eP D (fL (a, b, c)) (fL (a', b', c'))) (b * b' + D, b + b') := by
  have : eM D (b, 1) (b', 1) = (b * b' + D, b + b') := el_ext (by simp only [eM]; grind) (by simp only [eM]; grind)
  rw [← this]; exact sp_eP (sp_mem (by simp [fL])) (sp_mem (by simp [fL]))
theorem sp_in {L : List El} {x y : El} (h : Sp L x) (e : x = y) : Sp L y := e ▸ h
/-- A multiple by a whole number, as one by an element. -/
theorem eM_k (D k : Int) (x : El) : eM D (k, 0) x = eK k x := el_ext (by simp only [eM, eK]; grind) (by simp only [eM, eK]; grind)
theorem fS (a b c : Int) (p q x y : Int) (hx : x = 2 * a * p + b * q) (hy : y = q) : Sp (fL (a, b, c)) (x, y) := by
  have := sp_comb (u := (2 * a, 0)) (v := (b, 1)) p q
  exact sp_in this (el_ext (by simp only [eA, eK]; rw [hx]; grind) (by simp only [eA, eK]; rw [hy]; grind))
theorem eMk_in {D k : Int} {L : List El} {x y : El} (h : Sp L x) (e : eK k x = y) : Sp (eL D (k, 0) L) y := sp_eL.2 ⟨x, h, by rw [eM_k]; exact e.symm⟩
/-- The product of united forms. -/
theorem cl_united {D a e b c s t : Int} (hD : D = b * b - 4 * a * e * c) (hst : s * a + t * e = 1) : Cl D (eP D (fL (a, b, e * c)) (fL (e, b, a * c))) (fL (a * e, b, c)) := by
  refine cl_mk (a := (1, 0)) (b := (2, 0)) (by simp) (by simp) ?_ ?_
  · intro l hl
    rw [eM_k]
    rcases mem_fP hl with h | h | h | h
    · subst h; exact eMk_in (fS _ _ _ 1 0 (2 * a * e) 0 (by grind) rfl) (el_ext (by simp only [eK]; grind) (by simp only [eK]; grind))
    · subst h; exact eMk_in (fS _ _ _ 0 a (a * b) a (by grind) rfl) (el_ext (by simp only [eK]; grind) (by simp only [eK]; grind))
    · subst h; exact eMk_in (fS _ _ _ 0 e (e * b) e (by grind) rfl) (el_ext (by simp only [eK]; grind) (by simp only [eK]; grind))
    · subst h; exact eMk_in (fS _ _ _ (-c) b (b * b - 2 * a * e * c) b (by grind) rfl) (el_ext (by simp only [eK]; grind) (by simp only [eK]; grind))
  · intro l hl
    rw [eM_k]
    simp only [fL, List.mem_cons, List.not_mem_nil, or_false] at hl
    rcases hl with h | h
    · subst h; exact eMk_in (fP_1 D a b (e * c) e b (a * c)) (el_ext (by simp only [eK]; grind) (by simp only [eK]; grind))
    · subst h
      refine eMk_in (sp_add (sp_mul (fP_2 D a b (e * c) e b (a * c)) s) (sp_mul (fP_3 D a b (e * c) e b (a * c)) t)) (el_ext ?_ ?_)
      · simp only [eK, eA]
        have : 1 * (s * (2 * a * b) + t * (2 * e * b)) = 2 * b * (s * a + t * e) := by grind
        rw [this, hst]; omega
      · simp only [eK, eA]
        have : 1 * (s * (2 * a) + t * (2 * e)) = 2 * (s * a + t * e) := by grind
        rw [this, hst]; try omega
/-- The identity. -/
theorem cl_one {D a b c p c0 m : Int} (hD : D = b * b - 4 * a * c) (hm : b + p = 2 * m) : Cl D (eP D (fL (1, p, c0)) (fL (a, b, c))) (fL (a, b, c)) := by
  refine cl_mk (a := (1, 0)) (b := (2, 0)) (by simp) (by simp) ?_ ?_
  · intro l hl
    rw [eM_k]
    rcases mem_fP hl with h | h | h | h
    · subst h; exact eMk_in (fS _ _ _ 1 0 (2 * a) 0 (by grind) rfl) (el_ext (by simp only [eK]; grind) (by simp only [eK]; grind))
    · subst h; exact eMk_in (fS _ _ _ 0 1 b 1 (by grind) rfl) (el_ext (by simp only [eK]; grind) (by simp only [eK]; grind))
    · subst h; exact eMk_in (fS _ _ _ (p - m) a (a * p) a (by grind) rfl) (el_ext (by simp only [eK]; grind) (by simp only [eK]; grind))
    · subst h; exact eMk_in (fS _ _ _ (-c) m (b * m - 2 * a * c) m (by grind) rfl) (el_ext (by simp only [eK]; grind) (by simp only [eK]; grind))
  · intro l hl
    rw [eM_k]
    simp only [fL, List.mem_cons, List.not_mem_nil, or_false] at hl
    rcases hl with h | h
    · subst h; exact eMk_in (fP_1 D 1 p c0 a b c) (el_ext (by simp only [eK]; grind) (by simp only [eK]; grind))
    · subst h; exact eMk_in (fP_2 D 1 p c0 a b c) (el_ext (by simp only [eK]; grind) (by simp only [eK]; grind))
/-- The inverse. -/
theorem cl_inv {D a b c p c0 m x y z : Int} (ha : 0 < a) (hD : D = b * b - 4 * a * c) (hm : b + p = 2 * m) (hx : x * a + y * b + z * c = 1) : Cl D (eP D (fL (a, b, c)) (fL (a, -b, c))) (fL (1, p, c0)) := by
  refine cl_mk (a := (1, 0)) (b := (2 * a, 0)) (by simp) (by intro h; have h0 : 2 * a = 0 := congrArg Prod.fst h; omega) ?_ ?_
  · intro l hl
    rw [eM_k]
    rcases mem_fP hl with h | h | h | h
    · subst h; exact eMk_in (fS _ _ _ a 0 (2 * a) 0 (by grind) rfl) (el_ext (by simp only [eK]; grind) (by simp only [eK]; grind))
    · subst h; exact eMk_in (fS _ _ _ (-m) 1 (-b) 1 (by grind) rfl) (el_ext (by simp only [eK]; grind) (by simp only [eK]; grind))
    · subst h; exact eMk_in (fS _ _ _ (m - p) 1 b 1 (by grind) rfl) (el_ext (by simp only [eK]; grind) (by simp only [eK]; grind))
    · subst h; exact eMk_in (fS _ _ _ (-c) 0 (-2 * c) 0 (by grind) rfl) (el_ext (by simp only [eK]; grind) (by simp only [eK]; grind))
  · intro l hl
    rw [eM_k]
    have k1 : Sp (eP D (fL (a, b, c)) (fL (a, -b, c))) (4 * a * a, 0) := fP_1 D a b c a (-b) c
    have k2 : Sp (eP D (fL (a, b, c)) (fL (a, -b, c))) (2 * a * b, 2 * a) := fP_3 D a b c a (-b) c
    have k3 : Sp (eP D (fL (a, b, c)) (fL (a, -b, c))) (-(4 * a * c), 0) := sp_in (fP_4 D a b c a (-b) c) (el_ext (by simp only []; grind) (by simp only []; omega))
    have k4 : Sp (eP D (fL (a, b, c)) (fL (a, -b, c))) (4 * a * b, 0) := sp_in (sp_sub k2 (fP_2 D a b c a (-b) c)) (el_ext (by simp only [eS]; grind) (by simp only [eS]; omega))
    have k5 : Sp (eP D (fL (a, b, c)) (fL (a, -b, c))) (4 * a, 0) := by
      refine sp_in (sp_add (sp_add (sp_mul k1 x) (sp_mul k4 y)) (sp_mul k3 (-z))) (el_ext ?_ (by simp only [eA, eK]; grind))
      simp only [eA, eK]
      have : x * (4 * a * a) + y * (4 * a * b) + -z * -(4 * a * c) = 4 * a * (x * a + y * b + z * c) := by grind
      rw [this, hx]; omega
    simp only [fL, List.mem_cons, List.not_mem_nil, or_false] at hl
    rcases hl with h | h
    · subst h; exact eMk_in k5 (el_ext (by simp only [eK]; grind) (by simp only [eK]; grind))
    · subst h
      exact eMk_in (sp_add k2 (sp_mul k5 (p - m))) (el_ext (by simp only [eK, eA]; grind) (by simp only [eK, eA]; grind))
end Go.Proofs.YtfmjfofocklgpaaGreatDoor
namespace Go.Proofs.YtfmjfofocklgpaaGreatDoor
set_option linter.unusedVariables false
set_option linter.unusedSimpArgs false
theorem uq_mul {x y z : Int} (hx : 0 ≤ x) (h : y ≤ z) : x * y ≤ x * z := Int.mul_le_mul_of_nonneg_left h hx
/-- A reduced form's values off the first axis are no less than its last coefficient. -/
theorem uq_c {a b c x y : Int} (ha : 1 ≤ a) (hb1 : -a ≤ b) (hb2 : b ≤ a) (hc : a ≤ c) (hy : y ≠ 0) : c ≤ a * x * x + b * x * y + c * y * y := by
  have key : ∀ x y : Int, 0 ≤ x → 1 ≤ y → ∀ b, -a ≤ b → b ≤ a → c ≤ a * x * x + b * x * y + c * y * y := by
    intro x y hx hy b hb1 hb2
    have hxy : 0 ≤ x * y := Int.mul_nonneg hx (by omega)
    have h1 : -(a * (x * y)) ≤ b * (x * y) := by
      have : (-a) * (x * y) ≤ b * (x * y) := Int.mul_le_mul_of_nonneg_right hb1 hxy
      have e : (-a) * (x * y) = -(a * (x * y)) := Int.neg_mul ..
      omega
    have e1 : a * x * x + b * x * y + c * y * y = a * (x * x) + b * (x * y) + c * (y * y) := by grind
    rw [e1]
    rcases Int.le_total y x with h | h
    · have h2 : a * (x * y) ≤ a * (x * x) := uq_mul (by omega) (uq_mul hx h)
      have h3 : c * (1 * 1) ≤ c * (y * y) := uq_mul (by omega) (Int.mul_le_mul hy hy (by omega) (by omega))
      omega
    · by_cases h0 : x = 0
      · subst h0
        have h3 : c * (1 * 1) ≤ c * (y * y) := uq_mul (by omega) (Int.mul_le_mul hy hy (by omega) (by omega))
        simp only [Int.zero_mul, Int.mul_zero] at *
        omega
      · have h2 : a * (x * (y - x)) ≤ c * (x * (y - x)) := Int.mul_le_mul_of_nonneg_right hc (Int.mul_nonneg hx (by omega))
        have h4 : x * (y - x) ≤ (y - 1) * y := by
          rcases Int.lt_or_le x y with h5 | h5
          · have : x * (y - x) ≤ (y - 1) * (y - x) := Int.mul_le_mul_of_nonneg_right (by omega) (by omega)
            have : (y - 1) * (y - x) ≤ (y - 1) * y := uq_mul (by omega) (by omega)
            omega
          · have e : y - x = 0 := by omega
            rw [e, Int.mul_zero]
            exact Int.mul_nonneg (by omega) (by omega)
        have h6 : c * (x * (y - x)) ≤ c * ((y - 1) * y) := uq_mul (by omega) h4
        have e2 : a * (x * (y - x)) = a * (x * y) - a * (x * x) := by grind
        have e3 : c * ((y - 1) * y) = c * (y * y) - c * y := by grind
        have h7 : c * 1 ≤ c * y := uq_mul (by omega) hy
        omega
  have e2 : a * x * x + b * x * y + c * y * y = a * (-x) * (-x) + (-b) * (-x) * y + c * y * y := by grind
  have e3 : a * x * x + b * x * y + c * y * y = a * x * x + (-b) * x * (-y) + c * (-y) * (-y) := by grind
  have e4 : a * x * x + b * x * y + c * y * y = a * (-x) * (-x) + b * (-x) * (-y) + c * (-y) * (-y) := by grind
  rcases Int.lt_or_le 0 y with h1 | h1 <;> rcases Int.le_total 0 x with h2 | h2
  · exact key x y h2 h1 b hb1 hb2
  · rw [e2]; exact key (-x) y (by omega) h1 (-b) (by omega) (by omega)
  · rw [e3]; exact key x (-y) h2 (by omega) (-b) (by omega) (by omega)
  · rw [e4]; exact key (-x) (-y) (by omega) (by omega) b hb1 hb2
theorem uq_a {a b c x y : Int} (ha : 1 ≤ a) (hb1 : -a ≤ b) (hb2 : b ≤ a) (hc : a ≤ c) (h : x ≠ 0 ∨ y ≠ 0) : a ≤ a * x * x + b * x * y + c * y * y := by
  by_cases hy : y = 0
  · subst hy
    have hx : x ≠ 0 := by omega
    have h1 : 1 ≤ x * x := by
      have h2 : 0 < x * x := by
        rcases Int.lt_or_le 0 x with h3 | h3
        · exact Int.mul_pos h3 h3
        · exact Int.mul_pos_of_neg_of_neg (by omega) (by omega)
      omega
    have h2 : a * 1 ≤ a * (x * x) := uq_mul (by omega) h1
    have e : a * x * x + b * x * 0 + c * 0 * 0 = a * (x * x) := by grind
    omega
  · have := uq_c (x := x) ha hb1 hb2 hc hy
    omega
/-- Two reduced forms of one class are equal. -/
theorem uq_a2 {a b c a' b' c' p q r s : Int} (ha : 1 ≤ a) (h1 : IsRed a b c) (ha' : 1 ≤ a') (h2 : IsRed a' b' c') (hdet : p * s - q * r = 1) (e1 : a' = a * p * p + b * p * r + c * r * r) : a ≤ a' ∧ (r ≠ 0 → c ≤ a') := by
  obtain ⟨⟨i1, i2⟩, i3⟩ := h1
  have hac : a ≤ c := by omega
  have hpr : p ≠ 0 ∨ r ≠ 0 := by
    rcases Decidable.em (p = 0) with h | h
    · right
      intro hr
      rw [h, hr] at hdet
      simp at hdet
    · exact .inl h
  refine ⟨by rw [e1]; exact uq_a ha (by omega) i2 hac hpr, fun hr => by rw [e1]; exact uq_c ha (by omega) i2 hac hr⟩
theorem red_uniq {a b c a' b' c' p q r s : Int} (ha : 1 ≤ a) (h1 : IsRed a b c) (ha' : 1 ≤ a') (h2 : IsRed a' b' c') (hdet : p * s - q * r = 1) (e1 : a' = a * p * p + b * p * r + c * r * r) (e2 : b' = 2 * a * p * q + b * (p * s + q * r) + 2 * c * r * s) (e3 : c' = a * q * q + b * q * s + c * s * s) : a = a' ∧ b = b' ∧ c = c' := by
  have f1 : a = a' * s * s + b' * s * (-r) + c' * (-r) * (-r) := by rw [e1, e2, e3]; grind
  have hdet2 : s * p - (-q) * (-r) = 1 := by grind
  obtain ⟨k1, k2⟩ := uq_a2 ha h1 ha' h2 hdet e1
  obtain ⟨k3, k4⟩ := uq_a2 ha' h2 ha h1 hdet2 f1
  have hd : b * b - 4 * a * c = b' * b' - 4 * a' * c' := by rw [e1, e2, e3]; grind
  have haa : a = a' := by omega
  obtain ⟨⟨i1, i2⟩, i3⟩ := h1
  obtain ⟨⟨j1, j2⟩, j3⟩ := h2
  have fin : b = b' → a = a' ∧ b = b' ∧ c = c' := by
    intro hb
    refine ⟨haa, hb, ?_⟩
    subst haa hb
    have : 4 * a * c = 4 * a * c' := by omega
    exact Int.eq_of_mul_eq_mul_left (by omega) this
  by_cases hr : r = 0
  · subst hr
    have hps : p * s = 1 := by omega
    have hd1 : p.natAbs ∣ 1 := ⟨s.natAbs, by rw [← Int.natAbs_mul, hps]; rfl⟩
    have hp : p = 1 ∨ p = -1 := by have := Nat.dvd_one.1 hd1; omega
    have small : ∀ t : Int, -(2 * a) < 2 * a * t → 2 * a * t < 2 * a → t = 0 := by
      intro t h3 h4
      rcases Int.lt_trichotomy t 0 with h | h | h
      · have : 2 * a * t ≤ 2 * a * (-1) := uq_mul (by omega) (by omega)
        omega
      · exact h
      · have : 2 * a * 1 ≤ 2 * a * t := uq_mul (by omega) (by omega)
        omega
    rcases hp with h | h
    · subst h
      have hs : s = 1 := by omega
      subst hs
      have e4 : b' = 2 * a * q + b := by rw [e2]; grind
      have hq := small q (by omega) (by omega)
      rw [hq] at e4
      exact fin (by omega)
    · subst h
      have hs : s = -1 := by omega
      subst hs
      have e4 : b' = 2 * a * (-q) + b := by rw [e2]; grind
      have hq := small (-q) (by omega) (by omega)
      rw [hq] at e4
      exact fin (by omega)
  · have m1 := k2 hr
    have m2 := k4 (by omega)
    have hcc : c = c' := by omega
    subst haa hcc
    have hb : b = b' := by
      have hsq : (b - b') * (b + b') = 0 := by grind
      rcases Int.mul_eq_zero.1 hsq with h | h <;> omega
    exact fin hb
end Go.Proofs.YtfmjfofocklgpaaGreatDoor
namespace Go.Proofs.YtfmjfofocklgpaaGreatDoor
set_option linter.unusedVariables false
set_option linter.unusedSimpArgs false
/-- The loop for the common second coefficient. -/
theorem unite_run {a b c e hB hC : Int} {mm : Int × Int × Int × Int} {b0 k1 : Int} (ha : 1 ≤ a) (ha2 : a ≤ 26) (he : 1 ≤ e) (he2 : e ≤ 10000) (hb0 : 0 ≤ b0) (hb02 : b0 < 2 * a) (hB0 : 0 ≤ hB) (hB2 : hB < 2 * e) (hk1 : k1 < e) (hd : 2 * e ∣ b0 + 2 * a * k1 - hB) : ∀ (n : Nat) (k : Int), 0 ≤ k → k ≤ k1 → (k1 - k).toNat < n →
    ∃ k2, r_impl_unite_L7 (a, b, c) ((e, hB, hC), mm) n (b0 + 2 * a * k) = some (b0 + 2 * a * k2) ∧ k ≤ k2 ∧ k2 ≤ k1 ∧ 2 * e ∣ b0 + 2 * a * k2 - hB
  | 0, k, h0, h1, hn => by omega
  | n + 1, k, h0, h1, hn => by
    have m1 : (2 * a * k).natAbs ≤ 2 * 26 * 10000 := abs_mul (abs_mul (by omega) (by omega)) (by omega)
    rw [r_impl_unite_L7]
    simp only []
    rw [zL (n := b0 + 2 * a * k - hB) (by omega), zL (n := 2 * e) (by omega), dsc_mod_val (by omega) (by omega)]
    simp only [Option.bind_some]
    by_cases hz : (b0 + 2 * a * k - hB) % (2 * e) = 0
    · rw [hz, eqI_true]
      exact ⟨k, rfl, Int.le_refl _, h1, Int.dvd_of_emod_eq_zero hz⟩
    · rw [eqI_false hz]
      simp only [Bool.not_false, cond_true, sI_eq]
      have hne : k ≠ k1 := by
        intro e
        rw [e] at hz
        exact hz (Int.emod_eq_zero_of_dvd hd)
      have e1 : b0 + 2 * a * k + 2 * a = b0 + 2 * a * (k + 1) := by rw [Int.mul_add]; omega
      rw [zL (n := 2 * a) (by omega), zL (n := b0 + 2 * a * k + 2 * a) (by omega), e1]
      obtain ⟨k2, j1, j2, j3, j4⟩ := unite_run ha ha2 he he2 hb0 hb02 hB0 hB2 hk1 hd n (k + 1) (by omega) (by omega) (by omega)
      exact ⟨k2, j1, by omega, j3, j4⟩
/-- Combinations that are the common divisor. -/
theorem bez_nat : ∀ (a b : Nat), ∃ x y : Int, x * a + y * b = (Nat.gcd a b : Int) := by
  intro a b
  induction a, b using Nat.gcd.induction with
  | H0 n => exact ⟨0, 1, by simp⟩
  | H1 m n hm ih =>
    obtain ⟨x, y, h⟩ := ih
    refine ⟨y - x * (n / m : Nat), x, ?_⟩
    rw [Nat.gcd_rec, ← h]
    have e : (n : Int) = (n % m : Nat) + m * (n / m : Nat) := by exact_mod_cast (Nat.mod_add_div n m).symm
    rw [e]
    grind
theorem bez_int (a b : Int) : ∃ x y : Int, x * a + y * b = (Int.gcd a b : Int) := by
  obtain ⟨x, y, h⟩ := bez_nat a.natAbs b.natAbs
  have sg : ∀ z : Int, ∃ t : Int, (z.natAbs : Int) = t * z := by
    intro z
    rcases Int.le_total 0 z with h | h
    · exact ⟨1, by omega⟩
    · exact ⟨-1, by omega⟩
  obtain ⟨s, hs⟩ := sg a
  obtain ⟨t, ht⟩ := sg b
  refine ⟨x * s, y * t, ?_⟩
  rw [hs, ht] at h
  rw [show Int.gcd a b = Nat.gcd a.natAbs b.natAbs from rfl, ← h]
  grind
/-- Coprime to the modulus: cancelled. -/
theorem cop_canc {a e v x : Int} (hi : e ∣ 1 - v * a) (h : e ∣ a * x) : e ∣ x := by
  obtain ⟨i, hi⟩ := hi
  obtain ⟨j, hj⟩ := h
  exact ⟨i * x + v * j, by grind⟩
theorem small_dvd {e x : Int} (h : e ∣ x) (h1 : -e < x) (h2 : x < e) : x = 0 := by
  have h3 : e.natAbs ∣ x.natAbs := Int.natAbs_dvd_natAbs.2 h
  rcases Nat.eq_zero_or_pos x.natAbs with h4 | h4
  · omega
  · have := Nat.le_of_dvd h4 h3
    omega
/-- What united forms are made of. -/
structure Uni (a b c A B C D x y q s e hB hC b1 c1 α β : Int) : Prop where
  mh : MatInv A B C x q y s e hB hC
  e1 : 1 ≤ e
  e2 : e ≤ 10000
  t : ∃ u v : Int, u * a + v * e = 1
  bα : b1 = b + 2 * a * α
  bβ : b1 = hB + 2 * e * β
  b0 : 0 ≤ b1
  b2 : b1 < 2 * a * e
  dis : b1 * b1 - 4 * a * e * c1 = D
  qb : q.natAbs ≤ 100000
  sb : s.natAbs ≤ 100000
  xy : 0 ≤ x ∧ x ≤ 3 ∧ 0 ≤ y ∧ y ≤ 3
theorem uni_c {a b c D e hB hC b1 α β : Int} (hd : b * b - 4 * a * c = D) (hh : hB * hB - 4 * e * hC = D) {u v : Int} (huv : u * a + v * e = 1) (bα : b1 = b + 2 * a * α) (bβ : b1 = hB + 2 * e * β) : b1 * b1 - 4 * a * e * (u * (hC + hB * β + e * β * β) + v * (c + b * α + a * α * α)) = D := by
  have f1 : b1 * b1 - D = 4 * a * (c + b * α + a * α * α) := by rw [bα, ← hd]; grind
  have f2 : b1 * b1 - D = 4 * e * (hC + hB * β + e * β * β) := by rw [bβ, ← hh]; grind
  generalize hC + hB * β + e * β * β = X at *
  generalize c + b * α + a * α * α = Y at *
  have f3 : (b1 * b1 - D) * 1 = 4 * a * e * (u * X + v * Y) := by
    rw [← huv]
    have : (b1 * b1 - D) * (u * a + v * e) = u * a * (b1 * b1 - D) + v * e * (b1 * b1 - D) := by grind
    rw [this]
    rw [show u * a * (b1 * b1 - D) = u * a * (4 * e * X) by rw [f2], show v * e * (b1 * b1 - D) = v * e * (4 * a * Y) by rw [f1]]
    grind
  omega
theorem uni_c1 {a e b1 c1 D : Int} (ha : 1 ≤ a) (he : 1 ≤ e) (b0 : 0 ≤ b1) (b2 : b1 < 2 * a * e) (hD1 : -2000 ≤ D) (hD2 : D < 0) (dis : b1 * b1 - 4 * a * e * c1 = D) : 1 ≤ c1 ∧ c1 ≤ a * e + 500 := by
  have hae : 1 * 1 ≤ a * e := Int.mul_le_mul ha he (by omega) (by omega)
  have e1 : 2 * a * e = 2 * (a * e) := Int.mul_assoc ..
  have e2 : 4 * a * e * c1 = 4 * (a * e * c1) := by grind
  generalize a * e = m at *
  have hbb : 0 ≤ b1 * b1 := Int.mul_nonneg b0 b0
  have hbb2 : b1 * b1 ≤ 2 * m * (2 * m) := Int.mul_le_mul (by omega) (by omega) b0 (by omega)
  have e3 : 2 * m * (2 * m) = 4 * (m * m) := by grind
  constructor
  · rcases Int.lt_or_le 0 c1 with h | h
    · exact h
    · have : m * c1 ≤ m * 0 := Int.mul_le_mul_of_nonneg_left h (by omega)
      omega
  · rcases Int.lt_or_le (m + 500) c1 with h | h
    · have k1 : m * (m + 501) ≤ m * c1 := Int.mul_le_mul_of_nonneg_left (by omega) (by omega)
      have k2 : m * (m + 501) = m * m + 501 * m := by grind
      omega
    · exact h
end Go.Proofs.YtfmjfofocklgpaaGreatDoor
namespace Go.Proofs.YtfmjfofocklgpaaGreatDoor
set_option linter.unusedVariables false
set_option linter.unusedSimpArgs false
theorem par_eq {b h D m n : Int} (h1 : b * b - 4 * m = D) (h2 : h * h - 4 * n = D) : b % 2 = h % 2 := by
  have k : ∀ z : Int, (z * z) % 2 = z % 2 := by
    intro z
    obtain ⟨t, ht | ht⟩ : ∃ t, z = 2 * t ∨ z = 2 * t + 1 := ⟨z / 2, by omega⟩
    · rw [ht, show 2 * t * (2 * t) = 2 * (2 * t * t) by grind]; omega
    · rw [ht, show (2 * t + 1) * (2 * t + 1) = 2 * (2 * t * t + 2 * t) + 1 by grind]; omega
  have := k b
  have := k h
  omega
/-- There is a common coefficient. -/
theorem common_ex {a e b0 hB : Int} (he : 1 ≤ e) (hg : Int.gcd a e = 1) (hp : b0 % 2 = hB % 2) : ∃ k1 v1, 0 ≤ k1 ∧ k1 < e ∧ 2 * e ∣ b0 + 2 * a * k1 - hB ∧ e ∣ 1 - v1 * a := by
  obtain ⟨v1, w1, h1⟩ := bez_int a e
  rw [hg] at h1
  obtain ⟨H, hH⟩ : ∃ H, hB - b0 = 2 * H := ⟨(hB - b0) / 2, by omega⟩
  have k0 := Int.emod_nonneg (H * v1) (b := e) (by omega)
  have k2 := Int.emod_lt_of_pos (H * v1) (b := e) (by omega)
  have k3 := Int.emod_add_mul_ediv (H * v1) e
  refine ⟨H * v1 % e, v1, k0, k2, ?_, ⟨w1, by have : e * w1 = w1 * e := Int.mul_comm ..; omega⟩⟩
  refine ⟨-(H * w1) - a * (H * v1 / e), ?_⟩
  have e1 : H * v1 % e = H * v1 - e * (H * v1 / e) := by omega
  generalize H * v1 / e = W at *
  have e2 : v1 * a = 1 - w1 * e := by omega
  have e3 : ∀ k, b0 + 2 * a * k - hB = 2 * (a * k - H) := by
    intro k
    have : 2 * a * k = 2 * (a * k) := Int.mul_assoc ..
    omega
  rw [e3, e1]
  have e4 : a * (H * v1 - e * W) - H = H * (v1 * a) - H - a * e * W := by grind
  rw [e4, e2]
  grind
theorem common_uni {a e b0 hB k k1 v1 : Int} (k0 : 0 ≤ k) (k2 : k < e) (k3 : 0 ≤ k1) (k4 : k1 < e) (h1 : 2 * e ∣ b0 + 2 * a * k1 - hB) (h2 : 2 * e ∣ b0 + 2 * a * k - hB) (h3 : e ∣ 1 - v1 * a) : k = k1 := by
  have d1 : 2 * e ∣ 2 * (a * (k1 - k)) := by
    obtain ⟨i, hi⟩ := h1
    obtain ⟨j, hj⟩ := h2
    refine ⟨i - j, ?_⟩
    have e1 : 2 * (a * (k1 - k)) = 2 * a * k1 - 2 * a * k := by grind
    have e2 : 2 * e * (i - j) = 2 * e * i - 2 * e * j := Int.mul_sub ..
    rw [e1, e2]
    omega
  have d2 : e ∣ a * (k1 - k) := by
    obtain ⟨i, hi⟩ := d1
    exact ⟨i, by have : 2 * e * i = 2 * (e * i) := Int.mul_assoc ..; omega⟩
  have := small_dvd (cop_canc h3 d2) (by omega) (by omega)
  omega
/-- The common coefficient, as the reference works it out. -/
theorem common_val {a e b0 hB : Int} (ha : 1 ≤ a) (ha2 : a ≤ 26) (he : 1 ≤ e) (he2 : e ≤ 10000) (hg : Int.gcd a e = 1) (hb0 : 0 ≤ b0) (hb02 : b0 < 2 * a) (hB0 : 0 ≤ hB) (hB2 : hB < 2 * e) (hp : b0 % 2 = hB % 2) :
    ∃ k1 z v1, r_spec_nuCommon b0 (2 * a) hB (2 * e) = some (b0 + 2 * a * k1, z, true) ∧ 0 ≤ k1 ∧ k1 < e ∧ 2 * e ∣ b0 + 2 * a * k1 - hB ∧ e ∣ 1 - v1 * a := by
  have hc : ∀ c : Int, c ∣ e → c ∣ a → c ∣ 1 := by
    intro c h1 h2
    have := Int.dvd_coe_gcd h2 h1
    rw [hg] at this
    exact this
  obtain ⟨v1, j1, j2, j3, j4⟩ := inv_val (n := e) (m := a) he (by omega) (by omega) hc
  obtain ⟨H, hH⟩ : ∃ H, hB - b0 = 2 * H := ⟨(hB - b0) / 2, by omega⟩
  have k0 := Int.emod_nonneg (H * v1) (b := e) (by omega)
  have k2 := Int.emod_lt_of_pos (H * v1) (b := e) (by omega)
  have k3 := Int.emod_add_mul_ediv (H * v1) e
  have m1 : (H * v1).natAbs ≤ 10000 * 10000 := abs_mul (by omega) (by omega)
  generalize hk : H * v1 % e = k1 at *
  have m2 : (2 * a * k1).natAbs ≤ 2 * 26 * 10000 := abs_mul (abs_mul (by omega) (by omega)) (by omega)
  have hdiv : 2 * e ∣ b0 + 2 * a * k1 - hB := by
    obtain ⟨w, hw⟩ := j2
    refine ⟨-(H * w) - a * (H * v1 / e), ?_⟩
    have e1 : k1 = H * v1 - e * (H * v1 / e) := by omega
    generalize H * v1 / e = W at *
    have e2 : v1 * a = 1 - e * w := by omega
    have e3 : b0 + 2 * a * k1 - hB = 2 * (a * k1 - H) := by
      have : 2 * a * k1 = 2 * (a * k1) := Int.mul_assoc ..
      omega
    rw [e3, e1]
    have e4 : a * (H * v1 - e * W) - H = H * (v1 * a) - H - a * e * W := by grind
    rw [e4, e2]
    grind
  have hak : 2 * a * k1 ≤ 2 * a * (e - 1) := Int.mul_le_mul_of_nonneg_left (by omega) (by omega)
  have hak0 : 0 ≤ 2 * a * k1 := Int.mul_nonneg (by omega) k0
  have hae : (a * (2 * e)).natAbs ≤ 26 * 20000 := abs_mul (by omega) (by omega)
  have hae1 : 2 * a * (e - 1) = a * (2 * e) - 2 * a := by grind
  have hae2 : 1 * 2 ≤ a * (2 * e) := Int.mul_le_mul ha (by omega) (by omega) (by omega)
  have hgg : Int.gcd (2 * a) (2 * e) = 2 := by rw [Int.gcd_mul_left, hg]; rfl
  refine ⟨k1, a * (2 * e), v1, ?_, k0, k2, hdiv, j2⟩
  unfold r_spec_nuCommon
  rw [sgcd_val (by omega) (by omega), hgg]
  simp only [Option.bind_some]
  rw [show ((2 : Nat) : Int) = 2 from rfl, nz_ne (show (2 : Int) ≠ 0 by decide), zL (n := hB - b0) (by omega), tz (by decide), decide_eq_true (show (2 : Int) ∣ hB - b0 from ⟨H, hH⟩)]
  simp only [Option.bind_some, Bool.not_true, cond_false]
  rw [tdv (a := 2 * a) (c := a) (by decide) rfl, tdv (a := 2 * e) (c := e) (by decide) rfl, zL (n := a) (by omega), zL (n := e) (by omega), j1]
  simp only [Option.bind_some]
  rw [tdv (a := hB - b0) (c := H) (by decide) hH.symm, zL (n := H) (by omega), zL (n := H * v1) (by omega), dsc_mod, dsc_mod_val he (by omega), hk]
  simp only [Option.bind_some, sI_eq]
  rw [zL (n := a * (2 * e)) (by omega), zL (n := 2 * a * k1) (by omega), zL (n := b0 + 2 * a * k1) (by omega), dsc_mod, dsc_mod_val (by omega) (by omega), Int.emod_eq_of_lt (by omega) (by omega)]
  rfl
/-- A reduced form of the discriminant without a common divisor. -/
def PrRc (D : Int) (f : Int × Int × Int) : Prop := 1 ≤ f.1 ∧ IsRed f.1 f.2.1 f.2.2 ∧ f.2.1 * f.2.1 - 4 * f.1 * f.2.2 = D ∧ ∀ k : Int, k ∣ f.1 → k ∣ f.2.1 → k ∣ f.2.2 → k ∣ 1
theorem prr_rb {D : Int} {f : Int × Int × Int} (hD1 : -2000 ≤ D) (h : PrRc D f) : Rb f.1 f.2.1 f.2.2 ∧ f.1 ≤ 25 := by
  obtain ⟨h1, h2, h3, h4⟩ := h
  obtain ⟨⟨i1, i2⟩, i3⟩ := h2
  have hbb : f.2.1 * f.2.1 ≤ f.1 * f.1 := by
    rcases Int.le_total 0 f.2.1 with h4 | h4
    · exact Int.mul_le_mul i2 i2 h4 (by omega)
    · have : (-f.2.1) * (-f.2.1) ≤ f.1 * f.1 := Int.mul_le_mul (by omega) (by omega) (by omega) (by omega)
      have e : (-f.2.1) * (-f.2.1) = f.2.1 * f.2.1 := by grind
      omega
  have h7 : 4 * f.1 * f.1 ≤ 4 * f.1 * f.2.2 := Int.mul_le_mul_of_nonneg_left (by omega) (by omega)
  have e1 : 4 * f.1 * f.1 = 4 * (f.1 * f.1) := Int.mul_assoc ..
  have ha : f.1 ≤ 25 := by
    rcases Int.lt_or_le 25 f.1 with h8 | h8
    · have : 26 * 26 ≤ f.1 * f.1 := Int.mul_le_mul (by omega) (by omega) (by omega) (by omega)
      omega
    · exact h8
  have haa : f.1 * f.1 ≤ 25 * 25 := Int.mul_le_mul ha ha (by omega) (by omega)
  have h9 : 4 * 1 * f.2.2 ≤ 4 * f.1 * f.2.2 := Int.mul_le_mul_of_nonneg_right (by omega) (by omega)
  exact ⟨⟨h1, by omega, by omega, by omega, by omega, by omega⟩, ha⟩
theorem unite_spec {D a b c A B C x y q s e hB hC b0 b1 z cc α β : Int} (ha : 1 ≤ a) (ra : a ≤ 25) (rb : b.natAbs ≤ 26) (hv1 : 1 ≤ e) (v2 : e ≤ 10000) (hD1 : -2000 ≤ D) (hD2 : D < 0) (f3 : b * b - 4 * a * c = D) (p2 : r_spec_coPoint (A, B, C) a = some (x, y)) (c2 : r_spec_vaComplete (A, B, C) x y = some ((e, hB, hC), (x, q, y, s))) (hb0 : b % (2 * a) = b0) (k2 : r_spec_nuCommon b0 (2 * a) hB (2 * e) = some (b1, z, true)) (eα : 2 * a * α = b1 - b) (eβ : 2 * e * β = b1 - hB) (hB0 : hB.natAbs ≤ 30000) (hb1 : b1.natAbs ≤ 520000) (hbb : (b1 * b1).natAbs ≤ 270400000000) (e5 : 4 * a * e * cc = b1 * b1 - D) (hbα : α.natAbs ≤ 1000000) (hbβ : β.natAbs ≤ 1000000) (hcc : cc.natAbs ≤ 300000) (h4 : 1 ≤ 4 * a * e) (h42 : 4 * a * e ≤ 1040000) {f0 g0 : Int × Int × Int} {mf mg : Int × Int × Int × Int} (h1 : r_spec_reReduce f0 = some ((a, b, c), mf)) (h2 : r_spec_reReduce g0 = some ((A, B, C), mg)) : r_spec_coUnite f0 g0 = (r_spec_foMul mg (x, q, y, s)).bind fun N1 => (r_spec_foMul mf (1, α, 0, 1)).bind fun M => (r_spec_foMul N1 (1, β, 0, 1)).bind fun N => some ((a, b1, e * cc), (e, b1, a * cc), M, N) := by
  unfold r_spec_coUnite
  rw [h1, Option.bind_some, h2, Option.bind_some]
  simp only []
  rw [p2, Option.bind_some]
  simp only []
  rw [c2, Option.bind_some]
  simp only []
  cases hN1 : r_spec_foMul mg (x, q, y, s) with
  | none => rfl
  | some N1 =>
    simp only [Option.bind_some]
    have m3 : (e * cc).natAbs ≤ 10000 * 300000 := abs_mul (by omega) (by omega)
    have m4 : (a * cc).natAbs ≤ 26 * 300000 := abs_mul (by omega) (by omega)
    rw [zL (n := 2 * a) (by omega), dsc_mod, dsc_mod_val (by omega) (by omega), hb0, Option.bind_some, zL (n := 2 * e) (by omega), k2, Option.bind_some, nz_ne (show 2 * a ≠ 0 by omega), Option.bind_some]
    simp only [r_spec_coShift, Option.bind_some]
    rw [zL (n := b1 - b) (by omega), tdv (b := 2 * a) (by omega) eα, zL (n := α) (by omega)]
    cases hM : r_spec_foMul mf (1, α, 0, 1) with
    | none => rfl
    | some M =>
      simp only [Option.bind_some]
      rw [nz_ne (show 2 * e ≠ 0 by omega), Option.bind_some, zL (n := b1 - hB) (by omega), tdv (b := 2 * e) (by omega) eβ, zL (n := β) (by omega)]
      cases hN : r_spec_foMul N1 (1, β, 0, 1) with
      | none => rfl
      | some N =>
        simp only [Option.bind_some, sI_eq]
        rw [disc_eq, disc_w, f3, zL (n := D) (by omega), Option.bind_some, zL (n := 4 * a) (by omega), zL (n := 4 * a * e) (by omega), nz_ne (show 4 * a * e ≠ 0 by omega), Option.bind_some, zL (n := b1 * b1) (by omega), zL (n := b1 * b1 - D) (by omega), tdv (b := 4 * a * e) (by omega) e5, zL (n := cc) (by omega), zL (n := a * cc) (by omega), zL (n := e * cc) (by omega)]
theorem unite_impl {D : Int} {a b c A B C : Int} (hD1 : -2000 ≤ D) (hD2 : D < 0) (hf : PrRc D (a, b, c)) (hg : PrRc D (A, B, C)) :
    ∃ x y q s e hB hC b1 c1 α β, Uni a b c A B C D x y q s e hB hC b1 c1 α β ∧ r_impl_unite (a, b, c) (A, B, C) = (r_impl_Matrix_times (x, q, y, s) (1, β, 0, 1)).bind (fun N => some (a, e, b1, c1, (1, α, 0, 1), N)) ∧ r_spec_coPoint (A, B, C) a = some (x, y) ∧ r_spec_vaComplete (A, B, C) x y = some ((e, hB, hC), (x, q, y, s)) ∧ (0 ≤ hB ∧ hB < 2 * e ∧ hB.natAbs ≤ 30000) ∧ α.natAbs ≤ 1000000 ∧ β.natAbs ≤ 1000000 ∧ Int.gcd a e = 1 := by
  have hF := FUge
  obtain ⟨rf, ra⟩ := prr_rb hD1 hf
  obtain ⟨rg, rA⟩ := prr_rb hD1 hg
  obtain ⟨f1, f2, f3, f4⟩ := hf
  obtain ⟨g1, g2, g3, g4⟩ := hg
  simp only [] at rf ra rg rA f1 f2 f3 f4 g1 g2 g3 g4
  obtain ⟨⟨x, y⟩, p1, p2, p3, p4⟩ := point_both rg f1 ra g4
  simp only [] at p3 p4
  have hxy : x ≠ 0 ∨ y ≠ 0 := by
    simp only [ptL, List.mem_cons, Prod.mk.injEq, List.not_mem_nil, or_false] at p3
    omega
  obtain ⟨⟨u1, u2⟩, u3⟩ := g2
  have hv1 : 1 ≤ Vl A B C x y := by
    have := uq_a g1 (show -A ≤ B by omega) u2 (show A ≤ C by omega) hxy
    unfold Vl
    omega
  obtain ⟨q, s, hB, hC, c1, c2, em, t1, t2, v2, qb, sb, x1, x2, y1, y2⟩ := complete_both rg g3 hD1 (by omega) p3 rfl hv1
  generalize he : Vl A B C x y = e at *
  have hh : hB * hB - 4 * e * hC = D := by rw [cmp_dis em, g3]
  have b0a := Int.emod_nonneg b (b := 2 * a) (by omega)
  have b0b := Int.emod_lt_of_pos b (b := 2 * a) (by omega)
  have b0c := Int.emod_add_mul_ediv b (2 * a)
  have hpar := par_eq (b := b) (h := hB) (D := D) (m := a * c) (n := e * hC) (by rw [← f3]; grind) (by rw [← hh]; grind)
  generalize hb0 : b % (2 * a) = b0 at *
  have hpar0 : b0 % 2 = hB % 2 := by
    have : 2 * a * (b / (2 * a)) = 2 * (a * (b / (2 * a))) := Int.mul_assoc ..
    omega
  have hga : Int.gcd a e = 1 := by rw [Int.gcd_comm]; exact p4
  obtain ⟨k1, v1, k3, k4, k5, k6⟩ := common_ex (a := a) (e := e) hv1 hga hpar0
  obtain ⟨k, l1, l2, l3, l4⟩ := unite_run (c := c) (b := b) (hC := hC) (mm := (x, q, y, s)) f1 (by omega) hv1 v2 b0a b0b t1 t2 k4 k5 FU 0 (by omega) k3 (by omega)
  have hk : k = k1 := common_uni l2 (by omega) k3 k4 k5 l4 k6
  subst hk
  generalize hb1 : b0 + 2 * a * k = b1 at *
  obtain ⟨β, hβ⟩ := k5
  have hα : b1 = b + 2 * a * (k - b / (2 * a)) := by rw [Int.mul_sub]; omega
  generalize k - b / (2 * a) = α at *
  have hβ' : b1 = hB + 2 * e * β := by omega
  have hak : 2 * a * k ≤ 2 * a * (e - 1) := Int.mul_le_mul_of_nonneg_left (by omega) (by omega)
  have hak0 : 0 ≤ 2 * a * k := Int.mul_nonneg (by omega) k3
  have hae : (2 * a * e).natAbs ≤ 2 * 26 * 10000 := abs_mul (abs_mul (by omega) (by omega)) (by omega)
  have hae1 : 2 * a * (e - 1) = 2 * a * e - 2 * a := by grind
  have b1lt : b1 < 2 * a * e := by omega
  have b1ge : 0 ≤ b1 := by omega
  obtain ⟨w, hw⟩ := k6
  have huv : v1 * a + w * e = 1 := by have : w * e = e * w := Int.mul_comm ..; omega
  have dis := uni_c (b1 := b1) f3 hh huv hα hβ'
  generalize hc1 : v1 * (hC + hB * β + e * β * β) + w * (c + b * α + a * α * α) = cc at *
  obtain ⟨cc1, cc2⟩ := uni_c1 f1 hv1 b1ge b1lt hD1 hD2 dis
  have hm1 : a * e ≤ 25 * 10000 := Int.mul_le_mul ra v2 (by omega) (by omega)
  have hm0 : 1 * 1 ≤ a * e := Int.mul_le_mul f1 hv1 (by omega) (by omega)
  have hbb : b1 * b1 ≤ 520000 * 520000 := Int.mul_le_mul (by omega) (by omega) b1ge (by omega)
  have hbb0 : 0 ≤ b1 * b1 := Int.mul_nonneg b1ge b1ge
  have hbα : α.natAbs ≤ 1000000 := by
    rcases Int.lt_or_le 1000000 α with h | h
    · have : 2 * a * 1000001 ≤ 2 * a * α := Int.mul_le_mul_of_nonneg_left (by omega) (by omega)
      have := rf.b1; omega
    · rcases Int.lt_or_le α (-1000000) with h' | h'
      · have : 2 * a * α ≤ 2 * a * (-1000001) := Int.mul_le_mul_of_nonneg_left (by omega) (by omega)
        have := rf.b2; omega
      · omega
  have hbβ : β.natAbs ≤ 1000000 := by
    rcases Int.lt_or_le 1000000 β with h | h
    · have : 2 * e * 1000001 ≤ 2 * e * β := Int.mul_le_mul_of_nonneg_left (by omega) (by omega)
      omega
    · rcases Int.lt_or_le β (-1000000) with h' | h'
      · have : 2 * e * β ≤ 2 * e * (-1000001) := Int.mul_le_mul_of_nonneg_left (by omega) (by omega)
        omega
      · omega
  have e4 : 4 * a * e = 2 * (2 * a * e) := by grind
  have e5 : 4 * a * e * cc = b1 * b1 - D := by omega
  have eα : 2 * a * α = b1 - b := by omega
  have eβ : 2 * e * β = b1 - hB := by omega
  have rb1 := rf.b1
  have rb2 := rf.b2
  refine ⟨x, y, q, s, e, hB, hC, b1, cc, α, β, ⟨em, hv1, v2, ⟨v1, w, huv⟩, hα, hβ', b1ge, b1lt, dis, qb, sb, x1, x2, y1, y2⟩, ?_, p2, c2, ⟨t1, t2, by omega⟩, hbα, hbβ, hga⟩
  · unfold r_impl_unite
    simp only []
    rw [p1, Option.bind_some]
    simp only []
    rw [c1, Option.bind_some]
    simp only []
    rw [zL (n := 2 * a) (by omega), dsc_mod_val (by omega) (by omega), hb0, Option.bind_some]
    rw [show b0 = b0 + 2 * a * 0 by omega, l1, Option.bind_some, zL (n := 2 * a * e) (by omega), dsc_mod_val (by omega) (by omega), Int.emod_eq_of_lt b1ge b1lt, Option.bind_some, disc_w, f3, zL (n := D) (by omega), Option.bind_some, zL (n := 4 * a) (by omega), zL (n := 4 * a * e) (by omega), nz_ne (show 4 * a * e ≠ 0 by omega), Option.bind_some, zL (n := b1 * b1) (by omega), zL (n := b1 * b1 - D) (by omega), tdv (b := 4 * a * e) (by omega) e5, nz_ne (show 2 * a ≠ 0 by omega)]
    simp only [sI_eq, Option.bind_some]
    rw [zL (n := cc) (by omega), zL (n := b1 - b) (by omega), tdv (b := 2 * a) (by omega) eα, zL (n := α) (by omega), zL (n := 2 * e) (by omega), nz_ne (show 2 * e ≠ 0 by omega), Option.bind_some, zL (n := b1 - hB) (by omega), tdv (b := 2 * e) (by omega) eβ, zL (n := β) (by omega)]
theorem unite_both {D : Int} {a b c A B C : Int} (hD1 : -2000 ≤ D) (hD2 : D < 0) (hf : PrRc D (a, b, c)) (hg : PrRc D (A, B, C)) :
    ∃ x y q s e hB hC b1 c1 α β, Uni a b c A B C D x y q s e hB hC b1 c1 α β ∧ r_impl_unite (a, b, c) (A, B, C) = (r_impl_Matrix_times (x, q, y, s) (1, β, 0, 1)).bind (fun N => some (a, e, b1, c1, (1, α, 0, 1), N)) ∧
      ∀ f0 g0 mf mg, r_spec_reReduce f0 = some ((a, b, c), mf) → r_spec_reReduce g0 = some ((A, B, C), mg) → r_spec_coUnite f0 g0 = (r_spec_foMul mg (x, q, y, s)).bind fun N1 => (r_spec_foMul mf (1, α, 0, 1)).bind fun M => (r_spec_foMul N1 (1, β, 0, 1)).bind fun N => some ((a, b1, e * c1), (e, b1, a * c1), M, N) := by
  obtain ⟨rf, ra⟩ := prr_rb hD1 hf
  have f1 : 1 ≤ a := hf.1
  have f3 : b * b - 4 * a * c = D := hf.2.2.1
  have g3 : B * B - 4 * A * C = D := hg.2.2.1
  simp only [] at rf ra
  obtain ⟨x, y, q, s, e, hB, hC, b1, c1, α, β, u, k1, p2, c2, ⟨hB1, hB2, n1⟩, n2, n3, hga⟩ := unite_impl hD1 hD2 hf hg
  have ku := u
  obtain ⟨mh, e1, e2, ⟨m, n, hmn⟩, bα, bβ, b0, b2, dis, qb, sb, xy⟩ := u
  have hh : hB * hB - 4 * e * hC = D := by rw [cmp_dis mh, g3]
  have t1 := Int.emod_nonneg b (b := 2 * a) (by omega)
  have t2 := Int.emod_lt_of_pos b (b := 2 * a) (by omega)
  have t3 := Int.emod_add_mul_ediv b (2 * a)
  have hpar := par_eq (b := b) (h := hB) (D := D) (m := a * c) (n := e * hC) (by rw [← f3]; grind) (by rw [← hh]; grind)
  generalize hb0 : b % (2 * a) = r at *
  have hpar0 : r % 2 = hB % 2 := by
    have : 2 * a * (b / (2 * a)) = 2 * (a * (b / (2 * a))) := Int.mul_assoc ..
    omega
  obtain ⟨k, z, v1, j2, j3, j4, j5, j6⟩ := common_val (a := a) (e := e) f1 (by omega) e1 e2 hga t1 t2 hB1 hB2 hpar0
  have hb1 : r + 2 * a * k = b1 := by
    have e5 : b1 = r + 2 * a * (α + b / (2 * a)) := by rw [Int.mul_add]; omega
    have hlo : 0 ≤ α + b / (2 * a) := by
      rcases Int.lt_or_le (α + b / (2 * a)) 0 with h | h
      · have : 2 * a * (α + b / (2 * a)) ≤ 2 * a * (-1) := Int.mul_le_mul_of_nonneg_left (by omega) (by omega)
        omega
      · exact h
    have hhi : α + b / (2 * a) < e := by
      rcases Int.lt_or_le (α + b / (2 * a)) e with h | h
      · exact h
      · have : 2 * a * e ≤ 2 * a * (α + b / (2 * a)) := Int.mul_le_mul_of_nonneg_left h (by omega)
        omega
    have := common_uni (a := a) (e := e) (b0 := r) (hB := hB) j3 j4 hlo hhi ⟨β, by omega⟩ j5 j6
    rw [e5, this]
  rw [hb1] at j2
  obtain ⟨cc1, cc2⟩ := uni_c1 f1 e1 b0 b2 hD1 hD2 dis
  have hae : a * e ≤ 25 * 10000 := Int.mul_le_mul ra e2 (by omega) (by omega)
  have hae0 : 1 * 1 ≤ a * e := Int.mul_le_mul f1 e1 (by omega) (by omega)
  have hae2 : 2 * a * e = 2 * (a * e) := Int.mul_assoc ..
  have hae4 : 4 * a * e = 4 * (a * e) := Int.mul_assoc ..
  have hbb : b1 * b1 ≤ 520000 * 520000 := Int.mul_le_mul (by omega) (by omega) b0 (by omega)
  have hbb0 : 0 ≤ b1 * b1 := Int.mul_nonneg b0 b0
  have rb1 := rf.b1
  have rb2 := rf.b2
  refine ⟨x, y, q, s, e, hB, hC, b1, c1, α, β, ku, k1, fun f0 g0 mf mg h1 h2 => ?_⟩
  exact unite_spec f1 ra (by omega) e1 e2 hD1 hD2 f3 p2 c2 hb0 j2 (by omega) (by omega) n1 (by omega) (by omega) (by omega) n2 n3 (by omega) (by omega) (by omega) h1 h2
end Go.Proofs.YtfmjfofocklgpaaGreatDoor
namespace Go.Proofs.YtfmjfofocklgpaaGreatDoor
set_option linter.unusedVariables false
set_option linter.unusedSimpArgs false
abbrev F3 := Int × Int × Int
/-- A form without a common divisor that can be reduced. -/
def CF (D : Int) (f : F3) : Prop := RedInv f.1 f.2.1 f.2.2 D 1 ∧ f.2.2 ≤ 1000000
theorem cf_of_class {f : F3} (h : r_impl_isClassForm f = some true) : CF (f.2.1 * f.2.1 - 4 * f.1 * f.2.2) f := by
  have h1 := red_of_class (a := f.1) (b := f.2.1) (c := f.2.2) h
  obtain ⟨_, _, hc, _⟩ := class_true (a := f.1) (b := f.2.1) (c := f.2.2) h
  exact ⟨h1, (inN_iff.1 hc).2⟩
theorem prc_pos {D : Int} {f : F3} (h : PrRc D f) : 0 < f.1 := by have := h.1; omega
theorem prc_disc {D : Int} {f : F3} (h : PrRc D f) : fD f = D := h.2.2.1
theorem con_one {a b c d : Int} (h : RedInv a b c d 1) (k : Int) (h1 : k ∣ a) (h2 : k ∣ b) (h3 : k ∣ c) : k ∣ 1 := (h.con k).1 ⟨h1, h2, h3⟩
/-- Reducing a class form. -/
theorem red_cf {D : Int} {f : F3} (h : CF D f) : ∃ g m1 m2 m3 m4, r_impl_reduce f = some (g, (m1, m2, m3, m4)) ∧ r_spec_reReduce f = some (g, (m1, m2, m3, m4)) ∧ PrRc D g ∧ Eqf g f ∧ MatInv f.1 f.2.1 f.2.2 m1 m2 m3 m4 g.1 g.2.1 g.2.2 ∧ m1.natAbs ≤ 2000 ∧ m2.natAbs ≤ 2000 ∧ m3.natAbs ≤ 2000 ∧ m4.natAbs ≤ 2000 ∧ CF D g := by
  obtain ⟨a, b, c⟩ := f
  obtain ⟨h1, h2⟩ := h
  have hd := h1.dis
  simp only [] at h1 h2 hd
  have h1' : RedInv a b c (b * b - 4 * a * c) 1 := by rw [hd]; exact h1
  obtain ⟨m1, m2, m3, m4, a2, b2, c2, k1, k2, k3, k4, k5, k6, k7, k8, k9⟩ := red_full h1' h2
  rw [hd] at k3
  have hp : PrRc D (a2, b2, c2) := ⟨k3.a1, k4, k3.dis, con_one k3⟩
  have e := k5
  obtain ⟨e1, e2, e3, e4⟩ := e
  refine ⟨(a2, b2, c2), m1, m2, m3, m4, k1, k2, hp, ⟨m1, m2, m3, m4, e4, ?_, ?_, ?_⟩, k5, k6, k7, k8, k9, k3, ?_⟩
  · exact e1.symm
  · exact e2.symm
  · exact e3.symm
  · show c2 ≤ 1000000
    have h3 := k3.nrm
    obtain ⟨⟨g1, g2⟩, g3⟩ := k4
    have h4 := k3.cM
    rcases h3 with h3 | h3
    · have q1 := k3.aM
      have q2 := k3.a1
      -- a reduced form's last coefficient
      rcases Int.lt_or_le 1000000 c2 with h5 | h5
      · exfalso
        have n1 : a2 * a2 ≤ a2 * c2 := Int.mul_le_mul_of_nonneg_left (by omega) (by omega)
        have hbb : b2 * b2 ≤ a2 * a2 := by
          rcases Int.le_total 0 b2 with h4 | h4
          · exact Int.mul_le_mul g2 g2 h4 (by omega)
          · have : (-b2) * (-b2) ≤ a2 * a2 := Int.mul_le_mul (by omega) (by omega) (by omega) (by omega)
            have e : (-b2) * (-b2) = b2 * b2 := by grind
            omega
        have hdd := k3.dis
        have e9 : 4 * a2 * c2 = 4 * (a2 * c2) := Int.mul_assoc ..
        have hneg := k3.neg
        -- the value at the original form's last coefficient is at least c2 or the form is not moved
        have hv : c = a2 * (-m2) * (-m2) + b2 * (-m2) * m1 + c2 * m1 * m1 := by rw [← e1, ← e2, ← e3]; grind
        have hv2 : a = a2 * m4 * m4 + b2 * m4 * (-m3) + c2 * (-m3) * (-m3) := by rw [← e1, ← e2, ← e3]; grind
        have ha2 := h1.aM
        by_cases hm : m1 = 0
        · have hm3 : m3 ≠ 0 := by
            intro h0
            rw [hm, h0] at e4
            simp at e4
          have := uq_c (x := m4) q2 (by omega) g2 (show a2 ≤ c2 by omega) (show (-m3) ≠ 0 by omega)
          omega
        · have := uq_c (x := -m2) q2 (by omega) g2 (show a2 ≤ c2 by omega) hm
          omega
      · exact h5
    · exact h3
theorem cl_red {D : Int} {f g : F3} (hf : 0 < f.1) (hD : fD f = D) (h : Eqf g f) (hg : 0 < g.1) : Cl D (fL g) (fL f) := by
  have := cl_of_eqf hg hf h
  rw [hD] at this
  exact this
/-- The class knows its reduced form. -/
theorem prc_uniq {D : Int} {f g : F3} (hD : D < 0) (hf : PrRc D f) (hg : PrRc D g) (h : Cl D (fL f) (fL g)) : f = g := by
  have d1 := prc_disc hf
  have d2 := prc_disc hg
  have h' : Cl (fD g) (fL f) (fL g) := by rw [d2]; exact h
  obtain ⟨p, q, r, s, hdet, e1, e2, e3⟩ := eqf_of_cl (prc_pos hf) (prc_pos hg) (by rw [d2]; exact hD) (by rw [d1, d2]) h'
  obtain ⟨k1, k2, k3⟩ := red_uniq hg.1 hg.2.1 hf.1 hf.2.1 hdet e1 e2 e3
  exact Prod.ext k1.symm (Prod.ext k2.symm k3.symm)
theorem bez3 {a b c : Int} (h : ∀ k : Int, k ∣ a → k ∣ b → k ∣ c → k ∣ 1) : ∃ x y z : Int, x * a + y * b + z * c = 1 := by
  obtain ⟨x, y, h1⟩ := bez_int a b
  obtain ⟨u, v, h2⟩ := bez_int (Int.gcd a b) c
  have h3 : ((Int.gcd (Int.gcd a b) c : Nat) : Int) ∣ 1 := by
    refine h _ ?_ ?_ ?_
    · exact Int.dvd_trans (Int.gcd_dvd_left _ _) (Int.gcd_dvd_left _ _)
    · exact Int.dvd_trans (Int.gcd_dvd_left _ _) (Int.gcd_dvd_right _ _)
    · exact Int.gcd_dvd_right _ _
  have h4 : ((Int.gcd (Int.gcd a b) c : Nat) : Int) = 1 := Int.eq_one_of_dvd_one (by omega) h3
  refine ⟨u * x, u * y, v, ?_⟩
  rw [← h4, ← h2, ← h1]
  grind
theorem prim_eqf {f g : F3} (h : Eqf f g) (hg : ∀ k : Int, k ∣ g.1 → k ∣ g.2.1 → k ∣ g.2.2 → k ∣ 1) (k : Int) (h1 : k ∣ f.1) (h2 : k ∣ f.2.1) (h3 : k ∣ f.2.2) : k ∣ 1 := by
  obtain ⟨p, q, r, s, hdet, e1, e2, e3⟩ := h
  obtain ⟨x, hx⟩ := h1
  obtain ⟨y, hy⟩ := h2
  obtain ⟨z, hz⟩ := h3
  have back : ∀ A B C : Int, (A * p * p + B * p * r + C * r * r) * s * s - (2 * A * p * q + B * (p * s + q * r) + 2 * C * r * s) * s * r + (A * q * q + B * q * s + C * s * s) * r * r = A * ((p * s - q * r) * (p * s - q * r)) := by intro A B C; grind
  have back2 : ∀ A B C : Int, (A * p * p + B * p * r + C * r * r) * q * q - (2 * A * p * q + B * (p * s + q * r) + 2 * C * r * s) * p * q + (A * q * q + B * q * s + C * s * s) * p * p = C * ((p * s - q * r) * (p * s - q * r)) := by intro A B C; grind
  have back3 : ∀ A B C : Int, (2 * A * p * q + B * (p * s + q * r) + 2 * C * r * s) * (p * s + q * r) - 2 * (A * p * p + B * p * r + C * r * r) * q * s - 2 * (A * q * q + B * q * s + C * s * s) * p * r = B * ((p * s - q * r) * (p * s - q * r)) := by intro A B C; grind
  have b1 := back g.1 g.2.1 g.2.2
  have b2 := back2 g.1 g.2.1 g.2.2
  have b3 := back3 g.1 g.2.1 g.2.2
  rw [← e1, ← e2, ← e3, hdet, hx, hy, hz] at b1 b2 b3
  refine hg k ⟨x * s * s - y * s * r + z * r * r, ?_⟩ ⟨y * (p * s + q * r) - 2 * x * q * s - 2 * z * p * r, ?_⟩ ⟨x * q * q - y * p * q + z * p * p, ?_⟩
  · have : k * x * s * s - k * y * s * r + k * z * r * r = k * (x * s * s - y * s * r + z * r * r) := by grind
    omega
  · have : k * y * (p * s + q * r) - 2 * (k * x) * q * s - 2 * (k * z) * p * r = k * (y * (p * s + q * r) - 2 * x * q * s - 2 * z * p * r) := by grind
    omega
  · have : k * x * q * q - k * y * p * q + k * z * p * p = k * (x * q * q - y * p * q + z * p * p) := by grind
    omega
/-- The composite of united forms has no common divisor. -/
theorem uni_prim {a e b c : Int} (h1 : ∃ x y z : Int, x * a + y * b + z * (e * c) = 1) (h2 : ∃ x y z : Int, x * e + y * b + z * (a * c) = 1) (k : Int) (k1 : k ∣ a * e) (k2 : k ∣ b) (k3 : k ∣ c) : k ∣ 1 := by
  obtain ⟨x, y, z, h1⟩ := h1
  obtain ⟨x', y', z', h2⟩ := h2
  obtain ⟨i, hi⟩ := k1
  obtain ⟨j, hj⟩ := k2
  obtain ⟨l, hl⟩ := k3
  have h3 : (x * a + y * b + z * (e * c)) * (x' * e + y' * b + z' * (a * c)) = 1 := by rw [h1, h2]; rfl
  refine ⟨x * x' * i + j * (x * a * y' + y * (x' * e + y' * b + z' * (a * c)) + z * (e * c) * y') + l * (x * a * (z' * a) + z * e * (x' * e) + z * e * (z' * (a * c))), ?_⟩
  rw [← h3]
  have e1 : k * (x * x' * i + j * (x * a * y' + y * (x' * e + y' * b + z' * (a * c)) + z * (e * c) * y') + l * (x * a * (z' * a) + z * e * (x' * e) + z * e * (z' * (a * c)))) = x * x' * (k * i) + (k * j) * (x * a * y' + y * (x' * e + y' * b + z' * (a * c)) + z * (e * c) * y') + (k * l) * (x * a * (z' * a) + z * e * (x' * e) + z * e * (z' * (a * c))) := by grind
  rw [e1, ← hi, ← hj, ← hl]
  grind
end Go.Proofs.YtfmjfofocklgpaaGreatDoor
namespace Go.Proofs.YtfmjfofocklgpaaGreatDoor
set_option linter.unusedVariables false
set_option linter.unusedSimpArgs false
theorem four_canc {a x y : Int} (ha : 1 ≤ a) (h : 4 * a * x = 4 * a * y) : x = y := Int.eq_of_mul_eq_mul_left (by omega) h
theorem uni_f {a b c e c1 b1 α D : Int} (ha : 1 ≤ a) (hd : b * b - 4 * a * c = D) (bα : b1 = b + 2 * a * α) (dis : b1 * b1 - 4 * a * e * c1 = D) : e * c1 = a * α * α + b * α + c := by
  refine four_canc ha ?_
  have e1 : 4 * a * (a * α * α + b * α + c) = b1 * b1 - (b * b - 4 * a * c) := by rw [bα]; grind
  have e2 : 4 * a * (e * c1) = 4 * a * e * c1 := by grind
  rw [e1, hd, e2]; omega
theorem uni_eqf1 {a b c e c1 b1 α D : Int} (ha : 1 ≤ a) (hd : b * b - 4 * a * c = D) (bα : b1 = b + 2 * a * α) (dis : b1 * b1 - 4 * a * e * c1 = D) : Eqf (a, b1, e * c1) (a, b, c) := by
  refine ⟨1, α, 0, 1, by omega, ?_, ?_, ?_⟩
  · simp only []; omega
  · simp only []; rw [bα]; grind
  · simp only []; rw [uni_f ha hd bα dis]; grind
theorem uni_eqf2 {a e c1 b1 β D A B C x q y s hB hC : Int} (he : 1 ≤ e) (mh : MatInv A B C x q y s e hB hC) (hd : B * B - 4 * A * C = D) (bβ : b1 = hB + 2 * e * β) (dis : b1 * b1 - 4 * a * e * c1 = D) : Eqf (e, b1, a * c1) (A, B, C) ∧ MatInv A B C x (x * β + q) y (y * β + s) e b1 (a * c1) := by
  have hd2 : hB * hB - 4 * e * hC = D := by rw [cmp_dis mh, hd]
  have hf := uni_f (e := a) (c1 := c1) he hd2 bβ (by rw [← dis]; grind)
  have m := mh.norm β
  rw [← hf, show 2 * e * β + hB = b1 by omega] at m
  obtain ⟨e1, e2, e3, e4⟩ := m
  exact ⟨⟨x, x * β + q, y, y * β + s, e4, e1.symm, e2.symm, e3.symm⟩, e1, e2, e3, e4⟩
/-- What composing two class forms gives, with all that the proof of a composite needs. -/
structure Cmps (D : Int) (f g h f' g' : F3) (p1 p2 p3 p4 q1 q2 q3 q4 x y q s e hB hC b1 c1 α β : Int) : Prop where
  rf : r_impl_reduce f = some (f', (p1, p2, p3, p4))
  rg : r_impl_reduce g = some (g', (q1, q2, q3, q4))
  pf : PrRc D f'
  pg : PrRc D g'
  mf : MatInv f.1 f.2.1 f.2.2 p1 p2 p3 p4 f'.1 f'.2.1 f'.2.2
  mg : MatInv g.1 g.2.1 g.2.2 q1 q2 q3 q4 g'.1 g'.2.1 g'.2.2
  uni : Uni f'.1 f'.2.1 f'.2.2 g'.1 g'.2.1 g'.2.2 D x y q s e hB hC b1 c1 α β
  imp : r_impl_unite f' g' = some (f'.1, e, b1, c1, (1, α, 0, 1), (w64 (x + q * 0), w64 (x * β + q), w64 (y + s * 0), w64 (y * β + s)))
  spc : r_spec_coUnite f g = (r_spec_foMul (q1, q2, q3, q4) (x, q, y, s)).bind fun N1 => (r_spec_foMul (p1, p2, p3, p4) (1, α, 0, 1)).bind fun M => (r_spec_foMul N1 (1, β, 0, 1)).bind fun N => some ((f'.1, b1, e * c1), (e, b1, f'.1 * c1), M, N)
  cf : CF D (f'.1 * e, b1, c1)
  ae : f'.1 * e ≤ 250000
  ec : e * c1 ≤ 3000000000 ∧ 0 ≤ e * c1 ∧ 1 ≤ c1
  pb : p1.natAbs ≤ 2000 ∧ p2.natAbs ≤ 2000 ∧ p3.natAbs ≤ 2000 ∧ p4.natAbs ≤ 2000
  qb : q1.natAbs ≤ 2000 ∧ q2.natAbs ≤ 2000 ∧ q3.natAbs ≤ 2000 ∧ q4.natAbs ≤ 2000
  cl : Cl D (eP D (fL f) (fL g)) (fL (f'.1 * e, b1, c1))
theorem cmps_mk {D : Int} (hD1 : -2000 ≤ D) (hD2 : D < 0) {f g : F3} (hf : CF D f) (hg : CF D g) : ∃ f' g' p1 p2 p3 p4 q1 q2 q3 q4 x y q s e hB hC b1 c1 α β, ∀ h, Cmps D f g h f' g' p1 p2 p3 p4 q1 q2 q3 q4 x y q s e hB hC b1 c1 α β := by
  obtain ⟨⟨a, b, c⟩, p1, p2, p3, p4, i1, i2, i3, i4, i5, i6, i7, i8, i9, i10⟩ := red_cf hf
  obtain ⟨⟨A, B, C⟩, q1, q2, q3, q4, j1, j2, j3, j4, j5, j6, j7, j8, j9, j10⟩ := red_cf hg
  obtain ⟨x, y, q, s, e, hB, hC, b1, c1, α, β, u, k1, k2⟩ := unite_both hD1 hD2 i3 j3
  have ku := u
  obtain ⟨mh, e1, e2, ⟨m, n, hmn⟩, bα, bβ, b0, b2, dis, qb, sb, xy⟩ := u
  have ha : 1 ≤ a := i3.1
  have hd : b * b - 4 * a * c = D := i3.2.2.1
  have hD : B * B - 4 * A * C = D := j3.2.2.1
  obtain ⟨rb1, ra⟩ := prr_rb hD1 i3
  simp only [] at ra
  have hpa : 0 < A := prc_pos j3
  have E1 := uni_eqf1 (e := e) ha hd bα dis
  obtain ⟨E2, _⟩ := uni_eqf2 (a := a) e1 mh hD bβ dis
  obtain ⟨z1, z2⟩ := uni_c1 ha e1 b0 b2 hD1 hD2 dis
  have hae : a * e ≤ 25 * 10000 := Int.mul_le_mul ra e2 (by omega) (by omega)
  have hae0 : 1 * 1 ≤ a * e := Int.mul_le_mul ha e1 (by omega) (by omega)
  have hae2 : 2 * a * e = 2 * (a * e) := Int.mul_assoc ..
  have hec : e * c1 ≤ 10000 * 300000 := Int.mul_le_mul e2 (by omega) (by omega) (by omega)
  have hec0 : 0 ≤ e * c1 := Int.mul_nonneg (by omega) (by omega)
  have P1 := prim_eqf E1 i3.2.2.2
  have P2 := prim_eqf E2 j3.2.2.2
  have P := uni_prim (bez3 P1) (bez3 P2)
  have hcf : CF D (a * e, b1, c1) := by
    refine ⟨⟨by omega, by simp only []; omega, by simp only []; omega, by simp only []; omega, z1, by simp only []; omega, ?_, hD2, .inr (by simp only []; omega), ?_⟩, by simp only []; omega⟩
    · simp only []
      rw [← dis]; grind
    · intro k
      constructor
      · rintro ⟨t1, t2, t3⟩; exact P k t1 t2 t3
      · intro t
        exact ⟨Int.dvd_trans t (Int.one_dvd _), Int.dvd_trans t (Int.one_dvd _), Int.dvd_trans t (Int.one_dvd _)⟩
  have hfD : fD f = D := hf.1.dis
  have hgD : fD g = D := hg.1.dis
  have hfp : 0 < f.1 := by have := hf.1.a1; omega
  have hgp : 0 < g.1 := by have := hg.1.a1; omega
  have hcl : Cl D (eP D (fL f) (fL g)) (fL (a * e, b1, c1)) := by
    have w1 := cl_red hfp hfD i4 (prc_pos i3)
    have w2 := cl_red hgp hgD j4 (prc_pos j3)
    have w3 := cl_red (f := (a, b, c)) (g := (a, b1, e * c1)) (D := D) (prc_pos i3) hd E1 (by show 0 < a; omega)
    have w4 := cl_red (f := (A, B, C)) (g := (e, b1, a * c1)) (D := D) (prc_pos j3) hD E2 (by show 0 < e; omega)
    have w5 := cl_prod hD2 (cl_trans hD2 w3 w1) (cl_trans hD2 w4 w2)
    exact cl_trans hD2 (cl_symm w5) (cl_united dis.symm hmn)
  refine ⟨(a, b, c), (A, B, C), p1, p2, p3, p4, q1, q2, q3, q4, x, y, q, s, e, hB, hC, b1, c1, α, β, fun h => ⟨i1, j1, i3, j3, i5, j5, ku, ?_, k2 f g _ _ i2 j2, hcf, hae, ⟨hec, hec0, z1⟩, ⟨i6, i7, i8, i9⟩, ⟨j6, j7, j8, j9⟩, hcl⟩⟩
  rw [k1, times_w]
  simp only [Option.bind_some, Int.mul_one, Int.mul_zero, Int.add_zero]
theorem compose_both {D : Int} (hD1 : -2000 ≤ D) (hD2 : D < 0) {f g : F3} (hf : CF D f) (hg : CF D g) : ∃ h, r_impl_compose f g = some h ∧ r_spec_coMul f g = some h ∧ PrRc D h ∧ CF D h ∧ Cl D (eP D (fL f) (fL g)) (fL h) := by
  obtain ⟨f', g', p1, p2, p3, p4, q1, q2, q3, q4, x, y, q, s, e, hB, hC, b1, c1, α, β, k⟩ := cmps_mk hD1 hD2 hf hg
  obtain ⟨rf, rg, pf, pg, mf, mg, uni, imp, spc, cf, ae, ec, pb, qb, cl⟩ := k f
  obtain ⟨h, m1, m2, m3, m4, i1, i2, i3, i4, i5, i6, i7, i8, i9, i10⟩ := red_cf cf
  have ha : 1 ≤ f'.1 := pf.1
  have e1 := uni.e1
  have hae0 : 1 * 1 ≤ f'.1 * e := Int.mul_le_mul ha e1 (by omega) (by omega)
  have hcl : Cl D (eP D (fL f) (fL g)) (fL h) := by
    refine cl_trans hD2 cl (cl_symm (cl_red ?_ ?_ i4 (prc_pos i3)))
    · show 0 < f'.1 * e; omega
    · exact cf.1.dis
  refine ⟨h, ?_, ?_, i3, i10, hcl⟩
  · simp only [r_impl_compose, r_impl_reduced, rf, rg, imp, r_impl_united_composite, Option.bind_some, sI_eq]
    rw [zL (n := f'.1 * e) (by omega), i1]
    rfl
  · unfold r_spec_coMul
    rw [spc, dsc_mul, times_w]
    simp only [Option.bind_some, times_w]
    unfold r_spec_coJoined
    simp only []
    rw [nz_ne (show e ≠ 0 by omega)]
    simp only [Option.bind_some, sI_eq]
    rw [zL (n := f'.1 * e) (by omega), tdv (a := e * c1) (b := e) (c := c1) (by omega) rfl, zL (n := c1) (by
      have h1 : 1 * c1 ≤ e * c1 := Int.mul_le_mul_of_nonneg_right e1 (by omega)
      omega)]
    simp only [Option.bind_some, r_spec_reClass, i2]
end Go.Proofs.YtfmjfofocklgpaaGreatDoor
namespace Go.Proofs.YtfmjfofocklgpaaGreatDoor
set_option linter.unusedVariables false
set_option linter.unusedSimpArgs false
def gS (D : Int) (hD : D < 0) : Setoid (List El) := ⟨Cl D, cl_refl D, cl_symm, cl_trans hD⟩
def GG (D : Int) (hD : D < 0) : Type := Quotient (gS D hD)
def gM {D : Int} {hD : D < 0} (x y : GG D hD) : GG D hD := Quotient.lift₂ (s₁ := gS D hD) (s₂ := gS D hD) (fun l m => (Quotient.mk (gS D hD) (eP D l m) : GG D hD)) (fun _ _ _ _ h k => Quotient.sound (s := gS D hD) (cl_prod hD h k)) x y
def gC (D : Int) (hD : D < 0) (f : F3) : GG D hD := Quotient.mk (gS D hD) (fL f)
theorem gM_comm {D : Int} {hD : D < 0} (x y : GG D hD) : gM x y = gM y x := by
  induction x using Quotient.inductionOn with | _ x
  induction y using Quotient.inductionOn with | _ y
  exact Quotient.sound (s := gS D hD) (cl_comm D x y)
theorem gM_assoc {D : Int} {hD : D < 0} (x y z : GG D hD) : gM (gM x y) z = gM x (gM y z) := by
  induction x using Quotient.inductionOn with | _ x
  induction y using Quotient.inductionOn with | _ y
  induction z using Quotient.inductionOn with | _ z
  exact Quotient.sound (s := gS D hD) (cl_assoc D x y z)
theorem gC_eq {D : Int} {hD : D < 0} {f g : F3} : gC D hD f = gC D hD g ↔ Cl D (fL f) (fL g) := ⟨fun h => Quotient.exact h, fun h => Quotient.sound h⟩
theorem gM_of {D : Int} {hD : D < 0} {f g h : F3} (k : Cl D (eP D (fL f) (fL g)) (fL h)) : gM (gC D hD f) (gC D hD g) = gC D hD h := Quotient.sound (s := gS D hD) k
/-- The identity form. -/
def pF (D : Int) : F3 := (1, D % 2, (D % 2 - D) / 4)
def g1 (D : Int) (hD : D < 0) : GG D hD := gC D hD (pF D)
theorem disc_par {D a b c : Int} (h : b * b - 4 * a * c = D) : D % 4 ≤ 1 ∧ D % 2 = b % 2 := by
  have e : 4 * a * c = 4 * (a * c) := Int.mul_assoc ..
  obtain ⟨t, ht | ht⟩ : ∃ t, b = 2 * t ∨ b = 2 * t + 1 := ⟨b / 2, by omega⟩
  · rw [ht, show 2 * t * (2 * t) = 4 * (t * t) by grind] at h; omega
  · rw [ht, show (2 * t + 1) * (2 * t + 1) = 4 * (t * t + t) + 1 by grind] at h; omega
theorem gone_mul {D : Int} {hD : D < 0} {f : F3} (hf : fD f = D) : gM (g1 D hD) (gC D hD f) = gC D hD f := by
  obtain ⟨a, b, c⟩ := f
  have hp := disc_par (a := a) (b := b) (c := c) hf
  exact gM_of (cl_one (m := (b + D % 2) / 2) hf.symm (by omega))
theorem pf_prc {D : Int} (hD1 : -2000 ≤ D) (hD2 : D < 0) (h4 : D % 4 ≤ 1) : PrRc D (pF D) := by
  have e : (D % 2) * (D % 2) = D % 2 := by
    rcases (by omega : D % 2 = 0 ∨ D % 2 = 1) with h | h <;> rw [h] <;> rfl
  refine ⟨Int.le_refl 1, ⟨⟨?_, ?_⟩, ?_⟩, ?_, fun k h _ _ => h⟩
  · show -1 < D % 2; omega
  · show D % 2 ≤ 1; omega
  · show 1 < (D % 2 - D) / 4 ∨ (1 = (D % 2 - D) / 4 ∧ 0 ≤ D % 2)
    omega
  · show D % 2 * (D % 2) - 4 * 1 * ((D % 2 - D) / 4) = D
    rw [e]
    omega
theorem cf_of_prc {D : Int} (hD1 : -2000 ≤ D) (hD2 : D < 0) {f : F3} (h : PrRc D f) : CF D f := by
  obtain ⟨r, ra⟩ := prr_rb hD1 h
  obtain ⟨h1, h2, h3, h4⟩ := h
  obtain ⟨r1, r2, r3, r4, r5, r6⟩ := r
  refine ⟨⟨h1, by omega, by omega, by omega, r5, by omega, h3, hD2, .inr (by omega), fun k => ⟨fun ⟨a, b, c⟩ => h4 k a b c, fun t => ?_⟩⟩, by omega⟩
  exact ⟨Int.dvd_trans t (Int.one_dvd _), Int.dvd_trans t (Int.one_dvd _), Int.dvd_trans t (Int.one_dvd _)⟩
theorem cf_pos {D : Int} {f : F3} (h : CF D f) : 0 < f.1 := by have := h.1.a1; omega
theorem cf_disc {D : Int} {f : F3} (h : CF D f) : fD f = D := h.1.dis
theorem cf_4 {D : Int} {f : F3} (h : CF D f) : D % 4 ≤ 1 := (disc_par (cf_disc h)).1
theorem prc_eq {D : Int} {hD : D < 0} {f g : F3} (hf : PrRc D f) (hg : PrRc D g) (h : gC D hD f = gC D hD g) : f = g := prc_uniq hD hf hg (gC_eq.1 h)
theorem compG {D : Int} (hD1 : -2000 ≤ D) (hD : D < 0) {f g : F3} (hf : CF D f) (hg : CF D g) : ∃ h, r_impl_compose f g = some h ∧ r_spec_coMul f g = some h ∧ PrRc D h ∧ CF D h ∧ gC D hD h = gM (gC D hD f) (gC D hD g) := by
  obtain ⟨h, h1, h2, h3, h4, h5⟩ := compose_both hD1 hD hf hg
  exact ⟨h, h1, h2, h3, h4, (gM_of h5).symm⟩
theorem redG {D : Int} (hD : D < 0) {f : F3} (hf : CF D f) : ∃ g, r_impl_reduced f = some g ∧ r_spec_reClass f = some g ∧ PrRc D g ∧ CF D g ∧ gC D hD g = gC D hD f := by
  obtain ⟨g, m1, m2, m3, m4, k1, k2, k3, k4, k5, k6, k7, k8, k9, k10⟩ := red_cf hf
  exact ⟨g, by simp only [r_impl_reduced, k1, Option.bind_some], by simp only [r_spec_reClass, k2, Option.bind_some], k3, k10, gC_eq.2 (cl_red (cf_pos hf) (cf_disc hf) k4 (prc_pos k3))⟩
/-- Reducing a reduced form. -/
theorem red_self {D : Int} (hD1 : -2000 ≤ D) (hD : D < 0) {f : F3} (hf : PrRc D f) : r_impl_reduced f = some f ∧ r_spec_reClass f = some f := by
  obtain ⟨g, h1, h2, h3, h4, h5⟩ := redG hD (cf_of_prc hD1 hD hf)
  have := prc_eq h3 hf h5
  rw [this] at h1 h2
  exact ⟨h1, h2⟩
def opF (f : F3) : F3 := (f.1, -f.2.1, f.2.2)
theorem gC_inv {D : Int} {hD : D < 0} {f : F3} (h : CF D f) : gM (gC D hD f) (gC D hD (opF f)) = g1 D hD := by
  obtain ⟨x, y, z, hx⟩ := bez3 (con_one h.1)
  have hp := disc_par (a := f.1) (b := f.2.1) (c := f.2.2) h.1.dis
  exact gM_of (cl_inv (a := f.1) (b := f.2.1) (c := f.2.2) (m := (f.2.1 + D % 2) / 2) (cf_pos h) h.1.dis.symm (by omega) hx)
def gP {D : Int} {hD : D < 0} (x : GG D hD) : Nat → GG D hD
  | 0 => g1 D hD
  | n + 1 => gM (gP x n) x
/-- Classes of forms. -/
def gF {D : Int} {hD : D < 0} (x : GG D hD) : Prop := gM (g1 D hD) x = x
theorem gF_of {D : Int} {hD : D < 0} {f : F3} (h : CF D f) : gF (gC D hD f) := gone_mul (cf_disc h)
theorem gF_mul {D : Int} {hD : D < 0} {x y : GG D hD} (h : gF x) : gF (gM x y) := by
  unfold gF at h ⊢
  rw [← gM_assoc, h]
theorem gF_one {D : Int} (hD : D < 0) (h4 : D % 4 ≤ 1) (hD1 : -2000 ≤ D) : gF (g1 D hD) := gF_of (cf_of_prc hD1 hD (pf_prc hD1 hD h4))
theorem gP_F {D : Int} {hD : D < 0} {x : GG D hD} (h1 : gF (g1 D hD)) : ∀ n, gF (gP x n)
  | 0 => h1
  | n + 1 => gF_mul (gP_F h1 n)
theorem gP_add {D : Int} {hD : D < 0} {x : GG D hD} (h1 : gF (g1 D hD)) (m : Nat) : ∀ n, gP x (m + n) = gM (gP x m) (gP x n)
  | 0 => by rw [gM_comm]; exact (gP_F h1 m).symm
  | n + 1 => by
    show gM (gP x (m + n)) x = gM (gP x m) (gM (gP x n) x)
    rw [gP_add h1 m n, gM_assoc]
theorem gP_sq {D : Int} {hD : D < 0} {x : GG D hD} (h1 : gF (g1 D hD)) : ∀ n, gP (gM x x) n = gP x (2 * n)
  | 0 => rfl
  | n + 1 => by
    show gM (gP (gM x x) n) (gM x x) = gM (gM (gP x (2 * n)) x) x
    rw [gP_sq h1 n, gM_assoc]
theorem gP_inv {D : Int} {hD : D < 0} {x y : GG D hD} (h1 : gF (g1 D hD)) (h : gM x y = g1 D hD) : ∀ n, gM (gP x n) (gP y n) = g1 D hD
  | 0 => h1
  | n + 1 => by
    show gM (gM (gP x n) x) (gM (gP y n) y) = _
    have e : gM (gM (gP x n) x) (gM (gP y n) y) = gM (gM (gP x n) (gP y n)) (gM x y) := by
      rw [gM_assoc, gM_assoc]
      congr 1
      rw [← gM_assoc, gM_comm x, gM_assoc]
    rw [e, gP_inv h1 h n, h]; exact h1
/-- Cancelling. -/
theorem gM_canc {D : Int} {hD : D < 0} {x y z w : GG D hD} (hy : gF y) (hz : gF z) (h : gM x w = g1 D hD) (e : gM x y = gM x z) : y = z := by
  have e2 : gM w (gM x y) = gM w (gM x z) := by rw [e]
  rw [← gM_assoc, ← gM_assoc, gM_comm w x, h, hy, hz] at e2
  exact e2
end Go.Proofs.YtfmjfofocklgpaaGreatDoor
namespace Go.Proofs.YtfmjfofocklgpaaGreatDoor
set_option linter.unusedVariables false
set_option linter.unusedSimpArgs false
theorem cf_disc_val {D : Int} (hD1 : -2000 ≤ D) {f : F3} (h : CF D f) : r_impl_Form_disc f = some D := by
  obtain ⟨a, b, c⟩ := f
  have := h.1.dis
  have hn := h.1.neg
  simp only [] at this
  rw [disc_w, this, zL (by omega)]
/-- Class forms with a discriminant. -/
def CFc (D : Int) (f : F3) : Prop := r_impl_isClassForm f = some true ∧ r_impl_Form_disc f = some D ∧ CF D f ∧ -2000 ≤ D ∧ D < 0
theorem cfc_of {f : F3} (h : r_impl_isClassForm f = some true) : CFc (f.2.1 * f.2.1 - 4 * f.1 * f.2.2) f := by
  have h1 := cf_of_class h
  obtain ⟨_, _, _, k1, k2, _⟩ := class_true (a := f.1) (b := f.2.1) (c := f.2.2) h
  exact ⟨h, cf_disc_val k2 h1, h1, k2, k1⟩
theorem pair_val (f g : F3) : ∃ b, r_impl_arePair f g = some b ∧ r_spec_coTwo f g = some b ∧ (b = true → ∃ D, CFc D f ∧ CFc D g) := by
  obtain ⟨b1, h1⟩ := class_some f
  obtain ⟨b2, h2⟩ := class_some g
  unfold r_impl_arePair r_spec_coTwo
  rw [class_val f, class_val g, h1, h2]
  cases b1 with
  | false => exact ⟨false, rfl, rfl, fun h => by cases h⟩
  | true =>
    cases b2 with
    | false => exact ⟨false, rfl, rfl, fun h => by cases h⟩
    | true =>
      have k1 := cfc_of h1
      have k2 := cfc_of h2
      simp only [Option.bind_some, cond_true, disc_eq, k1.2.1, k2.2.1]
      refine ⟨_, rfl, rfl, fun h => ?_⟩
      rw [eqI_eq, beq_iff_eq] at h
      rw [← h] at k2
      exact ⟨_, k1, k2⟩
theorem prin_val {D : Int} (hD1 : -2000 ≤ D) (hD : D < 0) (h4 : D % 4 ≤ 1) : r_impl_principalForm D = some (pF D) := by
  simp only [r_impl_principalForm]
  rw [dsc_mod_val (by omega) (by omega)]
  simp only [Option.bind_some, sI_eq]
  rw [zL (n := D % 2 - D) (by omega), tdv (a := D % 2 - D) (b := 4) (c := (D % 2 - D) / 4) (by decide) (by omega), zL (by omega)]
  rfl
theorem identity_val {D : Int} (hD : D < 0) {f : F3} (hD1 : -2000 ≤ D) (h : CF D f) : ∃ b, r_impl_isIdentity f = some b ∧ (b = true ↔ gC D hD f = g1 D hD) := by
  obtain ⟨g, j1, j2, j3, j4, j5⟩ := redG hD h
  have h4 := cf_4 h
  have hp := pf_prc hD1 hD h4
  obtain ⟨k1, _⟩ := red_self hD1 hD hp
  refine ⟨((g.1 == (pF D).1) && ((g.2.1 == (pF D).2.1) && (g.2.2 == (pF D).2.2))), by simp only [r_impl_isIdentity, j1, cf_disc_val hD1 h, prin_val hD1 hD h4, k1, Option.bind_some], ?_⟩
  rw [Bool.and_eq_true, Bool.and_eq_true, beq_iff_eq, beq_iff_eq, beq_iff_eq, ← j5]
  constructor
  · rintro ⟨e1, e2, e3⟩
    have : g = pF D := Prod.ext e1 (Prod.ext e2 e3)
    rw [this]; rfl
  · intro e
    have := prc_eq j3 hp e
    rw [this]; exact ⟨rfl, rfl, rfl⟩
theorem gM_one {D : Int} {hD : D < 0} {x : GG D hD} (h : gF x) : gM x (g1 D hD) = x := by rw [gM_comm]; exact h
theorem nodup_sub {α : Type} [DecidableEq α] : ∀ (l L : List α), l.Nodup → (∀ x ∈ l, x ∈ L) → l.length ≤ L.length
  | [], L, _, _ => Nat.zero_le _
  | a :: t, L, h, hs => by
    have ha : a ∈ L := hs a (by simp)
    obtain ⟨h1, h2⟩ := List.nodup_cons.1 h
    have := nodup_sub t (L.erase a) h2 fun x hx => (List.mem_erase_of_ne (by intro e; rw [e] at hx; exact h1 hx)).2 (hs x (by simp [hx]))
    rw [List.length_erase_of_mem ha] at this
    have hl : 0 < L.length := List.length_pos_of_mem ha
    simp only [List.length_cons]
    omega
theorem pow_form {D : Int} (hD1 : -2000 ≤ D) (hD : D < 0) {f : F3} (hf : CF D f) : ∀ k : Nat, ∃ h, PrRc D h ∧ gC D hD h = gP (gC D hD f) k
  | 0 => ⟨pF D, pf_prc hD1 hD (cf_4 hf), rfl⟩
  | k + 1 => by
    obtain ⟨h, h1, h2⟩ := pow_form hD1 hD hf k
    obtain ⟨g, _, _, j3, _, j5⟩ := compG hD1 hD (cf_of_prc hD1 hD h1) hf
    exact ⟨g, j3, by rw [j5, h2]; rfl⟩
def boxL : List (Int × Int) := (List.range 26).flatMap fun (a : Nat) => (List.range 60).map fun (b : Nat) => (Int.ofNat a, Int.ofNat b - 30)
theorem boxL_len : boxL.length = 1560 := by decide +kernel
theorem boxL_mem {a b : Int} (h1 : 0 ≤ a) (h2 : a ≤ 25) (h3 : -26 ≤ b) (h4 : b ≤ 26) : (a, b) ∈ boxL := by
  unfold boxL
  refine List.mem_flatMap.2 ⟨a.toNat, List.mem_range.2 (by omega), List.mem_map.2 ⟨(b + 30).toNat, List.mem_range.2 (by omega), ?_⟩⟩
  refine Prod.ext ?_ ?_
  · show ((a.toNat : Nat) : Int) = a; omega
  · show (((b + 30).toNat : Nat) : Int) - 30 = b; omega
theorem order_ex {D : Int} (hD1 : -2000 ≤ D) (hD : D < 0) {f : F3} (hf : CF D f) : ∃ M : Nat, 1 ≤ M ∧ M ≤ 1600 ∧ gP (gC D hD f) M = g1 D hD := by
  have h1 := gF_one hD (cf_4 hf) hD1
  let h : Nat → F3 := fun k => (pow_form hD1 hD hf k).choose
  have hh : ∀ k, PrRc D (h k) ∧ gC D hD (h k) = gP (gC D hD f) k := fun k => (pow_form hD1 hD hf k).choose_spec
  have hcol : ∃ i j, i < j ∧ j ≤ 1600 ∧ h i = h j := by
    refine Classical.byContradiction fun hno => ?_
    have hinj : ∀ i j, i < j → j ≤ 1600 → h i ≠ h j := fun i j a b e => hno ⟨i, j, a, b, e⟩
    have nd : ((List.range 1601).map fun k => ((h k).1, (h k).2.1)).Nodup := by
      unfold List.Nodup
      rw [List.pairwise_map]
      refine List.Pairwise.imp_of_mem ?_ (List.pairwise_lt_range (n := 1601))
      intro i j hi hj hij e
      have hj' : j < 1601 := List.mem_range.1 hj
      refine hinj i j hij (by omega) ?_
      have e1 : (h i).1 = (h j).1 := (Prod.mk.inj e).1
      have e2 : (h i).2.1 = (h j).2.1 := (Prod.mk.inj e).2
      obtain ⟨q1, q2, q3, q4⟩ := (hh i).1
      obtain ⟨r1, r2, r3, r4⟩ := (hh j).1
      rw [e1, e2] at q3
      have e3 : (h i).2.2 = (h j).2.2 := four_canc (a := (h j).1) r1 (by omega)
      exact Prod.ext e1 (Prod.ext e2 e3)
    have := nodup_sub _ boxL nd fun x hx => by
      obtain ⟨k, _, e⟩ := List.mem_map.1 hx
      rw [← e]
      obtain ⟨r, ra⟩ := prr_rb hD1 (hh k).1
      exact boxL_mem (by have := r.a1; omega) ra r.b1 r.b2
    rw [boxL_len, List.length_map, List.length_range] at this
    omega
  obtain ⟨i, j, hij, hj, e⟩ := hcol
  refine ⟨j - i, by omega, by omega, ?_⟩
  have e2 : gP (gC D hD f) i = gP (gC D hD f) j := by rw [← (hh i).2, ← (hh j).2, e]
  have e3 : gM (gP (gC D hD f) i) (gP (gC D hD f) (j - i)) = gM (gP (gC D hD f) i) (g1 D hD) := by
    rw [← gP_add h1, show i + (j - i) = j by omega, ← e2, gM_one (gP_F h1 i)]
  exact gM_canc (gP_F h1 _) h1 (gP_inv h1 (gC_inv hf) i) e3
theorem order_run {D : Int} (hD1 : -2000 ≤ D) (hD : D < 0) {f : F3} (hf : CF D f) {M : Nat} (hM : M ≤ 1600) (hMe : gP (gC D hD f) M = g1 D hD) : ∀ (n k : Nat) (p : F3), M - k < n → 1 ≤ k → k ≤ M → CF D p → gC D hD p = gP (gC D hD f) k → ∃ r : Nat, r_impl_orderOf_L7 f n (k : Int) p.1 p.2.1 p.2.2 = some (r : Int) ∧ k ≤ r ∧ r ≤ M ∧ gP (gC D hD f) r = g1 D hD ∧ ∀ j, k ≤ j → j < r → gP (gC D hD f) j ≠ g1 D hD
  | 0, k, p, hn, h1, h2, hp, e => by omega
  | n + 1, k, p, hn, h1, h2, hp, e => by
    rw [r_impl_orderOf_L7]
    obtain ⟨b, b1, b2⟩ := identity_val hD hD1 hp
    have b1' : r_impl_isIdentity (p.1, p.2.1, p.2.2) = some b := b1
    rw [b1', Option.bind_some]
    cases b with
    | true =>
      rw [Bool.not_true, cond_false]
      exact ⟨k, rfl, Nat.le_refl _, h2, by rw [← e]; exact b2.1 rfl, fun j h3 h4 => by omega⟩
    | false =>
      have hne : gP (gC D hD f) k ≠ g1 D hD := by
        intro h3
        rw [← e] at h3
        exact absurd (b2.2 h3) (by decide)
      have hkM : k ≠ M := fun h3 => hne (h3 ▸ hMe)
      obtain ⟨g, j1, j2, j3, j4, j5⟩ := compG hD1 hD hp hf
      have j1' : r_impl_compose (p.1, p.2.1, p.2.2) f = some g := j1
      simp only [Bool.not_false, cond_true, sI_eq, j1', Option.bind_some]
      rw [wsucc (by omega)]
      obtain ⟨r, r1, r2, r3, r4, r5⟩ := order_run hD1 hD hf hM hMe n (k + 1) g (by omega) (by omega) (by omega) j4 (by rw [j5, e]; rfl)
      refine ⟨r, r1, by omega, r3, r4, fun j h3 h4 => ?_⟩
      by_cases hj : j = k
      · rw [hj]; exact hne
      · exact r5 j (by omega) h4
theorem gP_oneth {D : Int} {hD : D < 0} {x : GG D hD} (h : gF x) : gP x 1 = x := h
end Go.Proofs.YtfmjfofocklgpaaGreatDoor
namespace Go.Proofs.YtfmjfofocklgpaaGreatDoor
set_option linter.unusedVariables false
set_option linter.unusedSimpArgs false
theorem all_run (l : List Int) (hl : l.length < 1000000) : ∀ (n i : Nat), i ≤ l.length → l.length - i < n → r_spec_l1All_L5 1000000 l (-1000000) n (i : Int) = some (if (l.drop i).all inN then .inl () else .inr false)
  | 0, i, _, h => by omega
  | n + 1, i, hi, h => by
    unfold r_spec_l1All_L5
    rw [ltI_eq]
    by_cases h1 : (i : Int) < (l.length : Int)
    · have h2 : i < l.length := by omega
      rw [decide_eq_true h1, cond_true]
      rw [getNat h2, Option.bind_some, List.drop_eq_getElem_cons h2, List.all_cons]
      have hin : r_spec_l1In l[i] (-1000000) 1000000 = some (inN l[i]) := by
        simp only [r_spec_l1In, inN]
        cases leI (-1000000) l[i] <;> rfl
      rw [hin, Option.bind_some]
      have ih := all_run l hl n (i + 1) (by omega) (by omega)
      cases hb : inN l[i] with
      | false => simp
      | true =>
        simp only [Bool.not_true, cond_false, sI_eq, Bool.true_and]
        rw [zL (by omega), show ((i : Int) + 1) = ((i + 1 : Nat) : Int) by omega, ih]
    · rw [decide_eq_false h1, cond_false, List.drop_eq_nil_of_le (by omega)]
      simp
theorem all_val (l : List Int) (hl : l.length < 1000000) : r_spec_l1All l (-1000000) 1000000 = some (l.all inN) := by
  have h := all_run l hl FU 0 (Nat.zero_le _) (by have := FUge; omega)
  have e0 : (((0 : Nat) : Int)) = 0 := rfl
  rw [e0, List.drop_zero] at h
  unfold r_spec_l1All
  rw [h]
  cases l.all inN <;> simp
theorem roots_run {d n : Int} (h1 : 1 ≤ n) (h2 : n ≤ 2500) : ∀ (fu k : Nat) (acc : List Int), (k : Int) ≤ 2 * n → 2 * n - k < fu → acc.length ≤ k → (∀ x ∈ acc, 0 ≤ x ∧ x ≤ 5000) →
    ∃ l, r_spec_roDisc_L5 d n fu (k : Int) acc = some l ∧ r_impl_rootsOfDiscriminant_L5 d n fu (k : Int) acc = some l ∧ l.length ≤ 5000 ∧ ∀ x ∈ l, 0 ≤ x ∧ x ≤ 5000
  | 0, k, acc, h3, h4, h5, h6 => by omega
  | fu + 1, k, acc, h3, h4, h5, h6 => by
    unfold r_spec_roDisc_L5 r_impl_rootsOfDiscriminant_L5
    rw [ltI_eq, zL (show -9223372036854775808 ≤ 2 * n ∧ 2 * n ≤ 9223372036854775807 by omega)]
    by_cases hk : (k : Int) < 2 * n
    · have hz : nz (w64 (4 * n)) = some () := nzOk (by rw [zL (by omega)]; omega)
      rw [decide_eq_true hk, cond_true, cond_true, hz]
      simp only [Option.bind_some, sI_eq, wsucc (show k < 1000000000 by omega)]
      cases eqI (Int.tmod (w64 (w64 ((k : Int) * k) - d)) (w64 (4 * n))) 0 with
      | true =>
        rw [cond_true, cond_true, roomOk (by simp; omega)]
        simp only [Option.bind_some]
        refine roots_run h1 h2 fu (k + 1) _ (by omega) (by omega) (by simp; omega) ?_
        intro x hx
        rw [List.mem_append] at hx
        rcases hx with hx | hx
        · exact h6 x hx
        · rw [List.mem_singleton] at hx
          omega
      | false =>
        rw [cond_false, cond_false]
        exact roots_run h1 h2 fu (k + 1) acc (by omega) (by omega) (by omega) h6
    · rw [decide_eq_false hk, cond_false, cond_false]
      exact ⟨acc, rfl, rfl, by omega, h6⟩
theorem roots_both {d n : Int} (h1 : 1 ≤ n) (h2 : n ≤ 2500) : ∃ l, r_spec_roDisc d n = some l ∧ r_impl_rootsOfDiscriminant d n = some l ∧ l.length ≤ 5000 ∧ ∀ x ∈ l, 0 ≤ x ∧ x ≤ 5000 := by
  have hF := FUge
  obtain ⟨l, g1, g2, g3, g4⟩ := roots_run (d := d) h1 h2 FU 0 [] (by omega) (by omega) (by simp) (by simp)
  refine ⟨l, ?_, ?_, g3, g4⟩
  · unfold r_spec_roDisc
    rw [show (0 : Int) = ((0 : Nat) : Int) from rfl, g1]
    rfl
  · unfold r_impl_rootsOfDiscriminant
    rw [show (0 : Int) = ((0 : Nat) : Int) from rfl, g2]
    rfl
end Go.Proofs.YtfmjfofocklgpaaGreatDoor
namespace Go.Proofs.YtfmjfofocklgpaaGreatDoor
open Go.Lib
set_option linter.unusedVariables false
set_option linter.unusedSimpArgs false
theorem makes_eq (f : F3) (m : Int × Int × Int × Int) (g : F3) : r_spec_prTakes f m g = r_impl_makesOf f m g := by
  unfold r_spec_prTakes r_impl_makesOf
  rw [dsc_det, dsc_act]
theorem makes_some (f : F3) (m : Int × Int × Int × Int) (g : F3) : ∃ b, r_impl_makesOf f m g = some b := by
  obtain ⟨a, b, c⟩ := f
  obtain ⟨p, q, r, s⟩ := m
  unfold r_impl_makesOf r_impl_Matrix_det
  simp only [sub_w, sI_eq, Option.bind_some]
  cases eqI (w64 (w64 (p * s) - w64 (q * r))) 1 <;> exact ⟨_, rfl⟩
theorem red_some (f : F3) : ∃ b, r_impl_Form_isReduced f = some b := by
  unfold r_impl_Form_isReduced
  exact ⟨_, rfl⟩
theorem nbN {n : Int} (h : NB n) : n.natAbs ≤ 1000000 := by have := h.1; have := h.2; omega
theorem exp_eq (p : Int) : ∀ (n : Nat) (v k : Int), r_spec_nuExponent_L5 p n v k = r_impl_exponent_L5 p n v k
  | 0, v, k => rfl
  | n + 1, v, k => by
    unfold r_spec_nuExponent_L5 r_impl_exponent_L5
    simp only [sI_eq, exp_eq p n]
theorem exp_some {p : Int} (hp : 2 ≤ p) (hp2 : p ≤ 1000000) : ∀ (n : Nat) (v k : Int), 1 ≤ v → v ≤ 1000000 → v.toNat < n → ∃ r, r_impl_exponent_L5 p n v k = some r
  | 0, v, k, h1, h2, h3 => by omega
  | n + 1, v, k, h1, h2, h3 => by
    unfold r_impl_exponent_L5
    rw [nz_ne (show p ≠ 0 by omega)]
    simp only [Option.bind_some, sI_eq]
    cases h : eqI (Int.tmod v p) 0 with
    | false => exact ⟨_, rfl⟩
    | true =>
      rw [cond_true]
      have e : v.tdiv p = v / p := Int.tdiv_eq_ediv_of_nonneg (by omega)
      have e1 : v.tmod p = v % p := Int.tmod_eq_emod_of_nonneg (by omega)
      rw [eqI_eq, beq_iff_eq, e1] at h
      have h4 : p * (v / p) = v := Int.mul_ediv_cancel' (Int.dvd_of_emod_eq_zero h)
      have h5 : 1 ≤ v / p := by
        rcases Int.lt_or_le 0 (v / p) with h6 | h6
        · omega
        · have := Int.mul_le_mul_of_nonneg_left h6 (show 0 ≤ p by omega)
          omega
      have h6 : 2 * (v / p) ≤ p * (v / p) := Int.mul_le_mul_of_nonneg_right hp (by omega)
      rw [e, zL (by omega)]
      exact exp_some hp hp2 n (v / p) _ h5 (by omega) (by omega)
theorem exp_both {p n : Int} (hp : 2 ≤ p) (hp2 : p ≤ 1000000) (hn : 1 ≤ n) (hn2 : n ≤ 1000000) : ∃ r, r_impl_exponent n p = some r ∧ r_spec_nuExponent n p = some r := by
  have hF : 1000001 < FU := by decide
  obtain ⟨r, h⟩ := exp_some hp hp2 FU n 0 hn hn2 (by omega)
  refine ⟨r, ?_, ?_⟩
  · unfold r_impl_exponent; rw [h]; rfl
  · unfold r_spec_nuExponent; rw [exp_eq, h]; rfl
theorem prime_low {p : Int} (h : p < 2) : r_impl_isPrime p = some false := by
  unfold r_impl_isPrime
  rw [ltI_eq, decide_eq_true h, cond_true]
theorem obs_both {d n p : Int} (hd : NB d) (hn : NB n) (hp : NB p) : ∃ b, r_impl_isObstruction d n p = some b ∧
    ((r_spec_reDisc d).bind fun y52 =>
      (bif (bif y52 then (leI 1 n) else false) then ((r_spec_l1In p 2 2500).bind fun y55 => some y55) else some false).bind fun b56 =>
      (bif b56 then ((r_spec_nuPrime p).bind fun y58 => some y58) else some false).bind fun b59 =>
      (bif b59 then ((r_spec_nuExponent n p).bind fun y61 => some (eqI (Int.tmod y61 2) 1)) else some false).bind fun b62 =>
      (bif b62 then ((r_spec_roDisc d p).bind fun y64 => some (eqI ((y64.length : Int)) 0)) else some false).bind fun b65 =>
      some b65) = some b := by
  unfold r_impl_isObstruction
  rw [negdisc_eq, negdisc_val]
  simp only [Option.bind_some, r_spec_l1In, prime_eq, leI_eq]
  by_cases hh : (-2000 ≤ d ∧ d ≤ -3 ∧ d % 4 ≤ 1)
  · rw [decide_eq_true hh, cond_true]
    by_cases h1 : (1 : Int) ≤ n
    · rw [decide_eq_true h1, cond_true]
      by_cases h2 : p ≤ 2500
      · rw [decide_eq_true h2, cond_true]
        by_cases h3 : 2 ≤ p
        · rw [decide_eq_true h3, cond_true]
          obtain ⟨b, hb⟩ := prime_some p hp.2
          simp only [hb, Option.bind_some, cond_true]
          cases b with
          | false => exact ⟨false, rfl, rfl⟩
          | true =>
            obtain ⟨r, r1, r2⟩ := exp_both (p := p) (n := n) h3 hp.2 h1 hn.2
            obtain ⟨l, l1, l2, _⟩ := roots_both (d := d) (n := p) (by omega) h2
            simp only [cond_true, r1, r2, Option.bind_some, l1, l2]
            cases eqI (Int.tmod r 2) 1 <;> exact ⟨_, rfl, rfl⟩
        · rw [decide_eq_false h3, cond_false, prime_low (by omega)]
          exact ⟨false, rfl, rfl⟩
      · rw [decide_eq_false h2, cond_false]
        cases decide (2 ≤ p) <;> exact ⟨false, rfl, rfl⟩
    · rw [decide_eq_false h1, cond_false]
      exact ⟨false, rfl, rfl⟩
  · rw [decide_eq_false hh, cond_false]
    exact ⟨false, rfl, rfl⟩
def fitT (h : F3) (x y u v : Int) : Int := w64 ((w64 ((w64 ((w64 (h.1 * x)) * y)) + (w64 ((w64 (h.2.1 * x)) * v)))) + (w64 ((w64 (h.2.2 * u)) * v)))
theorem fits_run (f g h : F3) (a0 a1 a2 a3 b0 b1 b2 b3 : Int) : r_spec_coFits_L8 f g [a0, a1, a2, a3, b0, b1, b2, b3] h FU 0 (List.replicate (Int.toNat 9) 0) = some [w64 (0 + fitT h a0 a0 b0 b0), w64 (w64 (0 + fitT h a0 a1 b0 b1) + fitT h a1 a0 b1 b0), w64 (0 + fitT h a1 a1 b1 b1),
    w64 (w64 (0 + fitT h a0 a2 b0 b2) + fitT h a2 a0 b2 b0), w64 (w64 (w64 (w64 (0 + fitT h a0 a3 b0 b3) + fitT h a1 a2 b1 b2) + fitT h a2 a1 b2 b1) + fitT h a3 a0 b3 b0), w64 (w64 (0 + fitT h a1 a3 b1 b3) + fitT h a3 a1 b3 b1),
    w64 (0 + fitT h a2 a2 b2 b2), w64 (w64 (0 + fitT h a2 a3 b2 b3) + fitT h a3 a2 b3 b2), w64 (0 + fitT h a3 a3 b3 b3)] := by kernel_rfl
def cmp9 {α : Type} (no yes : α) : List (Int × Int) → α
  | [] => yes
  | p :: l => bif (!eqI p.1 p.2) then no else cmp9 no yes l
theorem fits_cmp (f g : F3) (c0 c1 c2 c3 c4 c5 c6 c7 c8 : Int) : r_spec_coFits_L31 f g [c0, c1, c2, c3, c4, c5, c6, c7, c8] FU 0 = cmp9 (some (.inr false)) (some (.inl ())) [(c0, w64 (f.1 * g.1)), (c1, w64 (f.1 * g.2.1)), (c2, w64 (f.1 * g.2.2)), (c3, w64 (f.2.1 * g.1)), (c4, w64 (f.2.1 * g.2.1)), (c5, w64 (f.2.1 * g.2.2)), (c6, w64 (f.2.2 * g.1)), (c7, w64 (f.2.2 * g.2.1)), (c8, w64 (f.2.2 * g.2.2))] := by kernel_rfl
theorem cmp9_both : ∀ l : List (Int × Int), (cmp9 (α := Option (Unit ⊕ Bool)) (some (.inr false)) (some (.inl ())) l = some (.inr false) ∧ cmp9 (α := Option (Bool × Bool)) (some (false, true)) (some (true, true)) l = some (false, true)) ∨ (cmp9 (α := Option (Unit ⊕ Bool)) (some (.inr false)) (some (.inl ())) l = some (.inl ()) ∧ cmp9 (α := Option (Bool × Bool)) (some (false, true)) (some (true, true)) l = some (true, true))
  | [] => .inr ⟨rfl, rfl⟩
  | p :: l => by
    unfold cmp9
    cases eqI p.1 p.2 with
    | false => exact .inl ⟨rfl, rfl⟩
    | true => exact cmp9_both l
theorem square_val (p1 p2 p3 p4 q1 q2 q3 q4 : Int) : r_impl_squareOf (p1, p2, p3, p4) (q1, q2, q3, q4) = some ((w64 (p1 * q1), w64 (p1 * q2 + p2 * q1), w64 (p2 * q2)), (w64 (p1 * q3 + p3 * q1), w64 (p1 * q4 + p2 * q3 + p3 * q2 + p4 * q1), w64 (p2 * q4 + p4 * q2)), (w64 (p3 * q3), w64 (p3 * q4 + p4 * q3), w64 (p4 * q4))) := by
  have ww : ∀ x, w64 (w64 x) = w64 x := fun x => w64_congr (by rw [bv_w64])
  simp only [r_impl_squareOf, sI_eq, wml, wmr, wal, war, Int.zero_add, ww, Int.add_assoc]
theorem fit1 (h : F3) (a0 b0 : Int) : w64 (0 + fitT h a0 a0 b0 b0) = w64 (h.1 * (a0 * a0) + h.2.1 * (a0 * b0) + h.2.2 * (b0 * b0)) := by
  simp only [fitT]
  refine w64_congr ?_
  simp only [bv_add, bv_mul, bv_w64, Int.zero_add]
  generalize bv h.1 = x; generalize bv h.2.1 = y; generalize bv h.2.2 = z; generalize bv a0 = p; generalize bv b0 = q
  grind
theorem fit2 (h : F3) (a0 a1 b0 b1 : Int) : w64 (w64 (0 + fitT h a0 a1 b0 b1) + fitT h a1 a0 b1 b0) = w64 (h.1 * (a0 * a1 + a1 * a0) + h.2.1 * (a0 * b1 + a1 * b0) + h.2.2 * (b0 * b1 + b1 * b0)) := by
  simp only [fitT]
  refine w64_congr ?_
  simp only [bv_add, bv_mul, bv_w64, Int.zero_add]
  generalize bv h.1 = x; generalize bv h.2.1 = y; generalize bv h.2.2 = z; generalize bv a0 = p; generalize bv b0 = q; generalize bv a1 = p1; generalize bv b1 = q1
  grind
theorem fit4 (h : F3) (a0 a1 a2 a3 b0 b1 b2 b3 : Int) : w64 (w64 (w64 (w64 (0 + fitT h a0 a3 b0 b3) + fitT h a1 a2 b1 b2) + fitT h a2 a1 b2 b1) + fitT h a3 a0 b3 b0) = w64 (h.1 * (a0 * a3 + a1 * a2 + a2 * a1 + a3 * a0) + h.2.1 * (a0 * b3 + a1 * b2 + a2 * b1 + a3 * b0) + h.2.2 * (b0 * b3 + b1 * b2 + b2 * b1 + b3 * b0)) := by
  simp only [fitT]
  refine w64_congr ?_
  simp only [bv_add, bv_mul, bv_w64, Int.zero_add]
  generalize bv h.1 = x; generalize bv h.2.1 = y; generalize bv h.2.2 = z; generalize bv a0 = p; generalize bv b0 = q; generalize bv a1 = p1; generalize bv b1 = q1; generalize bv a2 = p2; generalize bv b2 = q2; generalize bv a3 = p3; generalize bv b3 = q3
  grind
theorem imp_c (x y z A B C : Int) : w64 ((w64 ((w64 (x * w64 A)) + (w64 (y * w64 B)))) + (w64 (z * w64 C))) = w64 (x * A + y * B + z * C) := w64_congr (by simp only [bv_add, bv_mul, bv_w64])
theorem comp_both (f g h : F3) (N : List Int) (hl : N.length = 8) (hN : ∀ x ∈ N, NB x) : ∃ r, r_impl_IsComposition f g h N = some r ∧ r_spec_IsComposition f g h N = some r := by
  obtain ⟨b1, p1, p2, _⟩ := pair_val f g
  obtain ⟨b2, p3, p4, _⟩ := pair_val f h
  obtain ⟨b3, p5⟩ := red_some h
  have p6 : r_spec_reIs h = some b3 := by rw [dsc_is]; exact p5
  have hall : N.all inN = true := List.all_eq_true.2 fun x hx => nb_inN.1 (hN x hx)
  have p7 : r_impl_areNumbers N = some true := by rw [num_val N (by omega), hall]
  have p8 : r_spec_l1All N (-1000000) 1000000 = some true := by rw [all_val N (by omega), hall]
  have p9 : eqI ((N.length : Nat) : Int) 8 = true := by rw [hl]; rfl
  unfold r_impl_IsComposition r_spec_IsComposition
  simp only [p1, p2, p3, p4, p5, p6, p7, p8, p9, Option.bind_some]
  have hbad : ∀ b : Bool, b = (bif (bif (!b1) then true else (!b2)) then true else (!b3)) → True := fun _ _ => trivial
  cases b1 with
  | false => exact ⟨(false, false), rfl, rfl⟩
  | true =>
    cases b2 with
    | false => exact ⟨(false, false), rfl, rfl⟩
    | true =>
      cases b3 with
      | false => exact ⟨(false, false), rfl, rfl⟩
      | true =>
        match N, hl with
        | [a0, a1, a2, a3, c0, c1, c2, c3], _ =>
          have s1 : slc ([a0, a1, a2, a3, c0, c1, c2, c3] : List Int).length 0 4 = some () := rfl
          have s2 : slc ([a0, a1, a2, a3, c0, c1, c2, c3] : List Int).length 4 (([a0, a1, a2, a3, c0, c1, c2, c3] : List Int).length : Int) = some () := rfl
          have e1 : subl [a0, a1, a2, a3, c0, c1, c2, c3] 0 4 = [a0, a1, a2, a3] := rfl
          have e2 : subl [a0, a1, a2, a3, c0, c1, c2, c3] 4 (([a0, a1, a2, a3, c0, c1, c2, c3] : List Int).length : Int) = [c0, c1, c2, c3] := rfl
          have g0 : ∀ x y z w : Int, getI [x, y, z, w] 0 = some x := fun _ _ _ _ => rfl
          have g1 : ∀ x y z w : Int, getI [x, y, z, w] 1 = some y := fun _ _ _ _ => rfl
          have g2 : ∀ x y z w : Int, getI [x, y, z, w] 2 = some z := fun _ _ _ _ => rfl
          have g3 : ∀ x y z w : Int, getI [x, y, z, w] 3 = some w := fun _ _ _ _ => rfl
          have m9 : mk 9 9 = some () := rfl
          simp only [Bool.not_true, cond_false, Option.bind_some, s1, s2, e1, e2, g0, g1, g2, g3, square_val, imp_c, r_spec_coFits, m9, fits_run, fits_cmp, fit1, fit2, fit4]
          rcases cmp9_both [(w64 (h.1 * (a0 * a0) + h.2.1 * (a0 * c0) + h.2.2 * (c0 * c0)), w64 (f.1 * g.1)), (w64 (h.1 * (a0 * a1 + a1 * a0) + h.2.1 * (a0 * c1 + a1 * c0) + h.2.2 * (c0 * c1 + c1 * c0)), w64 (f.1 * g.2.1)), (w64 (h.1 * (a1 * a1) + h.2.1 * (a1 * c1) + h.2.2 * (c1 * c1)), w64 (f.1 * g.2.2)),
            (w64 (h.1 * (a0 * a2 + a2 * a0) + h.2.1 * (a0 * c2 + a2 * c0) + h.2.2 * (c0 * c2 + c2 * c0)), w64 (f.2.1 * g.1)), (w64 (h.1 * (a0 * a3 + a1 * a2 + a2 * a1 + a3 * a0) + h.2.1 * (a0 * c3 + a1 * c2 + a2 * c1 + a3 * c0) + h.2.2 * (c0 * c3 + c1 * c2 + c2 * c1 + c3 * c0)), w64 (f.2.1 * g.2.1)), (w64 (h.1 * (a1 * a3 + a3 * a1) + h.2.1 * (a1 * c3 + a3 * c1) + h.2.2 * (c1 * c3 + c3 * c1)), w64 (f.2.1 * g.2.2)),
            (w64 (h.1 * (a2 * a2) + h.2.1 * (a2 * c2) + h.2.2 * (c2 * c2)), w64 (f.2.2 * g.1)), (w64 (h.1 * (a2 * a3 + a3 * a2) + h.2.1 * (a2 * c3 + a3 * c2) + h.2.2 * (c2 * c3 + c3 * c2)), w64 (f.2.2 * g.2.1)), (w64 (h.1 * (a3 * a3) + h.2.1 * (a3 * c3) + h.2.2 * (c3 * c3)), w64 (f.2.2 * g.2.2))] with ⟨k1, k2⟩ | ⟨k1, k2⟩
          · rw [k1]
            exact ⟨(false, true), k2, rfl⟩
          · rw [k1]
            exact ⟨(true, true), k2, rfl⟩
end Go.Proofs.YtfmjfofocklgpaaGreatDoor
namespace Go.Proofs.YtfmjfofocklgpaaGreatDoor
set_option linter.unusedVariables false
set_option linter.unusedSimpArgs false
theorem sone2_val {D : Int} (hD1 : -2000 ≤ D) (hD : D < 0) (h4 : D % 4 ≤ 1) : r_spec_coOne D = some (pF D) := by
  simp only [r_spec_coOne]
  rw [dsc_mod, dsc_mod_val (by omega) (by omega)]
  simp only [Option.bind_some, sI_eq]
  rw [zL (n := D % 2 - D) (by omega), tdv (a := D % 2 - D) (b := 4) (c := (D % 2 - D) / 4) (by decide) (by omega), zL (by omega)]
  rfl
theorem iorder_val {D : Int} (hD : D < 0) {f : F3} (h : CFc D f) : ∃ r : Nat, r_impl_orderOf f = some (r : Int) ∧ 1 ≤ r ∧ r ≤ 1600 ∧ gP (gC D hD f) r = g1 D hD ∧ ∀ j, 1 ≤ j → j < r → gP (gC D hD f) j ≠ g1 D hD := by
  have hF := FUge
  have hD1 := h.2.2.2.1
  have hcf := h.2.2.1
  obtain ⟨g, j1, j2, j3, j4, j5⟩ := redG hD hcf
  obtain ⟨M, m1, m2, m3⟩ := order_ex hD1 hD hcf
  obtain ⟨r, r1, r2, r3, r4, r5⟩ := order_run hD1 hD hcf m2 m3 FU 1 g (by omega) (by omega) m1 j4 (by rw [j5, gP_oneth (gF_of hcf)])
  have r1' : r_impl_orderOf_L7 f FU 1 g.1 g.2.1 g.2.2 = some (r : Int) := r1
  exact ⟨r, by simp only [r_impl_orderOf, h.1, Option.bind_some, Bool.not_true, cond_false, j1, r1'], r2, by omega, r4, r5⟩
theorem spow_run {D : Int} (hD1 : -2000 ≤ D) (hD : D < 0) : ∀ (n k : Nat) (p f : F3), k < n → k ≤ 1000000 → CF D p → PrRc D p → CF D f → ∃ h, r_spec_coPower_L17 n (k : Int) p.1 p.2.1 p.2.2 f.1 f.2.1 f.2.2 = some h ∧ PrRc D h ∧ gC D hD h = gM (gC D hD p) (gP (gC D hD f) k)
  | 0, k, p, f, hk, _, _, _, _ => by omega
  | n + 1, k, p, f, hk, hM, hp, hpp, hf => by
    rw [r_spec_coPower_L17, ltI_eq]
    have h1 := gF_one hD (cf_4 hf) hD1
    by_cases h0 : k = 0
    · subst h0
      rw [decide_eq_false (by omega), cond_false]
      exact ⟨p, rfl, hpp, (gM_one (gF_of hp)).symm⟩
    · rw [decide_eq_true (show (0 : Int) < (k : Int) by omega), cond_true]
      have et : Int.tmod (k : Int) 2 = ((k % 2 : Nat) : Int) := rfl
      have ed : Int.tdiv (k : Int) 2 = ((k / 2 : Nat) : Int) := rfl
      obtain ⟨ff, f1, f2, f3, f4, f5⟩ := compG hD1 hD hf hf
      have hsplit := gP_sq (x := gC D hD f) h1 (k / 2)
      by_cases ho : k % 2 = 1
      · obtain ⟨j, j1, j2, j3, j4, j5⟩ := compG hD1 hD hp hf
        have e1 : eqI (Int.tmod (k : Int) 2) 1 = true := by rw [et, ho]; rfl
        have e2 : r_spec_coMul (p.1, p.2.1, p.2.2) (f.1, f.2.1, f.2.2) = some j := j2
        have e3 : r_spec_coMul (f.1, f.2.1, f.2.2) (f.1, f.2.1, f.2.2) = some ff := f2
        rw [e1, cond_true, e2]
        simp only [Option.bind_some, e3, sI_eq, ed]
        rw [zL (n := ((k / 2 : Nat) : Int)) (by omega)]
        obtain ⟨h, i1, i2, i3⟩ := spow_run hD1 hD n (k / 2) j ff (by omega) (by omega) j4 j3 f4
        refine ⟨h, i1, i2, ?_⟩
        rw [i3, j5, f5, hsplit, gM_assoc, gM_comm (gC D hD f) (gP _ _)]
        have : k = 2 * (k / 2) + 1 := by omega
        exact congrArg (fun z => gM (gC D hD p) (gP (gC D hD f) z)) this.symm
      · have e1 : eqI (Int.tmod (k : Int) 2) 1 = false := by rw [et, show k % 2 = 0 by omega]; rfl
        have e3 : r_spec_coMul (f.1, f.2.1, f.2.2) (f.1, f.2.1, f.2.2) = some ff := f2
        rw [e1, cond_false]
        simp only [Option.bind_some, e3, sI_eq, ed]
        rw [zL (n := ((k / 2 : Nat) : Int)) (by omega)]
        obtain ⟨h, i1, i2, i3⟩ := spow_run hD1 hD n (k / 2) p ff (by omega) (by omega) hp hpp f4
        refine ⟨h, i1, i2, ?_⟩
        rw [i3, f5, hsplit]
        have : k = 2 * (k / 2) := by omega
        exact congrArg (fun z => gM (gC D hD p) (gP (gC D hD f) z)) this.symm
theorem spow_val {D : Int} (hD : D < 0) {f : F3} (h : CFc D f) (k : Nat) (hk : k ≤ 1000000) : ∃ g, r_spec_coPower f (k : Int) = some g ∧ PrRc D g ∧ gC D hD g = gP (gC D hD f) k := by
  have hF := FUge
  have hD1 := h.2.2.2.1
  have hcf := h.2.2.1
  have h4 := cf_4 hcf
  have hp := pf_prc hD1 hD h4
  obtain ⟨ru, j1, j2, j3, j4, j5⟩ := redG hD hcf
  obtain ⟨g, i1, i2, i3⟩ := spow_run hD1 hD FU k (pF D) ru (Nat.lt_of_le_of_lt hk (by decide)) hk (cf_of_prc hD1 hD hp) hp j4
  refine ⟨g, ?_, i2, ?_⟩
  · unfold r_spec_coPower
    rw [j2, Option.bind_some, ltI_eq, decide_eq_false (by omega), cond_false]
    have e : r_spec_foDisc (ru.1, ru.2.1, ru.2.2) = some D := by rw [disc_eq]; exact cf_disc_val hD1 j4
    simp only [Option.bind_some, e, sone2_val hD1 hD h4, i1]
  · rw [i3, j5]
    exact gP_F (gF_one hD h4 hD1) k
def IsP (q : Nat) : Prop := 2 ≤ q ∧ ∀ a, a ∣ q → a = 1 ∨ a = q
/-- What the reduction by a divisor leaves. -/
theorem fact_in {d : Nat} (hd : 2 ≤ d) (hd2 : d ≤ 1000000) : ∀ (fu v : Nat) (l : List Int), 1 ≤ v → v ≤ 1000000 → v < fu → l.length + v ≤ 2000000 → ∃ (v' : Nat) (m : List Int), r_spec_nuFactors_L10 (d : Int) fu (v : Int) l = some ((v' : Int), l ++ m) ∧ 1 ≤ v' ∧ v' ≤ v ∧ ¬ d ∣ v' ∧ v' ∣ v ∧ (∀ x ∈ m, x = (d : Int) ∧ d ∣ v) ∧ (∀ q, IsP q → q ∣ v → q ∣ v' ∨ ((d : Int) ∈ m ∧ q ∣ d)) ∧ (m = [] → v' = v) ∧ m.length + v' ≤ v
  | 0, v, l, h1, h2, h3, h4 => by omega
  | fu + 1, v, l, h1, h2, h3, h4 => by
    rw [r_spec_nuFactors_L10, nz_ne (show (d : Int) ≠ 0 by omega), Option.bind_some]
    have et : Int.tmod (v : Int) (d : Int) = ((v % d : Nat) : Int) := rfl
    have ed : Int.tdiv (v : Int) (d : Int) = ((v / d : Nat) : Int) := rfl
    rw [et, ed, eqI_eq]
    by_cases h : v % d = 0
    · have hdv : d ∣ v := Nat.dvd_of_mod_eq_zero h
      have hm : d * (v / d) = v := Nat.mul_div_cancel' hdv
      have h5 : 1 ≤ v / d := Nat.div_pos (Nat.le_of_dvd (by omega) hdv) (by omega)
      have h6 : 2 * (v / d) ≤ d * (v / d) := Nat.mul_le_mul_right _ hd
      have hb : (((v % d : Nat) : Int) == 0) = true := by rw [h]; rfl
      rw [hb, cond_true, roomOk (by simp; omega), Option.bind_some]
      simp only [Option.bind_some, sI_eq]
      rw [zL (n := ((v / d : Nat) : Int)) (by omega)]
      obtain ⟨v', m, a1, a2, a3, a4, a5, a6, a7, a8, a9⟩ := fact_in hd hd2 fu (v / d) (l ++ [(d : Int)]) h5 (by omega) (by omega) (by simp; omega)
      refine ⟨v', (d : Int) :: m, by rw [a1, List.append_assoc]; rfl, a2, by omega, a4, Nat.dvd_trans a5 ⟨d, by rw [Nat.mul_comm]; exact hm.symm⟩, ?_, ?_, by simp, by simp; omega⟩
      · intro x hx
        rcases List.mem_cons.1 hx with rfl | hx
        · exact ⟨rfl, hdv⟩
        · exact ⟨(a6 x hx).1, hdv⟩
      · intro q hq hqv
        by_cases hqd : q ∣ d
        · exact .inr ⟨List.mem_cons_self .., hqd⟩
        · have hc : Nat.Coprime q d := by
            rcases hq.2 _ (Nat.gcd_dvd_left q d) with h7 | h7
            · exact h7
            · exact absurd (h7 ▸ Nat.gcd_dvd_right q d) hqd
          have : q ∣ v / d := hc.dvd_of_dvd_mul_left (by rw [hm]; exact hqv)
          rcases a7 q hq this with h8 | ⟨h8, h9⟩
          · exact .inl h8
          · exact absurd h9 hqd
    · have hb : (((v % d : Nat) : Int) == 0) = false := by rw [beq_eq_false_iff_ne]; omega
      rw [hb, cond_false]
      exact ⟨v, [], by simp, h1, Nat.le_refl _, fun hh => h (Nat.mod_eq_zero_of_dvd hh), Nat.dvd_refl _, by simp, fun q _ hq => .inl hq, fun _ => rfl, by simp⟩
/-- All divisors in their order. -/
theorem fact_run (N : Nat) (hN : N ≤ 1000000) (hN1 : 1 ≤ N) : ∀ (fu v d : Nat) (l : List Int), 1 ≤ v → v ∣ N → 2 ≤ d → d ≤ 1001 → 1002 - d < fu → l.length + v ≤ 1000000 → (∀ a, 2 ≤ a → a < d → ¬ a ∣ v) → (∀ x ∈ l, ∃ a : Nat, x = (a : Int) ∧ 2 ≤ a ∧ a ∣ N) → (∀ q, IsP q → q ∣ N → q ∣ v ∨ (q : Int) ∈ l) →
    ∃ (v' : Nat) (l' : List Int), r_spec_nuFactors_L5 fu (v : Int) (d : Int) l = some ((v' : Int), l') ∧ 1 ≤ v' ∧ v' ∣ N ∧ (v' = 1 ∨ IsP v') ∧ (∀ x ∈ l', ∃ a : Nat, x = (a : Int) ∧ 2 ≤ a ∧ a ∣ N) ∧ (∀ q, IsP q → q ∣ N → q ∣ v' ∨ (q : Int) ∈ l') ∧ l'.length + v' ≤ 1000000
  | 0, v, d, l, h1, h2, h3, h4, h5, h6, h7, h8, h9 => by omega
  | fu + 1, v, d, l, h1, h2, h3, h4, h5, h6, h7, h8, h9 => by
    have hv : v ≤ N := Nat.le_of_dvd (by omega) h2
    have hF : 1000001 < FU := by decide
    have hdd : d * d ≤ 1001 * 1001 := Nat.mul_le_mul h4 h4
    have edd : (d : Int) * (d : Int) = ((d * d : Nat) : Int) := by push_cast; rfl
    rw [r_spec_nuFactors_L5, leI_eq, zL (n := (d : Int) * (d : Int)) (by omega)]
    by_cases h : d * d ≤ v
    · have hb : decide ((d : Int) * (d : Int) ≤ (v : Int)) = true := by
        rw [decide_eq_true_iff]
        omega
      have hd3 : d ≤ 1000 := by
        rcases Nat.lt_or_ge 1000 d with h10 | h10
        · have : 1001 * 1001 ≤ d * d := Nat.mul_le_mul h10 h10
          omega
        · exact h10
      obtain ⟨v', m, a1, a2, a3, a4, a5, a6, a7, a8, a9⟩ := fact_in h3 (by omega) FU v l h1 (by omega) (by omega) (by omega)
      rw [hb, cond_true, a1, Option.bind_some]
      simp only [sI_eq]
      rw [wsucc (by omega)]
      refine fact_run N hN hN1 fu v' (d + 1) (l ++ m) a2 (Nat.dvd_trans a5 h2) (by omega) (by omega) (by omega) (by simp; omega) ?_ ?_ ?_
      · intro a ha1 ha2 ha3
        by_cases e : a = d
        · subst e; exact a4 ha3
        · exact h7 a ha1 (by omega) (Nat.dvd_trans ha3 a5)
      · intro x hx
        rcases List.mem_append.1 hx with hx | hx
        · exact h8 x hx
        · obtain ⟨e, e2⟩ := a6 x hx
          exact ⟨d, e, h3, Nat.dvd_trans e2 h2⟩
      · intro q hq hqN
        rcases h9 q hq hqN with h10 | h10
        · rcases a7 q hq h10 with h11 | ⟨h11, h12⟩
          · exact .inl h11
          · have hdP : d ∣ v := (a6 _ h11).2
            have : q = d := by
              rcases Nat.lt_or_ge q d with h13 | h13
              · exact absurd h10 (h7 q hq.1 h13)
              · have := Nat.le_of_dvd (by omega) h12
                omega
            rw [this]
            exact .inr (List.mem_append_right _ h11)
        · exact .inr (List.mem_append_left _ h10)
    · have hb : decide ((d : Int) * (d : Int) ≤ (v : Int)) = false := by
        rw [decide_eq_false_iff_not]
        omega
      rw [hb, cond_false]
      refine ⟨v, l, rfl, h1, h2, ?_, h8, h9, h6⟩
      by_cases h10 : v = 1
      · exact .inl h10
      · refine .inr ⟨by omega, fun a ha => ?_⟩
        by_cases h11 : a = 1
        · exact .inl h11
        · have ha0 : 0 < a := Nat.pos_of_dvd_of_pos ha (by omega)
          have h12 : d ≤ a := by
            rcases Nat.lt_or_ge a d with h13 | h13
            · exact absurd ha (h7 a (by omega) h13)
            · exact h13
          obtain ⟨b, hb2⟩ := ha
          by_cases h13 : b = 1
          · rw [h13, Nat.mul_one] at hb2; exact .inr hb2.symm
          · have hb0 : 0 < b := by
              rcases Nat.eq_zero_or_pos b with h14 | h14
              · rw [h14, Nat.mul_zero] at hb2; omega
              · exact h14
            have h14 : d ≤ b := by
              rcases Nat.lt_or_ge b d with h15 | h15
              · exact absurd ⟨a, by rw [Nat.mul_comm]; exact hb2⟩ (h7 b (by omega) h15)
              · exact h15
            have := Nat.mul_le_mul h12 h14
            omega
theorem fact_val {N : Nat} (h1 : 1 ≤ N) (h2 : N ≤ 1000000) : ∃ l, r_spec_nuFactors (N : Int) = some l ∧ (∀ x ∈ l, ∃ a : Nat, x = (a : Int) ∧ 2 ≤ a ∧ a ∣ N) ∧ (∀ q, IsP q → q ∣ N → (q : Int) ∈ l) ∧ l.length ≤ 1000000 := by
  have hF := FUge
  obtain ⟨v', l', a1, a2, a3, a4, a5, a6, a7⟩ := fact_run N h2 h1 FU N 2 [] h1 (Nat.dvd_refl _) (by omega) (by omega) (by omega) (by simp; omega) (fun a _ _ => by omega) (by simp) (fun q _ h => .inl h)
  have a1' : r_spec_nuFactors_L5 FU (N : Int) 2 [] = some ((v' : Int), l') := a1
  unfold r_spec_nuFactors
  rw [a1', Option.bind_some, ltI_eq]
  by_cases h : v' = 1
  · rw [decide_eq_false (by rw [h]; show ¬ (1 : Int) < ((1 : Nat) : Int); omega), cond_false]
    refine ⟨l', rfl, a5, fun q hq hqN => ?_, by omega⟩
    rcases a6 q hq hqN with h3 | h3
    · have := Nat.le_of_dvd (by omega) h3
      have := hq.1
      omega
    · exact h3
  · have hp := a4.resolve_left h
    rw [decide_eq_true (show (1 : Int) < (v' : Int) by omega), cond_true, roomOk (by simp; omega), Option.bind_some]
    refine ⟨l' ++ [(v' : Int)], rfl, ?_, fun q hq hqN => ?_, by simp; omega⟩
    · intro x hx
      rcases List.mem_append.1 hx with hx | hx
      · exact a5 x hx
      · rw [List.mem_singleton] at hx; exact ⟨v', hx, hp.1, a3⟩
    · rcases a6 q hq hqN with h3 | h3
      · rcases hp.2 q h3 with h4 | h4
        · have := hq.1; omega
        · exact List.mem_append_right _ (by rw [h4]; exact List.mem_singleton.2 rfl)
      · exact List.mem_append_left _ h3
theorem put_at (l : List Int) (v : Int) (hl : l.length ≤ 1000000) : ∀ (fu k : Nat), k ≤ l.length → l.length - k < fu → ∃ j : Nat, r_spec_l1Put_L4 l v fu (k : Int) = some (j : Int) ∧ j ≤ l.length
  | 0, k, h1, h2 => by omega
  | fu + 1, k, h1, h2 => by
    rw [r_spec_l1Put_L4, ltI_eq]
    by_cases h : k < l.length
    · rw [decide_eq_true (show (k : Int) < (l.length : Int) by omega), cond_true, getNat h]
      simp only [Option.bind_some, sI_eq]
      cases ltI l[k] v with
      | false => exact ⟨k, rfl, h1⟩
      | true =>
        rw [cond_true, wsucc (by omega)]
        exact put_at l v hl fu (k + 1) (by omega) (by omega)
    · rw [decide_eq_false (show ¬ (k : Int) < (l.length : Int) by omega), cond_false]
      exact ⟨k, rfl, h1⟩
theorem put_val (l : List Int) (v : Int) (hl : l.length ≤ 1000000) : ∃ l', r_spec_l1Put l v = some l' ∧ (∀ x, x ∈ l' ↔ x = v ∨ x ∈ l) ∧ l'.length ≤ l.length + 1 := by
  have hF : 1000001 < FU := by decide
  obtain ⟨j, j1, j2⟩ := put_at l v hl FU 0 (Nat.zero_le _) (by omega)
  have j1' : r_spec_l1Put_L4 l v FU 0 = some (j : Int) := j1
  unfold r_spec_l1Put
  rw [j1', Option.bind_some, ltI_eq]
  have hins : ∃ l', ((slc l.length 0 (j : Int)).bind fun u15 => (room ((([] : List Int)).length + (subl l 0 (j : Int)).length)).bind fun u16 => (room (((([] : List Int)) ++ (subl l 0 (j : Int))).length + ([v]).length)).bind fun u17 => (slc l.length (j : Int) ((l.length : Int))).bind fun u18 => (room ((((([] : List Int)) ++ (subl l 0 (j : Int))) ++ ([v])).length + (subl l (j : Int) ((l.length : Int))).length)).bind fun u19 => (some ((((([] : List Int)) ++ (subl l 0 (j : Int))) ++ ([v])) ++ (subl l (j : Int) ((l.length : Int))))).bind fun l20 => some l20) = some l' ∧ (∀ x, x ∈ l' ↔ x = v ∨ x ∈ l) ∧ l'.length ≤ l.length + 1 := by
    have e1 : subl l 0 (j : Int) = l.take j := by simp [subl]
    have e2 : subl l (j : Int) (l.length : Int) = l.drop j := by
      unfold subl
      rw [Int.toNat_natCast, Int.toNat_natCast, List.take_of_length_le (by simp)]
    have s1 : slc l.length 0 (j : Int) = some () := by
      unfold slc
      rw [leI_eq, leI_eq, leI_eq, decide_eq_true (by omega), decide_eq_true (by omega), decide_eq_true (by omega)]; rfl
    have s2 : slc l.length (j : Int) (l.length : Int) = some () := by
      unfold slc
      rw [leI_eq, leI_eq, leI_eq, decide_eq_true (by omega), decide_eq_true (by omega), decide_eq_true (by omega)]; rfl
    have hlt : (l.take j).length = j := by rw [List.length_take]; omega
    have hld : (l.drop j).length = l.length - j := List.length_drop
    rw [s1, s2, e1, e2]
    rw [Option.bind_some, roomOk (by simp; omega), Option.bind_some, roomOk (by simp; omega), Option.bind_some, Option.bind_some, roomOk (by simp; omega), Option.bind_some, Option.bind_some]
    refine ⟨_, rfl, fun x => ?_, by simp; omega⟩
    have hm : x ∈ l ↔ x ∈ l.take j ∨ x ∈ l.drop j := by rw [← List.mem_append, List.take_append_drop]
    simp only [List.nil_append, List.mem_append, List.mem_singleton, hm]
    constructor
    · rintro ((h | h) | h)
      · exact .inr (.inl h)
      · exact .inl h
      · exact .inr (.inr h)
    · rintro (h | h | h)
      · exact .inl (.inr h)
      · exact .inl (.inl h)
      · exact .inr h
  by_cases h : j < l.length
  · rw [decide_eq_true (show (j : Int) < (l.length : Int) by omega), cond_true, getNat h]
    simp only [Option.bind_some]
    cases he : eqI l[j] v with
    | true =>
      rw [cond_true]
      rw [eqI_eq, beq_iff_eq] at he
      refine ⟨l, rfl, fun x => ⟨.inr, ?_⟩, by omega⟩
      rintro (h2 | h2)
      · rw [h2, ← he]; exact List.getElem_mem h
      · exact h2
    | false =>
      rw [cond_false]
      exact hins
  · rw [decide_eq_false (show ¬ (j : Int) < (l.length : Int) by omega), cond_false]
    exact hins
theorem primes_run (y : List Int) (hy : y.length ≤ 1000000) : ∀ (fu k : Nat) (out : List Int), k ≤ y.length → y.length - k < fu → out.length ≤ k → ∃ l, r_spec_nuPrimes_L5 y fu out (k : Int) = some l ∧ (∀ x, x ∈ l ↔ x ∈ out ∨ x ∈ y.drop k) ∧ l.length ≤ y.length
  | 0, k, out, h1, h2, h3 => by omega
  | fu + 1, k, out, h1, h2, h3 => by
    rw [r_spec_nuPrimes_L5, ltI_eq]
    by_cases h : k < y.length
    · rw [decide_eq_true (show (k : Int) < (y.length : Int) by omega), cond_true, getNat h]
      obtain ⟨o, o1, o2, o3⟩ := put_val out y[k] (by omega)
      simp only [Option.bind_some, sI_eq, o1]
      rw [wsucc (by omega)]
      obtain ⟨l, l1, l2, l3⟩ := primes_run y hy fu (k + 1) o (by omega) (by omega) (by omega)
      refine ⟨l, l1, fun x => ?_, l3⟩
      rw [l2, o2, List.drop_eq_getElem_cons h, List.mem_cons]
      constructor
      · rintro ((h4 | h4) | h4)
        · exact .inr (.inl h4)
        · exact .inl h4
        · exact .inr (.inr h4)
      · rintro (h4 | h4 | h4)
        · exact .inl (.inr h4)
        · exact .inl (.inl h4)
        · exact .inr h4
    · rw [decide_eq_false (show ¬ (k : Int) < (y.length : Int) by omega), cond_false, List.drop_eq_nil_of_le (by omega)]
      exact ⟨out, rfl, fun x => by simp, by omega⟩
theorem primes_val {N : Nat} (h1 : 1 ≤ N) (h2 : N ≤ 1000000) : ∃ l, r_spec_nuPrimes (N : Int) = some l ∧ (∀ x ∈ l, ∃ a : Nat, x = (a : Int) ∧ 2 ≤ a ∧ a ∣ N) ∧ (∀ q, IsP q → q ∣ N → (q : Int) ∈ l) ∧ l.length ≤ 1000000 := by
  have hF : 1000001 < FU := by decide
  obtain ⟨y, y1, y2, y3, y4⟩ := fact_val h1 h2
  obtain ⟨l, l1, l2, l3⟩ := primes_run y y4 FU 0 [] (Nat.zero_le _) (by omega) (by simp)
  have l1' : r_spec_nuPrimes_L5 y FU [] 0 = some l := l1
  have hm : ∀ x, x ∈ l ↔ x ∈ y := fun x => by rw [l2]; simp
  unfold r_spec_nuPrimes
  rw [y1, Option.bind_some, l1']
  exact ⟨l, rfl, fun x hx => y2 x ((hm x).1 hx), fun q hq hqN => (hm _).2 (y3 q hq hqN), by omega⟩
theorem prime_ex : ∀ (k m : Nat), m ≤ k → 2 ≤ m → ∃ q, IsP q ∧ q ∣ m
  | 0, m, h1, h2 => by omega
  | k + 1, m, h1, h2 => by
    by_cases h : ∀ a, a ∣ m → a = 1 ∨ a = m
    · exact ⟨m, ⟨h2, h⟩, Nat.dvd_refl _⟩
    · have ⟨a, ha⟩ : ∃ a, ¬ (a ∣ m → a = 1 ∨ a = m) := Classical.not_forall.1 h
      have ha1 : a ∣ m := Classical.byContradiction fun hh => ha fun h3 => absurd h3 hh
      have ha2 : a ≠ 1 := fun hh => ha fun _ => .inl hh
      have ha3 : a ≠ m := fun hh => ha fun _ => .inr hh
      have ha4 : a ≤ m := Nat.le_of_dvd (by omega) ha1
      have ha5 : 0 < a := Nat.pos_of_dvd_of_pos ha1 (by omega)
      obtain ⟨q, q1, q2⟩ := prime_ex k a (by omega) (by omega)
      exact ⟨q, q1, Nat.dvd_trans q2 ha1⟩
theorem gP_mul {D : Int} {hD : D < 0} {x : GG D hD} (h1 : gF (g1 D hD)) {r : Nat} (h : gP x r = g1 D hD) : ∀ k, gP x (r * k) = g1 D hD
  | 0 => rfl
  | k + 1 => by rw [Nat.mul_succ, gP_add h1, gP_mul h1 h k, h]; exact h1
theorem gP_rem {D : Int} {hD : D < 0} {x : GG D hD} (h1 : gF (g1 D hD)) {r n : Nat} (h : gP x r = g1 D hD) (hn : gP x n = g1 D hD) : gP x (n % r) = g1 D hD := by
  have e : gP x (r * (n / r) + n % r) = gM (gP x (r * (n / r))) (gP x (n % r)) := gP_add h1 _ _
  rw [Nat.div_add_mod, hn, gP_mul h1 h] at e
  rw [e]
  exact (gP_F h1 _).symm
theorem eq3 {f g : F3} {b : Bool} (h : ((f.1 == g.1) && ((f.2.1 == g.2.1) && (f.2.2 == g.2.2))) = b) : b = true ↔ f = g := by
  rw [← h, Bool.and_eq_true, Bool.and_eq_true, beq_iff_eq, beq_iff_eq, beq_iff_eq]
  constructor
  · rintro ⟨a, b, c⟩; exact Prod.ext a (Prod.ext b c)
  · rintro rfl; exact ⟨rfl, rfl, rfl⟩
theorem pow_is {D : Int} (hD : D < 0) {f : F3} (h : CFc D f) (k : Nat) (hk : k ≤ 1000000) : ∃ g b, r_spec_coPower f (k : Int) = some g ∧ ((g.1 == (pF D).1) && ((g.2.1 == (pF D).2.1) && (g.2.2 == (pF D).2.2))) = b ∧ (b = true ↔ gP (gC D hD f) k = g1 D hD) := by
  have hp := pf_prc h.2.2.2.1 hD (cf_4 h.2.2.1)
  obtain ⟨g, g1', g2, g3⟩ := spow_val hD h k hk
  refine ⟨g, _, g1', rfl, (eq3 rfl).trans ?_⟩
  rw [← g3]
  constructor
  · rintro rfl; rfl
  · intro e; exact prc_eq g2 hp e
theorem ord_run {D : Int} (hD : D < 0) {f : F3} (h : CFc D f) {N : Nat} (hN : N ≤ 1000000) (L : List Int) (hl : L.length ≤ 1000000) (hL : ∀ x ∈ L, ∃ a : Nat, x = (a : Int) ∧ 2 ≤ a ∧ a ∣ N) : ∀ (fu k : Nat), k ≤ L.length → L.length - k < fu →
    (r_spec_prOrder_L13 f (N : Int) L (pF D) fu (k : Int) = some (.inr false) ∧ ∃ a : Nat, (a : Int) ∈ L ∧ 2 ≤ a ∧ a ∣ N ∧ gP (gC D hD f) (N / a) = g1 D hD) ∨
    (r_spec_prOrder_L13 f (N : Int) L (pF D) fu (k : Int) = some (.inl ()) ∧ ∀ a : Nat, (a : Int) ∈ L.drop k → gP (gC D hD f) (N / a) ≠ g1 D hD)
  | 0, k, h1, h2 => by omega
  | fu + 1, k, h1, h2 => by
    rw [r_spec_prOrder_L13, ltI_eq]
    by_cases hk : k < L.length
    · rw [decide_eq_true (show (k : Int) < (L.length : Int) by omega), cond_true, getNat hk]
      obtain ⟨a, a1, a2, a3⟩ := hL L[k] (List.getElem_mem hk)
      have hmem : (a : Int) ∈ L := a1 ▸ List.getElem_mem hk
      have hd : L.drop k = (a : Int) :: L.drop (k + 1) := by rw [List.drop_eq_getElem_cons hk, a1]
      rw [a1]
      have ed : Int.tdiv (N : Int) (a : Int) = ((N / a : Nat) : Int) := rfl
      have hle : N / a ≤ N := Nat.div_le_self _ _
      obtain ⟨g, b, p1, p2, p3⟩ := pow_is hD h (N / a) (by omega)
      simp only [Option.bind_some, sI_eq, nz_ne (show (a : Int) ≠ 0 by omega), ed]
      have hw : w64 ((N / a : Nat) : Int) = ((N / a : Nat) : Int) := by
        generalize N / a = c at hle
        exact zL (by omega)
      rw [hw, p1]
      simp only [Option.bind_some]
      rw [p2]
      cases b with
      | true =>
        rw [cond_true]
        exact .inl ⟨rfl, a, hmem, a2, a3, p3.1 rfl⟩
      | false =>
        rw [cond_false, wsucc (by omega)]
        rcases ord_run hD h hN L hl hL fu (k + 1) (by omega) (by omega) with ⟨h3, h4⟩ | ⟨h3, h4⟩
        · exact .inl ⟨h3, h4⟩
        · refine .inr ⟨h3, fun c hc => ?_⟩
          rw [hd] at hc
          rcases List.mem_cons.1 hc with h5 | h5
          · have : c = a := by omega
            rw [this]
            intro h6
            exact absurd (p3.2 h6) (by decide)
          · exact h4 c h5
    · rw [decide_eq_false (show ¬ (k : Int) < (L.length : Int) by omega), cond_false, List.drop_eq_nil_of_le (by omega)]
      exact .inr ⟨rfl, by simp⟩
theorem order_claim (f : F3) {n : Int} (hn : NB n) : ∃ b, r_impl_isOrderOf f n = some b ∧ r_spec_prOrder f n = some b := by
  have hF : 1000001 < FU := by decide
  unfold r_impl_isOrderOf r_spec_prOrder
  rw [class_val]
  obtain ⟨cb, hcb⟩ := class_some f
  rw [hcb, Option.bind_some, Option.bind_some]
  cases cb with
  | false => exact ⟨false, rfl, rfl⟩
  | true =>
    by_cases h1 : n < 1
    · have e1 : leI 1 n = false := by rw [leI_eq, decide_eq_false (by omega)]
      have e2 : ltI n 1 = true := by rw [ltI_eq, decide_eq_true h1]
      rw [e1, e2]
      exact ⟨false, rfl, rfl⟩
    · have e1 : leI 1 n = true := by rw [leI_eq, decide_eq_true (by omega)]
      have e2 : ltI n 1 = false := by rw [ltI_eq, decide_eq_false h1]
      obtain ⟨N, rfl⟩ : ∃ N : Nat, n = (N : Int) := ⟨n.toNat, by omega⟩
      have hN : N ≤ 1000000 := by have := hn.2; omega
      have hN1 : 1 ≤ N := by omega
      have hf := cfc_of hcb
      generalize hDD : f.2.1 * f.2.1 - 4 * f.1 * f.2.2 = D at hf
      have hD := hf.2.2.2.2
      have h4 := cf_4 hf.2.2.1
      have hone := gF_one hD h4 hf.2.2.2.1
      obtain ⟨r, r1, r2, r3, r4, r5⟩ := iorder_val hD hf
      rw [e1, e2, r1]
      simp only [cond_true, Option.bind_some, Bool.not_true, cond_false]
      rw [disc_eq, hf.2.1, Option.bind_some, sone2_val hf.2.2.2.1 hD h4, Option.bind_some]
      obtain ⟨g, b, p1, p2, p3⟩ := pow_is hD hf N hN
      rw [p1]
      simp only [Option.bind_some]
      rw [p2]
      cases b with
      | false =>
        refine ⟨false, ?_, rfl⟩
        rw [eqI_eq]
        congr 1
        rw [beq_eq_false_iff_ne]
        intro h6
        have : r = N := by omega
        rw [this] at r4
        exact absurd (p3.2 r4) (by decide)
      | true =>
        have hNe := p3.1 rfl
        obtain ⟨L, l1, l2, l3, l4⟩ := primes_val hN1 hN
        rw [l1]
        simp only [Bool.not_true, cond_false, Option.bind_some]
        have hrun := ord_run hD hf hN L l4 l2 FU 0 (Nat.zero_le _) (by omega)
        have e0 : (((0 : Nat) : Int)) = 0 := rfl
        rw [e0, List.drop_zero] at hrun
        by_cases hr : r = N
        · refine ⟨true, by rw [hr, eqI_true], ?_⟩
          rcases hrun with ⟨_, a, _, a2, a3, a4⟩ | ⟨h5, _⟩
          · have hpos : 1 ≤ N / a := Nat.div_pos (Nat.le_of_dvd (by omega) a3) (by omega)
            have hlt : N / a < N := Nat.div_lt_self (by omega) (by omega)
            exact absurd a4 (r5 (N / a) hpos (by omega))
          · rw [h5]; rfl
        · refine ⟨false, by rw [eqI_false (by omega)], ?_⟩
          have hrem := gP_rem hone r4 hNe
          have hrem0 : N % r = 0 := by
            rcases Nat.eq_zero_or_pos (N % r) with h6 | h6
            · exact h6
            · exact absurd hrem (r5 _ h6 (Nat.mod_lt _ (by omega)))
          have hm : r * (N / r) = N := Nat.mul_div_cancel' (Nat.dvd_of_mod_eq_zero hrem0)
          have hm2 : 2 ≤ N / r := by
            rcases Nat.lt_or_ge (N / r) 2 with h6 | h6
            · have h8 : N / r = 0 ∨ N / r = 1 := by
                generalize N / r = c at h6
                omega
              rcases h8 with h7 | h7
              · rw [h7] at hm; omega
              · rw [h7] at hm; omega
            · exact h6
          obtain ⟨q, q1, q2⟩ := prime_ex (N / r) (N / r) (Nat.le_refl _) hm2
          have hqN : q ∣ N := Nat.dvd_trans q2 ⟨r, by rw [Nat.mul_comm]; exact hm.symm⟩
          have hq0 : 0 < q := by have := q1.1; omega
          rcases hrun with ⟨h5, _⟩ | ⟨_, h5⟩
          · rw [h5]; rfl
          · refine absurd ?_ (h5 q (l3 q q1 hqN))
            obtain ⟨c, hc⟩ := q2
            have : N / q = r * c := by
              rw [← hm, hc, show r * (q * c) = q * (r * c) by rw [← Nat.mul_assoc, ← Nat.mul_assoc, Nat.mul_comm r q], Nat.mul_div_cancel_left _ hq0]
            rw [this]
            exact gP_mul hone r4 c
end Go.Proofs.YtfmjfofocklgpaaGreatDoor
