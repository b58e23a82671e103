/-
  Strings: places, parts, bytes made into a string; contracts of Go's library as calls said by trees.
  Conditions: none.
-/
import Derived.Test.YtnheekadeflecaaGreatShY
import Derived.Test.YtnheekadeflecaaGreatShRs
import Derived.Laws.BytesString
import Derived.Laws.Strings2
import Derived.Laws.Slices
namespace Go.Proofs.YtnheekadeflecaaGreat
open Go.RowKit
set_option linter.unusedSimpArgs false
set_option linter.unusedVariables false

section
variable {P : Program}
theorem catR_some {a b : ByteArray} {u : Unit} (h : catR a b = some u) : a.size + b.size ≤ 9223372036854775807 := by
  unfold catR at h
  split at h
  · assumption
  · cases h
theorem getB_some {b : ByteArray} {i v : Int} (h : getB b i = some v) : ∃ h : 0 ≤ i ∧ i < b.size, v = (b[i.toNat]'(by omega)).toNat := by
  unfold getB at h
  split at h
  · rename_i hi
    injection h with h
    refine ⟨hi, ?_⟩
    rw [← h]
    have h2 : i.toNat < b.data.toList.length := by
      have : b.data.toList.length = b.size := by simp
      omega
    rw [List.getElem?_eq_getElem h2]
    rfl
  · cases h
theorem Y0_idxs {o : Oper} {s : St} {x i : Operand} {t : TypeId} {b : ByteArray} {k : IntKind} {n v : Int} (hu : P.underlying t = some .string) (ho : o.op = .index t x i) (hx : s.ev x = .c (.v (.string b))) (hi : s.ev i = .c (.v (.int k n))) (hg : getB b n = some v) : Y0 P o s (.c (.v (.int .u8 v))) :=
  Y0_of_run fun ok σ a w hC => by
    obtain ⟨h1, h2⟩ := getB_some hg
    refine ⟨.int .u8 v, ?_, rd_int _ _ _ _⟩
    unfold execOp
    rw [ho]
    simp only [hC.exact hx, hC.exact hi, Sem.run_bind, run_index_string w t b k n hu, dif_pos h1, Result.andThen_ok, Sem.run_pure]
    rw [h2]
theorem rd_str (ok : Nat → Prop) (σ : Nat → Loc) (w : World) (b : ByteArray) : Rel ok σ w (.c (.v (.string b))) (.string b) := Rd.v _ rfl
theorem Y0_slices {o : Oper} {s : St} {t : TypeId} {x : Operand} {lo hi : Option Operand} {b : ByteArray} {l h : Int} (hu : P.underlying t = some .string) (ho : o.op = .slice t x lo hi none)
    (hx : s.ev x = .c (.v (.string b))) (hlo : ∀ y, lo = some y → ∃ k, s.ev y = .c (.v (.int k l))) (hlo0 : lo = none → l = 0) (hhi : ∀ y, hi = some y → ∃ k, s.ev y = .c (.v (.int k h))) (hhi0 : hi = none → h = (b.size : Int)) (hb : 0 ≤ l ∧ l ≤ h ∧ h ≤ b.size) : Y0 P o s (.c (.v (.string (b.extract l.toNat h.toNat)))) :=
  Y0_of_run fun ok σ a w hC => by
    obtain ⟨b1, b2, b3⟩ := hb
    refine ⟨.string (b.extract l.toNat h.toNat), ?_, rd_str _ _ _ _⟩
    unfold execOp
    rw [ho]
    have hrun : (Instr.sliceAt t (.string b) (lo.map a.eval) (hi.map a.eval) none).run P w = .ok (.string (b.extract l.toNat h.toNat)) w := by
      rw [run_sliceAt_string w t (.string b) (lo.map a.eval) (hi.map a.eval) none hu]
      cases lo with
      | none =>
        have hl := hlo0 rfl
        subst hl
        cases hi with
        | none =>
          have hh := hhi0 rfl
          subst hh
          simpa using run_slice_string_all w t b hu
        | some y =>
          obtain ⟨k, hk⟩ := hhi y rfl
          simp only [Option.map_none, Option.map_some, hC.exact hk]
          simpa using run_slice_string_h w t b hu k h b2 b3
      | some z =>
        obtain ⟨k1, hk1⟩ := hlo z rfl
        cases hi with
        | none =>
          have hh := hhi0 rfl
          subst hh
          simp only [Option.map_none, Option.map_some, hC.exact hk1]
          simpa using run_slice_string_l w t b hu k1 l b1 b2
        | some y =>
          obtain ⟨k, hk⟩ := hhi y rfl
          simp only [Option.map_some, hC.exact hk, hC.exact hk1]
          exact run_slice_string w t b k1 k l h hu b1 b2 b3
    simp only [hC.exact hx, Option.map_none, Sem.run_bind, hrun, Result.andThen_ok, Sem.run_pure]
/-- A slice of bytes made into a string. -/
theorem Y0_b2s {o : Oper} {s : St} {src dst e : TypeId} {x : Operand} {c : Int → List Tr} (hc : ∀ v, c v = [.v (.int .u8 v)]) (xs : List Int) (hs : P.underlying src = some (.slice e)) (he : P.underlying e = some (.int .u8)) (hd : P.underlying dst = some .string) (ho : o.op = .convert src dst x)
    (hx : sliceEls s (s.ev x) = some (xs.map c)) : Y0 P o s (.c (.v (.string (bytesI xs)))) :=
  Y0_of_run fun ok σ a w hC => by
    obtain ⟨A, cap, h1, h2, h3⟩ := slice_read hC (hC.ev x) hx
    refine ⟨.string (bytesI xs), ?_, rd_str _ _ _ _⟩
    unfold execOp
    rw [ho]
    have hrun : (convert src dst (a.eval x)).run P w = .ok (.string (bytesI xs)) w := by
      rw [h1, run_convert_bytes_string w src dst e A _ cap hs he hd]
      by_cases hn : xs = []
      · subst hn
        cases A with
        | none => simp [Conv.bytesToString, bytesI]
        | some A =>
          have := run_bytesToString (P := P) w A 0 cap [] (by simpa using run_loadCells_list (P := P) w A [] (fun j v hj => by simp at hj))
          simpa [bytesI] using this
      · obtain ⟨g, off, sz, vs, rfl, hs1, hr, hcell⟩ := h3 (by simpa using hn)
        have hflat : (xs.map c).flatten = xs.map fun v => Tr.v (.int .u8 v) := by
          clear h1 h2 h3 hs1 hr hcell hn hx
          induction xs with
          | nil => rfl
          | cons v xs ih => rw [List.map_cons, List.flatten_cons, ih, hc]; rfl
        rw [hflat] at hr
        have hvs : vs = xs.map fun v => Value.int .u8 v := by
          clear h1 h2 h3 hs1 hcell hn hx hflat
          induction xs generalizing vs with
          | nil => cases hr; rfl
          | cons v xs ih =>
            cases hr with
            | cons h hs =>
              cases h
              rw [ih _ hs]
              rfl
        have := run_bytesToString (P := P) w ⟨g, off, none⟩ xs.length cap xs (by
          have hl := run_loadCells_list (P := P) w ⟨g, off, none⟩ (xs.map (Value.int .u8)) (fun j v hj => by
            rw [add_none]
            exact hcell j v (by rw [hvs]; exact hj))
          simpa using hl)
        simpa [bytesI] using this
    simp only [Sem.run_bind, hrun, Result.andThen_ok, Sem.run_pure]

/-! ### Contracts of the library -/
theorem CallS_str {f : FuncId} {args : List AV} {b : ByteArray} (h : ∀ ok σ w vs, (∀ g, ok g → g < w.heap.size) → Lb ok w → RelA ok σ w args vs → Calls P f vs.toArray w fun e w' => e = .returned (.string b) ∧ Below w.heap.size w w') : CallS P f args (.c (.v (.string b))) [] := by
  intro ok σ w vs hok hlib hargs
  refine (h ok σ w vs hok hlib hargs).mono ?_
  rintro e w' ⟨rfl, hb⟩
  refine ⟨_, ok, σ, rfl, ⟨hb, fun _ h => h, fun _ h => .inl h, fun g hg => Nat.lt_of_lt_of_le (hok g hg) hb.size, rd_str _ _ _ _, fun id e h => by simp at h, fun e he => rfl, fun id e h => by simp at h, fun id e g h => by simp at h, fun i j e f g h => by simp at h, fun id e h => by simp at h⟩⟩
theorem rel_int_inv {ok : Nat → Prop} {σ : Nat → Loc} {w : World} {k : IntKind} {n : Int} {v : Value} (h : Rel ok σ w (.c (.v (.int k n))) v) : v = .int k n := by
  have h2 : Rd ok w (.v (.int k n)) v := h
  cases h2
  rfl
theorem rel_str_inv {ok : Nat → Prop} {σ : Nat → Loc} {w : World} {b : ByteArray} {v : Value} (h : Rel ok σ w (.c (.v (.string b))) v) : v = .string b := by
  have h2 : Rd ok w (.v (.string b)) v := h
  cases h2
  rfl
theorem CallS_itoa {f : FuncId} (hc : ∀ ok w n, Lb ok w → -9223372036854775808 ≤ n → n ≤ 9223372036854775807 → Calls P f #[.int .i64 n] w fun e w' => e = .returned (.string ⟨(Go.Lib.itoa n).toArray⟩) ∧ Below w.heap.size w w') {n : Int} {r : ByteArray} (h : r_strconv_Itoa n = some r) : CallS P f [I n] (.c (.v (.string r))) [] := by
  unfold r_strconv_Itoa at h
  split at h
  · rename_i hn
    injection h with h
    subst h
    refine CallS_str fun ok σ w vs hok hlib hargs => ?_
    cases hargs with
    | cons h1 h2 =>
      cases h2
      have := rel_int_inv h1
      subst this
      exact hc ok w n hlib hn.1 hn.2
  · cases h
theorem CallS_join {f : FuncId} {c : ByteArray → List Tr} (hcc : ∀ v, c v = [.v (.string v)])
    (hc0 : ∀ (A : Option Addr) (c : Nat) (sep : ByteArray) (w : World), Calls P f #[.slice A 0 c, .string sep] w fun e w' => e = .returned (.string ⟨#[]⟩) ∧ w' = w)
    (hc : ∀ (bk o c : Nat) (xs : List ByteArray) (sep : ByteArray) (w : World), (∀ (j : Nat) x, xs[j]? = some x → w.cell? ⟨bk, o + j, none⟩ = some (.string x)) → bk < w.heap.size → xs.length ≤ 140737488355328 → xs.length ≤ c → (Go.Lib.join (xs.map (·.data.toList)) sep.data.toList).length ≤ 140737488355328 →
      Calls P f #[.slice (some ⟨bk, o, none⟩) xs.length c, .string sep] w fun e w' => e = .returned (.string ⟨(Go.Lib.join (xs.map (·.data.toList)) sep.data.toList).toArray⟩) ∧ Below w.heap.size w w')
    {xs : List ByteArray} {sep r : ByteArray} (h : r_strings_Join xs sep = some r) : CallS P f [.c (.sl (xs.map c)), .c (.v (.string sep))] (.c (.v (.string r))) [] := by
  unfold r_strings_Join at h
  split at h
  · rename_i hn
    injection h with h
    subst h
    refine CallS_str fun ok σ w vs hok hlib hargs => ?_
    cases hargs with
    | cons h1 h2 =>
      cases h2 with
      | cons h3 h4 =>
        cases h4
        have := rel_str_inv h3
        subst this
        rename_i v
        have h1 : Rd ok w (.sl (xs.map c)) v := h1
        generalize hT : Tr.sl (xs.map c) = T at h1
        cases h1 with
        | v y hy => cases hT
        | mp b es clock hb hm => cases hT
        | nl A cap =>
          injection hT with hT
          have e1 : xs = [] := by simpa using hT
          subst e1
          refine (hc0 A cap sep w).mono ?_
          rintro e w' ⟨rfl, rfl⟩
          exact ⟨rfl, Below.refl _ _⟩
        | sl g off n cap sz els f hn1 hcap hok1 hs hcell hrr =>
          injection hT with hT
          subst hT
          subst hn1
          rw [List.length_map]
          refine hc g off cap xs sep w (fun j x hj => ?_) (hok g hok1) hn.1 (by simpa using hcap) hn.2
          have hce : c x = [.v (.string x)] := hcc x
          have hxl : j < xs.length := by
            have := List.getElem?_eq_some_iff.1 hj
            exact this.1
          have hs1 : sz = 1 := by
            have := hs (c x) (List.mem_map.2 ⟨x, List.mem_of_getElem? hj, rfl⟩)
            rw [hce] at this
            simpa using this.symm
          have hat : at2 (xs.map c) j 0 = some (.v (.string x)) := by
            unfold at2
            rw [List.getElem?_map, hj]
            simp [hce]
          have h5 := hcell j 0 _ hat
          have h6 := hrr j 0 _ hat
          rw [hs1] at h5
          rw [Nat.mul_one, Nat.add_zero] at h5
          rw [h5]
          generalize f j 0 = u at h6
          cases h6
          rfl
  · cases h
end
section
variable {P : Program}
/-- A row that a call hands back, frozen at once. -/
theorem CallS_frz {f : FuncId} {args : List AV} {k T sz : Nat} {els : List (List Tr)} (h : CallS P f args (.ow k) [(k, .arr T sz els)]) : CallS P f args (.c (.sl els)) [] := by
  intro ok σ w vs hok hlib hargs
  refine Calls.mono (h ok σ w vs hok hlib hargs) ?_
  rintro e w' ⟨v, ok', σ', he, hn⟩
  have hlib' : Lb ok' w' := hlib.mono hn.okM fun g hg => hn.below.block g (hok g hg)
  have hC : Core ok' σ' ⟨[], [(k, .arr T sz els)]⟩ (⟨#[], []⟩ : Act) w' := ⟨Nat.zero_le _, hn.okL, hlib', fun t => trivial, hn.ent, fun id e g h1 h2 => ⟨(hn.blk id e g h1 h2).2.1, (hn.blk id e g h1 h2).2.2⟩, hn.inj⟩
  have h2 := snap_rel hC hn.rel
  have e2 : snapA ⟨[], [(k, .arr T sz els)]⟩ (.ow k) = .c (.sl els) := by
    simp [snapA, St.entc, St.ent, List.lookup, Ent.core]
  rw [e2] at h2
  refine ⟨v, _, σ', he, hn.below, fun g hg => .inl (hn.okM g hg), ?_, ?_, h2, fun id e hl => by simp [List.lookup] at hl, fun e _ => rfl, fun id e hl => by simp [List.lookup] at hl, fun id e g hl => by simp [List.lookup] at hl, fun i j e f g hl => by simp [List.lookup] at hl, fun id e hl => by simp [List.lookup] at hl⟩
  · rintro g (hg | ⟨id, e, h3, hg⟩)
    · exact hn.okN g hg
    · exact .inr (hn.blk id e g h3 hg).1
  · rintro g (hg | ⟨id, e, h3, hg⟩)
    · exact hn.okL g hg
    · exact (hn.blk id e g h3 hg).2.2
end
section
variable {P : Program}
/-- Slots that hold nothing, by their number; which slots are kept, by the bits of a number. -/
def bt : Nat → List AV → List AV
  | 0, l => l
  | n + 1, l => .bot :: bt n l
def mb : Nat → Nat → List Bool
  | 0, _ => []
  | n + 1, x => Nat.beq (Nat.mod x 2) 1 :: mb n (Nat.div x 2)
theorem L0 {ops : Array Oper} {o : Oper} {rest : List Oper} {s : St} {av : AV} {d : Nat} {J : St → Prop} (hg : o.guard = none) (hd : o.dst = some d) (h : Y0 P o s av) (hk : XL P ops rest (s.put d av) J) : XL P ops (o :: rest) s J := XL_cons hg (X_of_Y0 hd h) hk
theorem L1 {ops : Array Oper} {o : Oper} {rest : List Oper} {s : St} {av : AV} {ne : List (Nat × Ent)} {d : Nat} {J : St → Prop} (hg : o.guard = none) (hd : o.dst = some d) (h : Y1 P o s av ne) (hk : XL P ops rest (s.upd d av ne) J) : XL P ops (o :: rest) s J := XL_cons hg (X_of_Y1 hd h) hk
/-- Rounds of a loop, one by one. -/
def VR (P : Program) (c : Code) : Nat → St → (Exit → St → Prop) → Prop
  | 0, _, _ => False
  | n + 1, s, J => V P c s (thenA (fun s' => VR P c n s' J) J)
theorem VR_s {c : Code} {n : Nat} {s : St} {J : Exit → St → Prop} (h : V P c s (thenA (fun s' => VR P c n s' J) J)) : VR P c (n + 1) s J := h
theorem V_unroll {c : Code} {s : St} {J : Exit → St → Prop} (n : Nat) (h : VR P c n s J) : V P (.loop c) s J := by
  intro B w0 ok0 ok σ a w hR
  refine wp_loop_rounds n ?_
  revert h
  induction n generalizing s ok σ a w with
  | zero => intro h; exact h.elim
  | succ n ih =>
    intro h
    refine wp_mono (h _ _ _ _ _ _ _ hR) ?_
    rintro e a' w' ⟨s', ok', σ', hJ, hR'⟩
    cases e with
    | normal => exact ih _ _ _ _ hR' hJ
    | exit id => exact ⟨s', ok', σ', hJ, hR'⟩
    | goto l => exact ⟨s', ok', σ', hJ, hR'⟩
    | ret => exact ⟨s', ok', σ', hJ, hR'⟩
    | panic ch => exact ⟨s', ok', σ', hJ, hR'⟩
    | outgrown => exact ⟨s', ok', σ', hJ, hR'⟩
/-- Ways that come together again, beside ways that return. -/
theorem V_cutS {α β : Type} {q : α ⊕ β} {x y : Code} {s : St} {S : α → St} {J : Exit → St → Prop} (m : List Bool) (ids : List Nat) (h1 : V P x s (thenA (fun s' => ∃ o, q = .inl o ∧ s'.keep m ids = S o) J)) (h2 : ∀ o, q = .inl o → V P y (S o) J) : V P (.seq x y) s J := by
  refine V_seq (V_toS (q := q) (S := S) m ids (V_mono h1 fun e s' h => ?_) h2)
  cases e <;> exact h
theorem E_idxA {o : Oper} {s : St} {t e : TypeId} {x ix : Operand} {k : IntKind} {N sz : Nat} {n : Int} (av : AV) (hu : P.underlying t = some (.array N e)) (hsz : (P.info? e).map (·.size) = some sz) (ho : o.op = .indexAddr t x ix) (hi : s.ev ix = .c (.v (.int k n)))
    (hn : (decide (0 ≤ n) && decide (n < N)) = true) (hx : (s.ev x).adv (n.toNat * sz) = av) (hb : av ≠ .bot) : Y0 P o s av :=
  Y0_of_run fun ok σ a w hC => by
    subst hx
    obtain ⟨g, off, h1, h2⟩ := adv_rel (n.toNat * sz) (hC.ev x) hb
    refine ⟨_, ?_, h2⟩
    simp only [Bool.and_eq_true, decide_eq_true_eq] at hn
    have h3 := hC.exact hi
    cases hii : P.info? e with
    | none => rw [hii] at hsz; simp at hsz
    | some i =>
      have h5 : i.size = sz := by rw [hii] at hsz; simpa using hsz
      unfold execOp
      rw [ho]
      simp [h1, h3, Instr.indexAt, asIntOf, run_underlying hu, Instr.sureAddr, sizeOf, typeInfo, hii, h5, hn.1, hn.2, add_none]
/-- An element of an array that is a value. -/
theorem Y0_indexA {α : Type} {c : α → List Tr} {xs : List α} {v : α} {d : Tr} {o : Oper} {s : St} {t e : TypeId} {x ix : Operand} {k : IntKind} {N : Nat} {n : Int} (hu : P.underlying t = some (.array N e)) (hs : scalar P e) (hsz : (P.info? e).map (·.size) = some 1) (ho : o.op = .index t x ix) (hi : s.ev ix = .c (.v (.int k n)))
    (hx : s.ev x = .ag (xs.map c).flatten) (hl : xs.length = N) (hc : ∀ v, (c v).length = 1) (hv : getI xs n = some v) (hd : c v = [d]) : Y0 P o s (.c d) :=
  Y0_of_run fun ok σ a w hC => by
    have h1 := hC.ev x
    rw [hx] at h1
    obtain ⟨vs, h2, h3⟩ := (h1 : Rel1 ok σ w (.ag (xs.map c).flatten) (a.eval x))
    have h4 := hC.exact hi
    obtain ⟨g1, g2⟩ := getI_some hv
    have hfl : ∀ (l : List α) (j : Nat) (u : α), l[j]? = some u → (l.map c).flatten[j]? = (c u)[0]? := by
      intro l
      induction l with
      | nil => intro j u h; simp at h
      | cons y l ih =>
        intro j u h
        obtain ⟨d', hd'⟩ : ∃ d', c y = [d'] := by
          have := hc y
          match hcy : c y with
          | [] => rw [hcy] at this; cases this
          | [d'] => exact ⟨d', rfl⟩
          | _ :: _ :: _ => rw [hcy] at this; simp at this
        rw [List.map_cons, List.flatten_cons, hd']
        cases j with
        | zero => simp at h; subst h; simp [hd']
        | succ j => simpa using ih j u (by simpa using h)
    have h5 := hfl xs n.toNat v g2
    rw [hd] at h5
    obtain ⟨y, h6, h7⟩ := h3.get n.toNat d (by simpa using h5)
    have hlt : n < (N : Int) := by
      have := (List.getElem?_eq_some_iff.1 g2).1
      omega
    refine ⟨y, ?_, h7⟩
    obtain ⟨dd, hd1, hd2⟩ := hs
    cases hii : P.info? e with
    | none => rw [hii] at hsz; simp at hsz
    | some i =>
      have h8 : i.size = 1 := by rw [hii] at hsz; simpa using hsz
      have h9 : vs[n.toNat]? = some y := by simpa using h6
      unfold execOp
      rw [ho]
      simp [h2, h4, Instr.index, asIntOf, run_underlying hu, part, run_isAgg hd1, hd2, sizeOf, typeInfo, hii, h8, g1, hlt, h9]
/-- All of an array that nobody writes, as a slice. -/
theorem Y0_sliceA {α : Type} {c : α → List Tr} {xs : List α} {o : Oper} {s : St} {t e : TypeId} {N sz : Nat} {x : Operand} (hu : P.underlying t = some (.array N e)) (hsz : (P.info? e).map (·.size) = some sz) (hc : ∀ v, (c v).length = sz) (hN : 0 < N) (hl : xs.length = N) (ho : o.op = .slice t x none none none)
    (hx : s.ev x = .pe (xs.map c).flatten) : Y0 P o s (.c (.sl (xs.map c))) :=
  Y0_of_run fun ok σ a w hC => by
    have h1 := hC.ev x
    rw [hx] at h1
    obtain ⟨g, off, hok, hy, hcell⟩ := (h1 : Rel1 ok σ w (.pe (xs.map c).flatten) (a.eval x))
    have hels : ∀ el, el ∈ xs.map c → el.length = sz := fun el hel => by
      obtain ⟨v, _, rfl⟩ := List.mem_map.1 hel
      exact hc v
    refine ⟨.slice (some ⟨g, off, none⟩) N N, ?_, Rd.sl g off N N sz (xs.map c) (fun i j => (w.cell? ⟨g, off + (i * sz + j), none⟩).getD undef) (by simp [hl]) (Nat.le_refl _) hok hels (fun i j d hd => ?_) (fun i j d hd => ?_)⟩
    · cases hii : P.info? e with
      | none => rw [hii] at hsz; simp at hsz
      | some i =>
        have hN0 : ¬ N = 0 := by omega
        unfold execOp
        rw [ho]
        simp [hy, Instr.sliceAt, Instr.sliceBounds, run_underlying hu, Instr.sureAddr, sizeOf, typeInfo, hii, hN0, add_none]
    · unfold at2 at hd
      obtain ⟨el, he, hj⟩ := Option.bind_eq_some_iff.1 hd
      obtain ⟨u, hu2, _⟩ := hcell _ d (flat_at _ sz i j el d hels he hj)
      rw [hu2]
      rfl
    · unfold at2 at hd
      obtain ⟨el, he, hj⟩ := Option.bind_eq_some_iff.1 hd
      obtain ⟨u, hu2, hr⟩ := hcell _ d (flat_at _ sz i j el d hels he hj)
      rw [hu2]
      exact hr
/-- The array under a slice that nobody writes. -/
theorem Y0_s2ap {α : Type} {c : α → List Tr} {xs ys : List α} {o : Oper} {s : St} {t e : TypeId} {N sz : Nat} {x : Operand} (hu : P.underlying t = some (.array N e)) (hN : 0 < N) (hc : ∀ v, (c v).length = sz) (ho : o.op = .sliceToArrayPointer t x)
    (hx : s.ev x = .c (.sl (xs.map c))) (ht : xs.take N = ys) (hl : ys.length = N) : Y0 P o s (.pe (ys.map c).flatten) :=
  Y0_of_run fun ok σ a w hC => by
    subst ht
    have hNx : N ≤ xs.length := by rw [List.length_take] at hl; omega
    have h1 := hC.ev x
    rw [hx] at h1
    have h2 : Rd ok w (.sl (xs.map c)) (a.eval x) := h1
    generalize hv : a.eval x = v at h2
    generalize hT : Tr.sl (xs.map c) = T at h2
    cases h2 with
    | v y hy => cases hT
    | mp b es clock hb hm => cases hT
    | nl A cap =>
      injection hT with hT
      have : xs = [] := by simpa using hT
      subst this
      simp at hNx
      omega
    | sl g off n cap sz' els f hn hcap hok hs hcell hr =>
      injection hT with hT
      subst hT
      have hne : xs ≠ [] := fun h => by subst h; simp at hNx; omega
      obtain ⟨x0, hx0⟩ := List.exists_mem_of_ne_nil xs hne
      have e1 : sz' = sz := by
        have := hs (c x0) (List.mem_map.2 ⟨x0, hx0, rfl⟩)
        rw [hc] at this
        exact this.symm
      subst e1
      refine ⟨.pointer (some ⟨g, off, none⟩), ?_, ⟨g, off, hok, rfl, fun j d hj => ?_⟩⟩
      · have hlt : ¬ n < N := by rw [hn, List.length_map]; omega
        unfold execOp
        rw [ho]
        simp [hv, Instr.arrayAt, run_underlying hu, hlt]
      · have hels : ∀ el, el ∈ (xs.take N).map c → el.length = sz' := fun el hel => by
          obtain ⟨v, _, rfl⟩ := List.mem_map.1 hel
          exact hc v
        have hat := flat_split ((xs.take N).map c) sz' j d hels hj
        have hat2 : at2 (xs.map c) (j / sz') (j % sz') = some d := by
          unfold at2 at hat ⊢
          obtain ⟨el, he, hj2⟩ := Option.bind_eq_some_iff.1 hat
          rw [List.map_take, List.getElem?_take] at he
          split at he
          · rw [he]; exact hj2
          · cases he
        have h3 := hcell _ _ d hat2
        have h4 := hr _ _ d hat2
        have e2 : j / sz' * sz' + j % sz' = j := by rw [Nat.mul_comm]; exact Nat.div_add_mod j sz'
        rw [e2] at h3
        exact ⟨_, h3, h4⟩
theorem tk_nil {α : Type} {xs : List α} {n : Nat} : (xs.drop n).take 0 = [] := rfl
theorem tk_cons {α : Type} {xs ys : List α} {a : α} {i : Int} (n m : Nat) (h : getI xs i = some a) (hi : i.toNat = n) (k : (xs.drop (n + 1)).take m = ys) : (xs.drop n).take (m + 1) = a :: ys := by
  obtain ⟨_, h2⟩ := getI_some h
  rw [hi] at h2
  obtain ⟨h3, h4⟩ := List.getElem?_eq_some_iff.1 h2
  rw [List.drop_eq_getElem_cons h3, List.take_succ_cons, k, h4]
end
end Go.Proofs.YtnheekadeflecaaGreat
