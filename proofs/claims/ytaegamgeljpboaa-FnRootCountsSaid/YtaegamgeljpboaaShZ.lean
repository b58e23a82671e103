/-
  Strings: places, parts, bytes made into a string; contracts of Go's library as calls said by trees.
  Conditions: none.
-/
import Derived.Test.YtaegamgeljpboaaShY
import Derived.Test.YtaegamgeljpboaaShRs
import Derived.Laws.BytesString
import Derived.Laws.Strings2
import Derived.Laws.Slices
namespace Go.Proofs.Ytaegamgeljpboaa
open Go.RowKit
set_option linter.unusedSimpArgs false
set_option linter.unusedVariables false

section
variable {P : Program}
theorem catR_some {a b : ByteArray} {u : Unit} (h : catR a b = some u) : a.size + b.size ≤ 9223372036854775807 := by
  unfold catR at h
  split at h
  · assumption
  · cases h
theorem getB_some {b : ByteArray} {i v : Int} (h : getB b i = some v) : ∃ h : 0 ≤ i ∧ i < b.size, v = (b[i.toNat]'(by omega)).toNat := by
  unfold getB at h
  split at h
  · rename_i hi
    injection h with h
    refine ⟨hi, ?_⟩
    rw [← h]
    have h2 : i.toNat < b.data.toList.length := by
      have : b.data.toList.length = b.size := by simp
      omega
    rw [List.getElem?_eq_getElem h2]
    rfl
  · cases h
theorem Y0_idxs {o : Oper} {s : St} {x i : Operand} {t : TypeId} {b : ByteArray} {k : IntKind} {n v : Int} (hu : P.underlying t = some .string) (ho : o.op = .index t x i) (hx : s.ev x = .c (.v (.string b))) (hi : s.ev i = .c (.v (.int k n))) (hg : getB b n = some v) : Y0 P o s (.c (.v (.int .u8 v))) :=
  Y0_of_run fun ok σ a w hC => by
    obtain ⟨h1, h2⟩ := getB_some hg
    refine ⟨.int .u8 v, ?_, rd_int _ _ _ _⟩
    unfold execOp
    rw [ho]
    simp only [hC.exact hx, hC.exact hi, Sem.run_bind, run_index_string w t b k n hu, dif_pos h1, Result.andThen_ok, Sem.run_pure]
    rw [h2]
theorem rd_str (ok : Nat → Prop) (σ : Nat → Loc) (w : World) (b : ByteArray) : Rel ok σ w (.c (.v (.string b))) (.string b) := Rd.v _ rfl
theorem Y0_slices {o : Oper} {s : St} {t : TypeId} {x : Operand} {lo hi : Option Operand} {b : ByteArray} {l h : Int} (hu : P.underlying t = some .string) (ho : o.op = .slice t x lo hi none)
    (hx : s.ev x = .c (.v (.string b))) (hlo : ∀ y, lo = some y → ∃ k, s.ev y = .c (.v (.int k l))) (hlo0 : lo = none → l = 0) (hhi : ∀ y, hi = some y → ∃ k, s.ev y = .c (.v (.int k h))) (hhi0 : hi = none → h = (b.size : Int)) (hb : 0 ≤ l ∧ l ≤ h ∧ h ≤ b.size) : Y0 P o s (.c (.v (.string (b.extract l.toNat h.toNat)))) :=
  Y0_of_run fun ok σ a w hC => by
    obtain ⟨b1, b2, b3⟩ := hb
    refine ⟨.string (b.extract l.toNat h.toNat), ?_, rd_str _ _ _ _⟩
    unfold execOp
    rw [ho]
    have hrun : (Instr.sliceAt t (.string b) (lo.map a.eval) (hi.map a.eval) none).run P w = .ok (.string (b.extract l.toNat h.toNat)) w := by
      rw [run_sliceAt_string w t (.string b) (lo.map a.eval) (hi.map a.eval) none hu]
      cases lo with
      | none =>
        have hl := hlo0 rfl
        subst hl
        cases hi with
        | none =>
          have hh := hhi0 rfl
          subst hh
          simpa using run_slice_string_all w t b hu
        | some y =>
          obtain ⟨k, hk⟩ := hhi y rfl
          simp only [Option.map_none, Option.map_some, hC.exact hk]
          simpa using run_slice_string_h w t b hu k h b2 b3
      | some z =>
        obtain ⟨k1, hk1⟩ := hlo z rfl
        cases hi with
        | none =>
          have hh := hhi0 rfl
          subst hh
          simp only [Option.map_none, Option.map_some, hC.exact hk1]
          simpa using run_slice_string_l w t b hu k1 l b1 b2
        | some y =>
          obtain ⟨k, hk⟩ := hhi y rfl
          simp only [Option.map_some, hC.exact hk, hC.exact hk1]
          exact run_slice_string w t b k1 k l h hu b1 b2 b3
    simp only [hC.exact hx, Option.map_none, Sem.run_bind, hrun, Result.andThen_ok, Sem.run_pure]
/-- A slice of bytes made into a string. -/
theorem Y0_b2s {o : Oper} {s : St} {src dst e : TypeId} {x : Operand} {c : Int → List Tr} (hc : ∀ v, c v = [.v (.int .u8 v)]) (xs : List Int) (hs : P.underlying src = some (.slice e)) (he : P.underlying e = some (.int .u8)) (hd : P.underlying dst = some .string) (ho : o.op = .convert src dst x)
    (hx : sliceEls s (s.ev x) = some (xs.map c)) : Y0 P o s (.c (.v (.string (bytesI xs)))) :=
  Y0_of_run fun ok σ a w hC => by
    obtain ⟨A, cap, h1, h2, h3⟩ := slice_read hC (hC.ev x) hx
    refine ⟨.string (bytesI xs), ?_, rd_str _ _ _ _⟩
    unfold execOp
    rw [ho]
    have hrun : (convert src dst (a.eval x)).run P w = .ok (.string (bytesI xs)) w := by
      rw [h1, run_convert_bytes_string w src dst e A _ cap hs he hd]
      by_cases hn : xs = []
      · subst hn
        cases A with
        | none => simp [Conv.bytesToString, bytesI]
        | some A =>
          have := run_bytesToString (P := P) w A 0 cap [] (by simpa using run_loadCells_list (P := P) w A [] (fun j v hj => by simp at hj))
          simpa [bytesI] using this
      · obtain ⟨g, off, sz, vs, rfl, hs1, hr, hcell⟩ := h3 (by simpa using hn)
        have hflat : (xs.map c).flatten = xs.map fun v => Tr.v (.int .u8 v) := by
          clear h1 h2 h3 hs1 hr hcell hn hx
          induction xs with
          | nil => rfl
          | cons v xs ih => rw [List.map_cons, List.flatten_cons, ih, hc]; rfl
        rw [hflat] at hr
        have hvs : vs = xs.map fun v => Value.int .u8 v := by
          clear h1 h2 h3 hs1 hcell hn hx hflat
          induction xs generalizing vs with
          | nil => cases hr; rfl
          | cons v xs ih =>
            cases hr with
            | cons h hs =>
              cases h
              rw [ih _ hs]
              rfl
        have := run_bytesToString (P := P) w ⟨g, off, none⟩ xs.length cap xs (by
          have hl := run_loadCells_list (P := P) w ⟨g, off, none⟩ (xs.map (Value.int .u8)) (fun j v hj => by
            rw [add_none]
            exact hcell j v (by rw [hvs]; exact hj))
          simpa using hl)
        simpa [bytesI] using this
    simp only [Sem.run_bind, hrun, Result.andThen_ok, Sem.run_pure]

/-! ### Contracts of the library -/
theorem CallS_str {f : FuncId} {args : List AV} {b : ByteArray} (h : ∀ ok σ w vs, (∀ g, ok g → g < w.heap.size) → Lb ok w → RelA ok σ w args vs → Calls P f vs.toArray w fun e w' => e = .returned (.string b) ∧ Below w.heap.size w w') : CallS P f args (.c (.v (.string b))) [] := by
  intro ok σ w vs hok hlib hargs
  refine (h ok σ w vs hok hlib hargs).mono ?_
  rintro e w' ⟨rfl, hb⟩
  refine ⟨_, ok, σ, rfl, ⟨hb, fun _ h => h, fun _ h => .inl h, fun g hg => Nat.lt_of_lt_of_le (hok g hg) hb.size, rd_str _ _ _ _, fun id e h => by simp at h, fun e he => rfl, fun id e h => by simp at h, fun id e g h => by simp at h, fun i j e f g h => by simp at h, fun id e h => by simp at h⟩⟩
theorem rel_int_inv {ok : Nat → Prop} {σ : Nat → Loc} {w : World} {k : IntKind} {n : Int} {v : Value} (h : Rel ok σ w (.c (.v (.int k n))) v) : v = .int k n := by
  have h2 : Rd ok w (.v (.int k n)) v := h
  cases h2
  rfl
theorem rel_str_inv {ok : Nat → Prop} {σ : Nat → Loc} {w : World} {b : ByteArray} {v : Value} (h : Rel ok σ w (.c (.v (.string b))) v) : v = .string b := by
  have h2 : Rd ok w (.v (.string b)) v := h
  cases h2
  rfl
theorem CallS_itoa {f : FuncId} (hc : ∀ ok w n, Lb ok w → -9223372036854775808 ≤ n → n ≤ 9223372036854775807 → Calls P f #[.int .i64 n] w fun e w' => e = .returned (.string ⟨(Go.Lib.itoa n).toArray⟩) ∧ Below w.heap.size w w') {n : Int} {r : ByteArray} (h : r_strconv_Itoa n = some r) : CallS P f [I n] (.c (.v (.string r))) [] := by
  unfold r_strconv_Itoa at h
  split at h
  · rename_i hn
    injection h with h
    subst h
    refine CallS_str fun ok σ w vs hok hlib hargs => ?_
    cases hargs with
    | cons h1 h2 =>
      cases h2
      have := rel_int_inv h1
      subst this
      exact hc ok w n hlib hn.1 hn.2
  · cases h
theorem CallS_join {f : FuncId} {c : ByteArray → List Tr} (hcc : ∀ v, c v = [.v (.string v)])
    (hc0 : ∀ (A : Option Addr) (c : Nat) (sep : ByteArray) (w : World), Calls P f #[.slice A 0 c, .string sep] w fun e w' => e = .returned (.string ⟨#[]⟩) ∧ w' = w)
    (hc : ∀ (bk o c : Nat) (xs : List ByteArray) (sep : ByteArray) (w : World), (∀ (j : Nat) x, xs[j]? = some x → w.cell? ⟨bk, o + j, none⟩ = some (.string x)) → bk < w.heap.size → xs.length ≤ 140737488355328 → xs.length ≤ c → (Go.Lib.join (xs.map (·.data.toList)) sep.data.toList).length ≤ 140737488355328 →
      Calls P f #[.slice (some ⟨bk, o, none⟩) xs.length c, .string sep] w fun e w' => e = .returned (.string ⟨(Go.Lib.join (xs.map (·.data.toList)) sep.data.toList).toArray⟩) ∧ Below w.heap.size w w')
    {xs : List ByteArray} {sep r : ByteArray} (h : r_strings_Join xs sep = some r) : CallS P f [.c (.sl (xs.map c)), .c (.v (.string sep))] (.c (.v (.string r))) [] := by
  unfold r_strings_Join at h
  split at h
  · rename_i hn
    injection h with h
    subst h
    refine CallS_str fun ok σ w vs hok hlib hargs => ?_
    cases hargs with
    | cons h1 h2 =>
      cases h2 with
      | cons h3 h4 =>
        cases h4
        have := rel_str_inv h3
        subst this
        rename_i v
        have h1 : Rd ok w (.sl (xs.map c)) v := h1
        generalize hT : Tr.sl (xs.map c) = T at h1
        cases h1 with
        | v y hy => cases hT
        | nl A cap =>
          injection hT with hT
          have e1 : xs = [] := by simpa using hT
          subst e1
          refine (hc0 A cap sep w).mono ?_
          rintro e w' ⟨rfl, rfl⟩
          exact ⟨rfl, Below.refl _ _⟩
        | sl g off n cap sz els f hn1 hcap hok1 hs hcell hrr =>
          injection hT with hT
          subst hT
          subst hn1
          rw [List.length_map]
          refine hc g off cap xs sep w (fun j x hj => ?_) (hok g hok1) hn.1 (by simpa using hcap) hn.2
          have hce : c x = [.v (.string x)] := hcc x
          have hxl : j < xs.length := by
            have := List.getElem?_eq_some_iff.1 hj
            exact this.1
          have hs1 : sz = 1 := by
            have := hs (c x) (List.mem_map.2 ⟨x, List.mem_of_getElem? hj, rfl⟩)
            rw [hce] at this
            simpa using this.symm
          have hat : at2 (xs.map c) j 0 = some (.v (.string x)) := by
            unfold at2
            rw [List.getElem?_map, hj]
            simp [hce]
          have h5 := hcell j 0 _ hat
          have h6 := hrr j 0 _ hat
          rw [hs1] at h5
          rw [Nat.mul_one, Nat.add_zero] at h5
          rw [h5]
          generalize f j 0 = u at h6
          cases h6
          rfl
  · cases h
end
end Go.Proofs.Ytaegamgeljpboaa
