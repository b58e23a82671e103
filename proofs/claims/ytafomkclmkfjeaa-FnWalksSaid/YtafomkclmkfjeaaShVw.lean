/-
  Views of a row's first elements beside a row that grows.
  Conditions: none.
-/
import Derived.Test.YtafomkclmkfjeaaShEx
namespace Go.Proofs.Ytafomkclmkfjeaa
open Go.RowKit
set_option linter.unusedSimpArgs false
set_option linter.unusedVariables false

/-- The fourth statement of a text, without what follows it. -/
def vloop (fn : Func) : Code := match fn.body with
  | some (.seq _ (.seq _ (.seq _ (.seq x _)))) => x
  | _ => .skip

section
variable {P : Program}
/-- The first elements of a row, all that it has: list[:n:n]. -/
theorem Y0_view {o : Oper} {s : St} {t e T sz id : Nat} {x y z : Operand} {els : List (List Tr)} (hu : P.underlying t = some (.slice e)) (hsz : (P.info? e).map (·.size) = some sz) (ho : o.op = .slice t x none (some y) (some z))
    (hx : s.ev x = .ow id) (he : s.entc id = some (.arr T sz els)) (hne : els ≠ []) (hy : s.ev y = .c (.v (.int .i64 (els.length : Int)))) (hz : s.ev z = .c (.v (.int .i64 (els.length : Int)))) : Y0 P o s (.vw id els .whole) :=
  Y0_of_run fun ok σ a w hC => by
    have h1 := hC.ev x
    rw [hx] at h1
    have h6 : a.eval x = ownVal (σ id) := h1
    obtain ⟨h3, hn, hs, vs, h4, h5⟩ := hC.entc id _ he
    have hpos : 0 < els.length := List.length_pos_iff.2 hne
    obtain ⟨g, hg⟩ := own_blk h4 hpos
    have hcap : els.length ≤ (σ id).cap := by
      rcases h4.2 with ⟨_, hv0⟩ | ⟨g2, cap, cur, hv, hb, hg2, hnc, _⟩
      · omega
      · unfold ownVal at hv
        injection hv with _ _ h3
        omega
    refine ⟨.slice (some ⟨g, 0, none⟩) els.length els.length, ?_, ⟨g, sz, els.length, hpos, Nat.le_refl _, h3, hs, rfl, .inl hg⟩⟩
    cases hii : P.info? e with
    | none => rw [hii] at hsz; simp at hsz
    | some i =>
      have h7 : i.size = sz := by rw [hii] at hsz; simpa using hsz
      have hb : ∀ w, (Instr.sliceBounds true (σ id).n (σ id).cap none (some (.int .i64 (els.length : Int))) (some (.int .i64 (els.length : Int)))).run P w = .ok (0, els.length, els.length) w := by
        intro w
        unfold Instr.sliceBounds
        simp [run_bound (P := P) (k := .i64) (n := (els.length : Int)) (y := (σ id).cap) (by omega) (by omega), run_bound (P := P) (k := .i64) (n := (els.length : Int)) (y := els.length) (by omega) (by omega)]
      have h0 : ¬ els.length = 0 := by omega
      unfold execOp
      rw [ho]
      simp [h6, ownVal, hg, hC.exact hy, hC.exact hz, Instr.sliceAt, Instr.slice, run_underlying hu, hb, sizeOf, typeInfo, hii, h7, h0, add_none, hne]
theorem Y0_lenV {o : Oper} {s : St} {x : Operand} {t e : TypeId} {id : Nat} {els : List (List Tr)} (hu : P.underlying t = some (.slice e)) (ho : o.op = .call { callee := .builtin .len, args := #[x], argTypes := #[t] }) (hx : s.ev x = .vw id els .whole) : Y0 P o s (.c (.v (.int .i64 (els.length : Int)))) :=
  Y0_of_run fun ok σ a w hC => by
    have h1 := hC.ev x
    rw [hx] at h1
    obtain ⟨g, sz, cap, h2, h3, h4, h5, h6, h7⟩ := (h1 : VwOk ok (σ id) w els .whole (a.eval x))
    refine ⟨_, ?_, rd_int _ _ _ _⟩
    unfold execOp
    rw [ho]
    simp [resolve, invoke, builtin, h6, vwVal, Builtin.len_, run_underlying hu, goInt]
theorem Y0_idxV {o : Oper} {s : St} {t e : TypeId} {x ix : Operand} {id sz : Nat} {els : List (List Tr)} {k : IntKind} {n : Int} (hu : P.underlying t = some (.slice e)) (hsz : (P.info? e).map (·.size) = some sz) (hs : ∀ el, el ∈ els → el.length = sz) (ho : o.op = .indexAddr t x ix) (hx : s.ev x = .vw id els .whole) (hi : s.ev ix = .c (.v (.int k n)))
    (h0 : 0 ≤ n) (hlt : n.toNat < els.length) : Y0 P o s (.vw id els (.elem n.toNat)) :=
  Y0_of_run fun ok σ a w hC => by
    have h1 := hC.ev x
    rw [hx] at h1
    have h2 := hC.exact hi
    obtain ⟨g, sz2, cap, g2, g3, g4, g5, g6, g7⟩ := (h1 : VwOk ok (σ id) w els .whole (a.eval x))
    obtain ⟨e0, he0⟩ := List.exists_mem_of_ne_nil els (List.length_pos_iff.1 g2)
    have hz : sz2 = sz := by rw [← g5 e0 he0, hs e0 he0]
    subst hz
    cases hii : P.info? e with
    | none => rw [hii] at hsz; simp at hsz
    | some i =>
      have h7 : i.size = sz2 := by rw [hii] at hsz; simpa using hsz
      refine ⟨.pointer (some ⟨g, n.toNat * sz2, none⟩), ?_, ⟨g, sz2, cap, g2, g3, g4, g5, rfl, g7⟩⟩
      unfold execOp
      rw [ho]
      have hm : n < (els.length : Int) := by omega
      simp [h2, g6, vwVal, Instr.indexAt, asIntOf, run_underlying hu, sizeOf, typeInfo, hii, h7, h0, hm, add_none]
/-- What lies at an element of a view. -/
theorem view_read {ok : Nat → Prop} {σ : Nat → Loc} {s : St} {a : Act} {w : World} (h : Core ok σ s a w) {id T sz i : Nat} {els r : List (List Tr)} {el : List Tr} {y : Value} (hv : VwOk ok (σ id) w els (.elem i) y) (he : s.entc id = some (.arr T sz (els ++ r))) (hel : els[i]? = some el) :
    ∃ g off, y = .pointer (some ⟨g, off, none⟩) ∧ ∀ j c, el[j]? = some c → ∃ u, w.cell? ⟨g, off + j, none⟩ = some u ∧ Rd ok w c u := by
  obtain ⟨g, sz2, cap, g2, g3, g4, g5, g6, g7⟩ := hv
  obtain ⟨h0, hn, hs, vs, h3, h4⟩ := h.entc id _ he
  obtain ⟨e0, he0⟩ := List.exists_mem_of_ne_nil els (List.length_pos_iff.1 g2)
  have hz : sz2 = sz := by rw [← g5 e0 he0, hs e0 (List.mem_append_left _ he0)]
  subst hz
  refine ⟨g, i * sz2, g6, fun j c hj => ?_⟩
  rcases g7 with g7 | ⟨_, us, g8, g9⟩
  · have h5 := flat_at (els ++ r) sz2 i j el c hs (by rw [List.getElem?_append_left (by
        rcases Nat.lt_or_ge i els.length with q | q
        · exact q
        · rw [List.getElem?_eq_none q] at hel; cases hel)]; exact hel) hj
    obtain ⟨u, h6, h7⟩ := h4.get _ c h5
    exact ⟨u, own_vals h3 g7 _ u h6, h7⟩
  · have h5 := flat_at els sz2 i j el c g5 hel hj
    obtain ⟨u, h6, h7⟩ := g8.get _ c h5
    exact ⟨u, g9 _ u h6, h7⟩
theorem Y0_loadV {o : Oper} {s : St} {t : TypeId} {x : Operand} {n id T sz i : Nat} {els r : List (List Tr)} {el : List Tr} (hs : wide P t n) (ho : o.op = .load t x) (hx : s.ev x = .vw id els (.elem i)) (he : s.entc id = some (.arr T sz (els ++ r))) (hel : els[i]? = some el) (hn : el.length = n) : Y0 P o s (.ag el) :=
  Y0_of_run fun ok σ a w hC => by
    have h1 := hC.ev x
    rw [hx] at h1
    obtain ⟨g, off, h2, h3⟩ := view_read hC (h1 : VwOk ok (σ id) w els (.elem i) (a.eval x)) he hel
    obtain ⟨vs, h4, h5⟩ := exists_vals g off el 0 fun j c hj => by simpa using h3 j c hj
    have hl : vs.length = n := by rw [← h4.len]; exact hn
    have h6 := run_loadVarN (P := P) hs (g := g) (off := off) hl (fun j u hu => by simpa using h5 j u hu)
    refine ⟨.agg vs.toArray, ?_, ⟨_, rfl, by simpa using h4⟩⟩
    unfold execOp
    rw [ho]
    simp only [h2, Instr.loadAt, Instr.sureAddr, Sem.run_bind, Sem.run_pure, Result.andThen_ok, h6]
/-- append to a row that is not nil: it lies where it lay, or all that was there is as it was. -/
theorem run_append_apart (w : World) (t ty e : TypeId) (i : TypeInfo) (z : Value) (ht : P.underlying t = some (.slice e)) (hi : P.info? e = some i) (hz : i.zero = some z) (hzs : z.cells.size = i.size)
    (g n cap0 : Nat) (xs : List Value) (hown : w.ownsRow 0 e i.size (.slice (some ⟨g, 0, none⟩) n cap0) n xs) (ad : Addr) (m c : Nat) (news : List Value) (hl : news.length = m * i.size)
    (hnews : ∀ j u, news[j]? = some u → w.cell? (ad.add j) = some u) (h1 : ∀ u ∈ news, u.oneCell' = true) (h63 : n + m ≤ maxLen) (hbytes : (n + m) * i.bytes ≤ 140737488355328) :
    ∃ g2 cap w', (Builtin.append_ #[t, t] ty #[.slice (some ⟨g, 0, none⟩) n cap0, .slice (some ad) m c]).run P w = .ok (.slice (some ⟨g2, 0, none⟩) (n + m) cap) w' ∧
      w'.ownsRow 0 e i.size (.slice (some ⟨g2, 0, none⟩) (n + m) cap) (n + m) (xs ++ news) ∧ g2 < w'.heap.size ∧ ((g2 = g ∧ w.grownBy w' (some g)) ∨ (g2 = w.heap.size ∧ w.grownBy w' none)) := by
  have hsmall : n + m ≤ 9223372036854775807 := by simp only [maxLen] at h63; omega
  have hlen : (xs ++ news).length = (n + m) * i.size := by rw [List.length_append, hown.1, hl, Nat.add_mul]
  rcases hown.2 with ⟨h0, _⟩ | ⟨q, cap, cur, hv, hbg, hg, hnc, hcm, hcs, htake⟩
  · cases h0
  · injection hv with hv1 hv2 hv3
    injection hv1 with hv1
    injection hv1 with hv1 _ _
    subst hv1 hv3
    by_cases hroom : n + m ≤ cap0
    · have hfit : n * i.size + news.length ≤ cur.size := by rw [hl, hcs, ← Nat.add_mul]; exact Nat.mul_le_mul_right _ hroom
      have hr := run_append_room (P := P) w t ty e i ht hi g n cap0 cur hg ad m c news hl hnews h1 hroom hfit
      refine ⟨g, cap0, _, hr, ⟨hlen, .inr ⟨g, cap0, _, rfl, Nat.zero_le _, setRow_heap w g cur _ e _ hg, hroom, hcm, ?_, ?_⟩⟩, ?_, .inl ⟨rfl, rfl, rfl, rfl, by simp, fun k _ hk => setRow_other w g k _ (fun e => hk (by simp [e]))⟩⟩
      · simp only [List.size_toArray, List.length_append, List.length_take, List.length_drop, Array.length_toList]
        omega
      · rw [htake, ← hlen]
        exact List.take_left
      · rcases Nat.lt_or_ge g w.heap.size with hlt | hge
        · simpa using hlt
        · rw [Array.getElem?_eq_none hge] at hg; cases hg
    · have holds : ∀ j u, xs[j]? = some u → w.cell? ((⟨g, 0, none⟩ : Addr).add j) = some u := hown.cells (g := g) rfl
      have hr := run_append_grow (P := P) w t ty e i z ht hi hz ⟨g, 0, none⟩ n cap0 xs hown.1 holds ad m c news hl hnews (by omega) (by omega) (growslice_fits (by omega) hbytes)
      have hge := grownCap_ge w (n + m) cap0 e
      have hcm2 : grownCap w (n + m) cap0 e ≤ maxLen := grownCap_le_maxLen w (n + m) cap0 e h63
      refine ⟨_, _, _, hr, ⟨hlen, .inr ⟨w.heap.size, _, _, rfl, Nat.zero_le _, heap_alloc_new w.drew _, hge, hcm2, ?_, ?_⟩⟩, by simp, .inr ⟨rfl, rfl, rfl, rfl, by simp, fun k hk _ => heap_alloc_old w.drew _ hk⟩⟩
      · simp only [Array.size_append, List.size_toArray, size_zeroCells, hzs, hown.1, hl, ← Nat.add_mul]
        congr 1
        omega
      · simp only [Array.toList_append, List.append_assoc]
        rw [← List.append_assoc, ← hlen]
        exact List.take_left

/-- A row grows beside a view of its first elements: the view stays. -/
theorem X_appendV {o : Oper} {s : St} {x y : Operand} {t e d id sz bytes vt : Nat} {z : Value} {m : VwM} {els0 r els2 : List (List Tr)} (ho : o.op = .call { callee := .builtin .append, args := #[x, y], argTypes := #[t, t] }) (hd : o.dst = some d) (ht : P.underlying t = some (.slice e))
    (hi : (P.info? e).map (fun i => (i.zero, i.size, i.bytes)) = some (some z, sz, bytes)) (hzs : z.cells.size = sz) (hx : s.ev x = .ow id) (he : s.ent id = some (.arr e sz (els0 ++ r))) (hy : sliceEls s (s.ev y) = some els2) (h2 : ∀ el, el ∈ els2 → el.length = sz) (hne : els2 ≠ [])
    (hlen : (els0 ++ r).length + els2.length ≤ 1099511627776) (hby : bytes ≤ 128) (hvt : s.get vt = .vw id els0 m) (hdv : d ≠ vt) : X P o s ⟨((killI id s.T).set vt (.vw id els0 m)).set d (.ow id), setE id (.arr e sz ((els0 ++ r) ++ els2)) s.E⟩ := by
  intro B w0 ok0 ok σ a w hR K Q hK
  obtain ⟨h0, hn, hs, vs, hown, hrd⟩ := hR.core.ent id _ he
  have h3 := hR.core.ev x
  rw [hx] at h3
  have h4 : a.eval x = ownVal (σ id) := h3
  obtain ⟨A, cap2, h5, _, h6⟩ := slice_read hR.core (hR.core.ev y) hy
  obtain ⟨g2, off2, sz2, vs2, hA, hs2, hrd2, hc2⟩ := h6 hne
  have hm : 0 < els2.length := List.length_pos_iff.2 hne
  have hview := hR.core.tmp vt
  rw [hvt] at hview
  obtain ⟨gv, szv, capv, v2, v3, v4, v5, v6, v7⟩ := (hview : VwOk ok (σ id) w els0 m (a.tmps.getD vt undef))
  obtain ⟨e0, he0⟩ := List.exists_mem_of_ne_nil els0 (List.length_pos_iff.1 v2)
  have hzv : szv = sz := by rw [← v5 e0 he0, hs e0 (List.mem_append_left _ he0)]
  subst hzv
  obtain ⟨gb, hgb⟩ := own_blk hown (by rw [List.length_append]; omega)
  cases hii : P.info? e with
  | none => rw [hii] at hi; simp at hi
  | some i =>
    have hi2 : i.zero = some z ∧ i.size = szv ∧ i.bytes = bytes := by rw [hii] at hi; simpa using hi
    have hl2 : vs2.length = els2.length * szv := by rw [← hrd2.len]; exact flatten_len els2 szv h2
    have hbytes : ((els0 ++ r).length + els2.length) * i.bytes ≤ 140737488355328 := by
      rw [hi2.2.2]
      have := Nat.mul_le_mul hlen hby
      omega
    obtain ⟨hiz, his, _⟩ := hi2
    subst his
    have hov : ownVal (σ id) = .slice (some ⟨gb, 0, none⟩) (els0 ++ r).length (σ id).cap := by unfold ownVal; rw [hgb, hn]; rfl
    rw [hov] at hown
    obtain ⟨g, cap, w', hrun, hown', hlt, hat⟩ := run_append_apart (P := P) w t o.type e i z ht hii hiz hzs gb (els0 ++ r).length (σ id).cap vs hown ⟨g2, off2, none⟩ els2.length cap2 vs2 hl2 (fun j u hu => by rw [add_none]; exact hc2 j u hu) hrd2.one (by unfold maxLen; omega) hbytes
    have hgrow : w.grownBy w' (some gb) := by
      rcases hat with ⟨_, h7⟩ | ⟨_, h7⟩
      · exact h7
      · exact ⟨h7.os, h7.tape, h7.output, h7.size, fun k hk _ => h7.block k hk (by simp)⟩
    have hwq : ∀ q, q < w.heap.size → q ≠ gb → w'.heap[q]? = w.heap[q]? := fun q hq hne => hgrow.block q hq (fun e1 => by injection e1 with e1; exact hne e1)
    obtain ⟨nb1, nb2⟩ := hR.core.blk id _ gb he hgb
    have hgo : g ≠ gb → w'.heap[gb]? = w.heap[gb]? := fun h7 => by
      rcases hat with ⟨h8, _⟩ | ⟨_, h8⟩
      · exact absurd h8 h7
      · exact h8.block gb nb2 (by simp)
    have hwok : ∀ q, ok q → w'.heap[q]? = w.heap[q]? := fun q hq => hwq q (hR.core.okL q hq) fun e1 => nb1 (e1 ▸ hq)
    have hok : ∀ q, ok q → ok q ∨ (g ≠ gb ∧ q = gb) := fun q hq => .inl hq
    have hsz : w.heap.size ≤ w'.heap.size := hgrow.size
    have hσ : ∀ j, j ≠ id → (fun j => if j = id then (⟨some g, (els0 ++ r).length + els2.length, cap⟩ : Loc) else σ j) j = σ j := fun j hj => by simp [hj]
    have hB : B.n ≤ gb := by
      have h7 := hR.own id _ gb he hgb
      rw [if_neg (fun hc => by cases hc)] at h7
      exact h7
    have hgB : B.n ≤ g ∧ ¬ ok g := by
      rcases hat with ⟨h7, _⟩ | ⟨h7, _⟩
      · rw [h7]; exact ⟨hB, nb1⟩
      · rw [h7]
        exact ⟨hR.base, fun hq => Nat.lt_irrefl _ (hR.core.okL _ hq)⟩
    have look := setE_look id (.arr e i.size ((els0 ++ r) ++ els2)) s.E _ he
    have hfar : ∀ j f q, j ≠ id → s.ent j = some f → (σ j).blk = some q → q ≠ g ∧ q ≠ gb := by
      intro j f q hj hf hq
      have hne2 : q ≠ gb := fun e1 => hj (hR.core.inj _ _ _ _ _ hf he (by rw [← e1]; exact hq) hgb)
      refine ⟨fun e1 => ?_, hne2⟩
      rcases hat with ⟨h7, _⟩ | ⟨h7, _⟩
      · exact hne2 (e1.trans h7)
      · have := (hR.core.blk j f q hf hq).2
        omega
    have hview2 : VwOk (fun q => ok q ∨ (g ≠ gb ∧ q = gb)) ⟨some g, (els0 ++ r).length + els2.length, cap⟩ w' els0 m (a.tmps.getD vt undef) := by
      refine ⟨gv, i.size, capv, v2, v3, v4, v5, v6, ?_⟩
      rcases v7 with v7 | ⟨v7, us, v8, v9⟩
      · have e1 : gv = gb := by rw [hgb] at v7; simpa using v7.symm
        subst e1
        by_cases hg : g = gv
        · exact .inl (by rw [hg])
        · refine .inr ⟨.inr ⟨hg, rfl⟩, vs.take els0.flatten.length, ?_, fun j u hj => ?_⟩
          · have h8 := (hrd.mono hok hwok).take els0.flatten.length
            rw [List.flatten_append, List.take_left] at h8
            exact h8
          · rw [List.getElem?_take] at hj
            split at hj
            · have h8 := (show (w.cell? ⟨gv, 0 + j, none⟩ = some u) from by
                have h9 := hown.cells (g := gv) rfl j u hj
                rw [add_none] at h9
                exact h9)
              rw [Nat.zero_add] at h8
              rw [World.cell?_of_block (w := w) (hgo hg)]
              exact h8
            · cases hj
      · refine .inr ⟨.inl v7, us, v8.mono hok hwok, fun j u hj => ?_⟩
        rw [World.cell?_of_block (w := w) (hwok gv v7)]
        exact v9 j u hj
    unfold Oper.wp execOp
    simp only [ho, resolve, invoke, builtin, Sem.run_bind, Sem.run_pure, Result.andThen_ok, List.map_toArray, List.map_cons, List.map_nil, h4, hov, h5, hA, hrun]
    show K (a.put o.dst _) w'
    rw [hd]
    refine hK _ _ (fun q => ok q ∨ (g ≠ gb ∧ q = gb)) (fun j => if j = id then ⟨some g, (els0 ++ r).length + els2.length, cap⟩ else σ j) ⟨⟨?_, fun q hq => ?_, hR.core.lib.mono hok hwok, fun u => ?_, fun j f hj => ?_, fun j f q hj hq => ?_, fun j k f1 f2 q hj hk q1 q2 => ?_⟩, hR.defers, hR.below.grown hgrow hR.base (fun k hk => by injection hk with hk; rw [← hk]; exact hB), Nat.le_trans hR.base hsz, fun q hq => .inl (hR.old q hq), fun q hq => ?_, fun j f q hj hq => ?_⟩
    · rw [size_put]
      simpa [killI_len] using hR.core.len
    · rcases hq with hq | ⟨_, hq⟩
      · exact Nat.lt_of_lt_of_le (hR.core.okL q hq) hsz
      · rw [hq]; exact Nat.lt_of_lt_of_le nb2 hsz
    · have e0 := get_put ⟨(killI id s.T).set vt (.vw id els0 m), s.E⟩ d u (.ow id)
      have e1 := get_put ⟨killI id s.T, s.E⟩ vt u (.vw id els0 m)
      have hk : St.get ⟨((killI id s.T).set vt (.vw id els0 m)).set d (.ow id), setE id (.arr e i.size ((els0 ++ r) ++ els2)) s.E⟩ u = if d = u ∧ d < s.T.length then .ow id else if vt = u ∧ vt < s.T.length then .vw id els0 m else (bif (s.get u).mid id then AV.bot else s.get u) := by
        unfold St.put St.get at e0 e1
        simp only [killI_len, killI_get, List.length_set] at e0 e1
        rw [e1] at e0
        exact e0
      rw [hk, getD_put]
      by_cases hdu : d = u ∧ d < s.T.length
      · rw [if_pos hdu, if_pos ⟨hdu.1, Nat.lt_of_lt_of_le hdu.2 hR.core.len⟩]
        show _ = ownVal _
        simp [ownVal]
      · rw [if_neg hdu]
        by_cases hd2 : d = u ∧ d < a.tmps.size
        · have hne3 : ¬ (vt = u ∧ vt < s.T.length) := fun h => hdv (hd2.1.trans h.1.symm)
          rw [if_pos hd2, if_neg hne3]
          have hb : s.get u = .bot := by
            unfold St.get
            rw [List.getElem?_eq_none (by omega)]
            rfl
          rw [hb]
          trivial
        · rw [if_neg hd2]
          by_cases hv : vt = u ∧ vt < s.T.length
          · rw [if_pos hv]
            obtain ⟨hv, _⟩ := hv
            subst hv
            show VwOk _ _ _ _ _ _
            simp only [if_true]
            exact hview2
          · rw [if_neg hv]
            cases hmm : (s.get u).mid id with
            | true => trivial
            | false => exact (hR.core.tmp u).mid id hok hwok hmm hσ
    · have h7 : (setE id (.arr e i.size ((els0 ++ r) ++ els2)) s.E).lookup j = some f := hj
      rw [look] at h7
      by_cases hji : j = id
      · rw [if_pos hji] at h7
        injection h7 with h7
        subst h7
        simp only [hji, if_true]
        refine ⟨h0, by simp only [List.length_append], fun el hel => ?_, vs ++ vs2, ?_, ?_⟩
        · rcases List.mem_append.1 hel with h8 | h8
          · exact hs el h8
          · exact h2 el h8
        · rw [List.length_append (as := els0 ++ r)]
          exact hown'
        · rw [List.flatten_append]
          exact (hrd.mono hok hwok).app (hrd2.mono hok hwok)
      · rw [if_neg hji] at h7
        simp only [hji, if_false]
        refine (hR.core.ent j f h7).mono hok hwok fun q hq => ?_
        exact hwq q (hR.core.blk j f q h7 hq).2 (hfar j f q hji h7 hq).2
    · have h7 : (setE id (.arr e i.size ((els0 ++ r) ++ els2)) s.E).lookup j = some f := hj
      rw [look] at h7
      by_cases hji : j = id
      · simp only [hji, if_true] at hq
        have hqg : g = q := by simpa using hq
        subst hqg
        exact ⟨fun h => h.elim hgB.2 fun h => h.1 h.2, hlt⟩
      · rw [if_neg hji] at h7
        simp only [hji, if_false] at hq
        obtain ⟨h8, h9⟩ := hR.core.blk j f q h7 hq
        exact ⟨fun h => h.elim h8 fun h => (hfar j f q hji h7 hq).2 h.2, Nat.lt_of_lt_of_le h9 hsz⟩
    · have h7 : (setE id (.arr e i.size ((els0 ++ r) ++ els2)) s.E).lookup j = some f1 := hj
      have h8 : (setE id (.arr e i.size ((els0 ++ r) ++ els2)) s.E).lookup k = some f2 := hk
      rw [look] at h7 h8
      by_cases hji : j = id
      · by_cases hki : k = id
        · omega
        · rw [if_neg hki] at h8
          simp only [hji, if_true] at q1
          simp only [hki, if_false] at q2
          have hqg : g = q := by simpa using q1
          subst hqg
          exact absurd rfl (hfar k f2 g hki h8 q2).1
      · rw [if_neg hji] at h7
        simp only [hji, if_false] at q1
        by_cases hki : k = id
        · simp only [hki, if_true] at q2
          have hqg : g = q := by simpa using q2
          subst hqg
          exact absurd rfl (hfar j f1 g hji h7 q1).1
        · rw [if_neg hki] at h8
          simp only [hki, if_false] at q2
          exact hR.core.inj _ _ _ _ _ h7 h8 q1 q2
    · rcases hq with hq | ⟨_, hq⟩
      · exact hR.fresh q hq
      · rw [hq]; exact .inr hB
    · have h7 : (setE id (.arr e i.size ((els0 ++ r) ++ els2)) s.E).lookup j = some f := hj
      rw [look] at h7
      by_cases hji : j = id
      · simp only [hji, if_true] at hq
        have hqg : g = q := by simpa using hq
        subst hqg
        rw [if_pos hji] at h7
        injection h7 with h7
        subst h7
        rw [if_neg (fun hc => by cases hc)]
        exact hgB.1
      · rw [if_neg hji] at h7
        simp only [hji, if_false] at hq
        exact hR.own j f q h7 hq

theorem Y0_viewM {α : Type} {c : α → List Tr} {xs : List α} {o : Oper} {s : St} {t e T sz id : Nat} {x y z : Operand} (hu : P.underlying t = some (.slice e)) (hsz : (P.info? e).map (·.size) = some sz) (ho : o.op = .slice t x none (some y) (some z))
    (hx : s.ev x = .ow id) (he : s.entc id = some (.arr T sz (xs.map c))) (hne : xs ≠ []) (hy : s.ev y = I (xs.length : Int)) (hz : s.ev z = I (xs.length : Int)) : Y0 P o s (.vw id (xs.map c) .whole) :=
  Y0_view hu hsz ho hx he (by simpa using hne) (by rw [List.length_map]; exact hy) (by rw [List.length_map]; exact hz)
theorem Y0_lenVM {α : Type} {c : α → List Tr} {xs : List α} {o : Oper} {s : St} {x : Operand} {t e : TypeId} {id : Nat} (hu : P.underlying t = some (.slice e)) (ho : o.op = .call { callee := .builtin .len, args := #[x], argTypes := #[t] }) (hx : s.ev x = .vw id (xs.map c) .whole) : Y0 P o s (I (xs.length : Int)) := by
  have h := Y0_lenV (P := P) hu ho hx
  rw [List.length_map] at h
  exact h
theorem Y0_idxVM {α : Type} {c : α → List Tr} {xs : List α} {v : α} {o : Oper} {s : St} {t e : TypeId} {x ix : Operand} {id sz : Nat} {n : Int} (hu : P.underlying t = some (.slice e)) (hsz : (P.info? e).map (·.size) = some sz) (hc : ∀ v, (c v).length = sz) (ho : o.op = .indexAddr t x ix) (hx : s.ev x = .vw id (xs.map c) .whole) (hi : s.ev ix = .c (.v (.int .i64 n)))
    (he : getI xs n = some v) : Y0 P o s (.vw id (xs.map c) (.elem n.toNat)) := by
  obtain ⟨h1, h2⟩ := getI_some he
  refine Y0_idxV hu hsz (fun el hel => ?_) ho hx hi h1 ?_
  · obtain ⟨y, _, rfl⟩ := List.mem_map.1 hel
    exact hc y
  · rw [List.length_map]
    rcases Nat.lt_or_ge n.toNat xs.length with h | h
    · exact h
    · rw [List.getElem?_eq_none h] at h2; cases h2
theorem Y0_loadVM {α : Type} {c : α → List Tr} {xs ys : List α} {v : α} {o : Oper} {s : St} {t : TypeId} {x : Operand} {m id T sz : Nat} {n : Int} (ds : List Tr) (hs : wide P t m) (ho : o.op = .load t x) (hx : s.ev x = .vw id (xs.map c) (.elem n.toNat)) (he : s.entc id = some (.arr T sz ((xs ++ ys).map c))) (hv : getI xs n = some v) (hm : (c v).length = m) (hd : c v = ds) : Y0 P o s (.ag ds) := by
  subst hd
  obtain ⟨h1, h2⟩ := getI_some hv
  exact Y0_loadV (r := ys.map c) hs ho hx (by rw [← List.map_append]; exact he) (by rw [List.getElem?_map, h2]; rfl) hm
theorem X_appendVM {α : Type} {c : α → List Tr} {xs ys zs : List α} {o : Oper} {s : St} {x y : Operand} {t e d id sz bytes : Nat} {z : Value} {m : VwM} (vt : Nat) (ho : o.op = .call { callee := .builtin .append, args := #[x, y], argTypes := #[t, t] }) (hd : o.dst = some d) (ht : P.underlying t = some (.slice e))
    (hi : (P.info? e).map (fun i => (i.zero, i.size, i.bytes)) = some (some z, sz, bytes)) (hzs : z.cells.size = sz) (hx : s.ev x = .ow id) (he : s.ent id = some (.arr e sz ((xs ++ ys).map c))) (hy : sliceEls s (s.ev y) = some (zs.map c)) (hc : ∀ v, (c v).length = sz) (hne : zs ≠ [])
    (hr : (xs ++ ys).length + zs.length ≤ 1099511627776) (hby : bytes ≤ 128) (hvt : s.get vt = .vw id (xs.map c) m) (hdv : d ≠ vt) : X P o s ⟨((killI id s.T).set vt (.vw id (xs.map c) m)).set d (.ow id), setE id (.arr e sz ((xs ++ (ys ++ zs)).map c)) s.E⟩ := by
  have h := X_appendV (P := P) (els0 := xs.map c) (r := ys.map c) (els2 := zs.map c) ho hd ht hi hzs hx (by rw [← List.map_append]; exact he) hy (fun el hel => by obtain ⟨y, _, rfl⟩ := List.mem_map.1 hel; exact hc y) (by simpa using hne)
    (by simpa using hr) hby hvt hdv
  rw [← List.map_append, ← List.map_append, List.append_assoc] at h
  exact h

/-! ### What follows of a view -/
theorem vwg_some {n : Nat} {f h : Int} {u : Unit} (hh : vwg n f h = some u) : 0 ≤ f ∧ f < n ∧ h = n := by
  unfold vwg at hh
  cases hc : (leI 0 f && (ltI f (n : Int) && eqI h (n : Int))) with
  | false => rw [hc] at hh; cases hh
  | true =>
    rw [leI_eq, ltI_eq, eqI_eq, Bool.and_eq_true, Bool.and_eq_true, decide_eq_true_iff, decide_eq_true_iff, beq_iff_eq] at hc
    exact hc
theorem vwi_some {α : Type} {xs : List α} {f t : Int} {v : α} (hh : vwi xs f t = some v) : 0 ≤ f ∧ 0 ≤ t ∧ getI xs (f + t) = some v := by
  unfold vwi at hh
  cases hc : (leI 0 f && leI 0 t) with
  | false => rw [hc] at hh; cases hh
  | true =>
    rw [hc] at hh
    rw [leI_eq, leI_eq, Bool.and_eq_true, decide_eq_true_iff, decide_eq_true_iff] at hc
    exact ⟨hc.1, hc.2, hh⟩
theorem Y0_viewF {α : Type} {c : α → List Tr} {xs : List α} {o : Oper} {s : St} {t e T sz id : Nat} {x y z : Operand} {f h : Int} {u : Unit} (hu : P.underlying t = some (.slice e)) (hsz : (P.info? e).map (·.size) = some sz) (ho : o.op = .slice t x (some y) (some z) none)
    (hx : s.ev x = .ow id) (he : s.entc id = some (.arr T sz (xs.map c))) (hy : s.ev y = I f) (hz : s.ev z = I h) (hg : vwg xs.length f h = some u) : Y0 P o s (.vw id (xs.map c) (.sub f.toNat)) :=
  Y0_of_run fun ok σ a w hC => by
    have h1 := hC.ev x
    rw [hx] at h1
    have h6 : a.eval x = ownVal (σ id) := h1
    obtain ⟨h3, hn, hs, vs, h4, h5⟩ := hC.entc id _ he
    obtain ⟨b1, b2, b3⟩ := vwg_some hg
    subst b3
    have hpos : 0 < (xs.map c).length := by rw [List.length_map]; omega
    obtain ⟨g, hg⟩ := own_blk h4 hpos
    rw [List.length_map] at hn
    have hcap : xs.length ≤ (σ id).cap := by
      rcases h4.2 with ⟨_, hv0⟩ | ⟨g2, cap, cur, hv, hb, hg2, hnc, _⟩
      · rw [List.length_map] at hv0; omega
      · unfold ownVal at hv
        injection hv with _ _ h3
        rw [List.length_map] at hnc
        omega
    refine ⟨.slice (some ⟨g, f.toNat * sz, none⟩) (xs.length - f.toNat) ((σ id).cap - f.toNat), ?_, ⟨g, sz, (σ id).cap, hpos, by rw [List.length_map]; exact hcap, h3, hs, by rw [List.length_map]; rfl, .inl hg⟩⟩
    cases hii : P.info? e with
    | none => rw [hii] at hsz; simp at hsz
    | some i =>
      have h7 : i.size = sz := by rw [hii] at hsz; simpa using hsz
      have hb : ∀ w, (Instr.sliceBounds true (σ id).n (σ id).cap (some (.int .i64 f)) (some (.int .i64 (xs.length : Int))) none).run P w = .ok (f.toNat, xs.length, (σ id).cap) w := by
        intro w
        unfold Instr.sliceBounds
        simp [run_bound (P := P) (k := .i64) (n := (xs.length : Int)) (y := (σ id).cap) (by omega) (by omega), run_bound (P := P) (k := .i64) (n := f) (y := xs.length) (by omega) (by omega)]
      have e1 : ¬ (σ id).cap = f.toNat := by omega
      unfold execOp
      rw [ho]
      simp [h6, ownVal, hg, hC.exact hy, hC.exact hz, Instr.sliceAt, Instr.slice, run_underlying hu, hb, sizeOf, typeInfo, hii, h7, e1, add_none]
theorem Y0_lenF {α : Type} {c : α → List Tr} {xs : List α} {o : Oper} {s : St} {x : Operand} {t e : TypeId} {id : Nat} {f : Int} (hu : P.underlying t = some (.slice e)) (ho : o.op = .call { callee := .builtin .len, args := #[x], argTypes := #[t] }) (hx : s.ev x = .vw id (xs.map c) (.sub f.toNat)) : Y0 P o s (I (vwl xs.length f)) :=
  Y0_of_run fun ok σ a w hC => by
    have h1 := hC.ev x
    rw [hx] at h1
    obtain ⟨g, sz, cap, h2, h3, h4, h5, h6, h7⟩ := (h1 : VwOk ok (σ id) w (xs.map c) (.sub f.toNat) (a.eval x))
    refine ⟨_, ?_, rd_int _ _ _ _⟩
    unfold execOp
    rw [ho]
    simp [resolve, invoke, builtin, h6, vwVal, Builtin.len_, run_underlying hu, goInt, vwl]
theorem Y0_idxF {α : Type} {c : α → List Tr} {xs : List α} {v : α} {o : Oper} {s : St} {t e : TypeId} {x ix : Operand} {id sz : Nat} {f n : Int} (hu : P.underlying t = some (.slice e)) (hsz : (P.info? e).map (·.size) = some sz) (hc : ∀ v, (c v).length = sz) (ho : o.op = .indexAddr t x ix) (hx : s.ev x = .vw id (xs.map c) (.sub f.toNat)) (hi : s.ev ix = .c (.v (.int .i64 n)))
    (he : vwi xs f n = some v) : Y0 P o s (.vw id (xs.map c) (.elem (f + n).toNat)) :=
  Y0_of_run fun ok σ a w hC => by
    have h1 := hC.ev x
    rw [hx] at h1
    have h2 := hC.exact hi
    obtain ⟨b1, b2, b3⟩ := vwi_some he
    obtain ⟨b4, b5⟩ := getI_some b3
    have hlt : (f + n).toNat < xs.length := by
      rcases Nat.lt_or_ge (f + n).toNat xs.length with h | h
      · exact h
      · rw [List.getElem?_eq_none h] at b5; cases b5
    obtain ⟨g, sz2, cap, g2, g3, g4, g5, g6, g7⟩ := (h1 : VwOk ok (σ id) w (xs.map c) (.sub f.toNat) (a.eval x))
    obtain ⟨e0, he0⟩ := List.exists_mem_of_ne_nil (xs.map c) (List.length_pos_iff.1 g2)
    have hz : sz2 = sz := by
      rw [← g5 e0 he0]
      obtain ⟨y, _, rfl⟩ := List.mem_map.1 he0
      exact hc y
    subst hz
    cases hii : P.info? e with
    | none => rw [hii] at hsz; simp at hsz
    | some i =>
      have h7 : i.size = sz2 := by rw [hii] at hsz; simpa using hsz
      refine ⟨.pointer (some ⟨g, (f + n).toNat * sz2, none⟩), ?_, ⟨g, sz2, cap, g2, g3, g4, g5, rfl, g7⟩⟩
      unfold execOp
      rw [ho]
      rw [List.length_map] at g6
      have hm : n < ((xs.length - f.toNat : Nat) : Int) := by omega
      have ea : f.toNat * sz2 + n.toNat * sz2 = (f + n).toNat * sz2 := by
        rw [← Nat.add_mul]
        congr 1
        omega
      simp [h2, g6, vwVal, Instr.indexAt, asIntOf, run_underlying hu, sizeOf, typeInfo, hii, h7, b2, hm, add_none, ea]
theorem Y0_loadV0 {α : Type} {c : α → List Tr} {xs : List α} {v : α} {o : Oper} {s : St} {t : TypeId} {x : Operand} {m id T sz : Nat} {f n : Int} (ds : List Tr) (hs : wide P t m) (ho : o.op = .load t x) (hx : s.ev x = .vw id (xs.map c) (.elem (f + n).toNat)) (he : s.entc id = some (.arr T sz (xs.map c))) (hv : vwi xs f n = some v) (hm : (c v).length = m) (hd : c v = ds) : Y0 P o s (.ag ds) := by
  subst hd
  obtain ⟨_, _, b3⟩ := vwi_some hv
  obtain ⟨h1, h2⟩ := getI_some b3
  exact Y0_loadV (r := []) hs ho hx (by rw [List.append_nil]; exact he) (by rw [List.getElem?_map, h2]; rfl) hm
theorem Y0_loadVF {α : Type} {c : α → List Tr} {xs ys : List α} {v : α} {o : Oper} {s : St} {t : TypeId} {x : Operand} {m id T sz : Nat} {f n : Int} (ds : List Tr) (hs : wide P t m) (ho : o.op = .load t x) (hx : s.ev x = .vw id (xs.map c) (.elem (f + n).toNat)) (he : s.entc id = some (.arr T sz ((xs ++ ys).map c))) (hv : vwi xs f n = some v) (hm : (c v).length = m) (hd : c v = ds) : Y0 P o s (.ag ds) := by
  subst hd
  obtain ⟨_, _, b3⟩ := vwi_some hv
  obtain ⟨h1, h2⟩ := getI_some b3
  exact Y0_loadV (r := ys.map c) hs ho hx (by rw [← List.map_append]; exact he) (by rw [List.getElem?_map, h2]; rfl) hm

/-! ### What is left of a row, and copying within it -/
theorem flat_drop : ∀ (els : List (List Tr)) (sz k : Nat), (∀ e, e ∈ els → e.length = sz) → (els.drop k).flatten = els.flatten.drop (k * sz)
  | [], sz, k, _ => by simp
  | e :: es, sz, 0, _ => by simp
  | e :: es, sz, k + 1, h => by
    have h1 := h e (by simp)
    rw [List.drop_succ_cons, flat_drop es sz k (fun x hx => h x (by simp [hx])), List.flatten_cons, Nat.add_mul, Nat.one_mul, Nat.add_comm, ← List.drop_drop, ← h1, List.drop_left]
theorem flat_take : ∀ (els : List (List Tr)) (sz k : Nat), (∀ e, e ∈ els → e.length = sz) → (els.take k).flatten = els.flatten.take (k * sz)
  | [], sz, k, _ => by simp
  | e :: es, sz, 0, _ => by simp
  | e :: es, sz, k + 1, h => by
    have h1 := h e (by simp)
    have e2 : (k + 1) * sz = e.length + k * sz := by rw [Nat.add_mul, h1]; omega
    rw [List.take_succ_cons, List.flatten_cons, List.flatten_cons, flat_take es sz k (fun x hx => h x (by simp [hx])), e2, List.take_length_add_append]
theorem copyL_map {α β : Type} (c : α → β) (l : List α) (k1 k2 : Nat) : (copyL l k1 k2).map c = copyL (l.map c) k1 k2 := by
  unfold copyL splice
  simp only [List.map_append, List.map_take, List.map_drop, List.length_map, List.length_take, List.length_drop]
theorem Y0_suffix {α : Type} {c : α → List Tr} {xs : List α} {o : Oper} {s : St} {t e T sz id : Nat} {x y : Operand} {l : Int} {u : Unit} (hu : P.underlying t = some (.slice e)) (hsz : (P.info? e).map (·.size) = some sz) (ho : o.op = .slice t x (some y) none none)
    (hx : s.ev x = .ow id) (he : s.entc id = some (.arr T sz (xs.map c))) (hy : s.ev y = I l) (hl : slc xs.length l (xs.length : Int) = some u) : Y0 P o s (.sf id sz l.toNat) :=
  Y0_of_run fun ok σ a w hC => by
    have h1 := hC.ev x
    rw [hx] at h1
    have h6 : a.eval x = ownVal (σ id) := h1
    obtain ⟨h3, hn, hs, vs, h4, h5⟩ := hC.entc id _ he
    obtain ⟨b1, b2, _⟩ := slc_some hl
    rw [List.length_map] at hn
    refine ⟨sfVal (σ id) sz l.toNat, ?_, rfl⟩
    cases hii : P.info? e with
    | none => rw [hii] at hsz; simp at hsz
    | some i =>
      have h7 : i.size = sz := by rw [hii] at hsz; simpa using hsz
      have hb : ∀ w, (Instr.sliceBounds true (σ id).n (σ id).cap (some (.int .i64 l)) none none).run P w = .ok (l.toNat, (σ id).n, (σ id).cap) w := by
        intro w
        unfold Instr.sliceBounds
        simp [run_bound (P := P) (k := .i64) (n := l) (y := (σ id).n) (by omega) (by omega)]
      unfold execOp
      rw [ho]
      simp only [h6, ownVal, hC.exact hy, Option.map_some, Option.map_none, Instr.sliceAt, Instr.slice, run_underlying hu, Sem.run_bind, Sem.run_pure, Result.andThen_ok, hb, sizeOf, typeInfo, hii, h7, sfVal]
      cases hq : Nat.beq (σ id).cap l.toNat with
      | true =>
        have e1 : (σ id).cap = l.toNat := Nat.eq_of_beq_eq_true hq
        simp [e1, hii, h7]
      | false =>
        have e1 : ¬ (σ id).cap = l.toNat := fun h => by rw [h, Nat.beq_refl] at hq; cases hq
        cases (σ id).blk <;> simp [e1, add_none, hii, h7]
theorem X_copyS {α : Type} {c : α → List Tr} {xs : List α} {o : Oper} {s : St} {x y : Operand} {t e d id sz T k1 k2 : Nat} (ho : o.op = .call { callee := .builtin .copy, args := #[x, y], argTypes := #[t, t] }) (hd : o.dst = some d) (hu : P.underlying t = some (.slice e))
    (hsz : (P.info? e).map (·.size) = some sz) (hx : s.ev x = .sf id sz k1) (hy : s.ev y = .sf id sz k2) (he : s.ent id = some (.arr T sz (xs.map c))) (h1 : k1 ≤ xs.length) (h2 : k2 ≤ xs.length) (hne : xs ≠ []) : X P o s ⟨s.T.set d (I (cpN xs.length k1 k2 : Nat)), setE id (.arr T sz ((copyL xs k1 k2).map c)) s.E⟩ := by
  intro B w0 ok0 ok σ a w hR K Q hK
  obtain ⟨h0, hn, hs, vs, hown, hrd⟩ := hR.core.ent id _ he
  have hx1 := hR.core.ev x
  rw [hx] at hx1
  have hx2 : a.eval x = sfVal (σ id) sz k1 := hx1
  have hy1 := hR.core.ev y
  rw [hy] at hy1
  have hy2 : a.eval y = sfVal (σ id) sz k2 := hy1
  rw [copyL_map] at hK
  have hlen : (xs.map c).length = xs.length := List.length_map ..
  have hmap : xs.map c ≠ [] := by simpa using hne
  generalize xs.map c = els at *
  rw [← hlen] at h1 h2 hK
  clear hne hlen
  have hpos : 0 < els.length := List.length_pos_iff.2 hmap
  obtain ⟨g, hg⟩ := own_blk hown hpos
  rcases hown.2 with ⟨_, hv0⟩ | ⟨g2, cap, cur, hv, hb, hgc, hnc, hcm, hcs, htake⟩
  · omega
  · have hg2 : g2 = g ∧ (σ id).cap = cap := by
      unfold ownVal at hv
      rw [hg] at hv
      injection hv with h8 _ h9
      simp at h8
      exact ⟨h8.symm, h9⟩
    obtain ⟨rfl, hcap⟩ := hg2
    have hvl : vs.length = els.length * sz := hown.1
    have hmdef : cpN els.length k1 k2 ≤ els.length - k1 ∧ cpN els.length k1 k2 ≤ els.length - k2 := ⟨Nat.min_le_right _ _, Nat.min_le_left _ _⟩
    generalize hm : cpN els.length k1 k2 = m at *
    have hms : k2 * sz + m * sz ≤ els.length * sz ∧ k1 * sz + m * sz ≤ els.length * sz := by
      rw [← Nat.add_mul, ← Nat.add_mul]
      exact ⟨Nat.mul_le_mul_right _ (by omega), Nat.mul_le_mul_right _ (by omega)⟩
    have hfit2 : els.length * sz ≤ cur.size := by rw [hcs]; exact Nat.mul_le_mul_right _ hnc
    have hcl : ((vs.drop (k2 * sz)).take (m * sz)).length = m * sz := by simp only [List.length_take, List.length_drop]; omega
    have hcells : RdL ok w (els.flatten.drop (k2 * sz) |>.take (m * sz)) ((vs.drop (k2 * sz)).take (m * sz)) := (hrd.drop _).take _
    have hread : ∀ j u, ((vs.drop (k2 * sz)).take (m * sz))[j]? = some u → w.cell? ⟨g2, k2 * sz + j, none⟩ = some u := fun j u hj => by
      rw [List.getElem?_take] at hj
      split at hj
      · rw [List.getElem?_drop] at hj
        exact own_vals hown hg _ u hj
      · cases hj
    generalize hcsd : (vs.drop (k2 * sz)).take (m * sz) = cs at *
    have hrun : (Builtin.copy_ #[t, t] o.type #[sfVal (σ id) sz k1, sfVal (σ id) sz k2]).run P w = .ok (goInt m) (w.setRow g2 (splice cur.toList (k1 * sz) cs).toArray) := by
      cases hii : P.info? e with
      | none => rw [hii] at hsz; simp at hsz
      | some i =>
        have h7 : i.size = sz := by rw [hii] at hsz; simpa using hsz
        have hmm : Nat.min (els.length - k2) (els.length - k1) = m := hm
        rcases Nat.eq_zero_or_pos m with hz | hz
        · have hcs0 : cs = [] := List.eq_nil_of_length_eq_zero (by rw [hcl, hz, Nat.zero_mul])
          have hid : w.setRow g2 (splice cur.toList (k1 * sz) []).toArray = w := by
            rw [splice_nil]
            simpa using setRow_self w g2 cur T (0, 0) hgc
          have hnn : (σ id).n = els.length := hn
          rw [hcs0, hid]
          unfold sfVal
          rw [hg, hnn]
          cases Nat.beq (σ id).cap k1 <;> cases Nat.beq (σ id).cap k2 <;> simp [Builtin.copy_, run_underlying hu, Builtin.lenOf, Builtin.firstCells, sizeOf, typeInfo, hii, h7, hmm, hz, loadCells, loadCellsFrom, storeCells]
        · have n1 : Nat.beq (σ id).cap k1 = false := by
            cases hq : Nat.beq (σ id).cap k1 with
            | false => rfl
            | true => have := Nat.eq_of_beq_eq_true hq; omega
          have n2 : Nat.beq (σ id).cap k2 = false := by
            cases hq : Nat.beq (σ id).cap k2 with
            | false => rfl
            | true => have := Nat.eq_of_beq_eq_true hq; omega
          have hl := run_loadCells_list (P := P) w ⟨g2, k2 * sz, none⟩ cs (fun j u hj => by rw [add_none]; exact hread j u hj)
          have hone : ∀ v ∈ cs, v.oneCell' = true := hcells.one
          have hst := run_storeCells_at P g2 (k1 * sz) T cs 0 cur w hgc (by rw [hcl]; omega) hone
          rw [hcl] at hl
          have hsp : cur.toList.take (k1 * sz + 0) ++ cs ++ cur.toList.drop (k1 * sz + 0 + cs.length) = splice cur.toList (k1 * sz) cs := rfl
          rw [hsp] at hst
          have hnn : (σ id).n = els.length := hn
          unfold sfVal
          rw [n1, n2, hg, hnn]
          simp [Builtin.copy_, run_underlying hu, Builtin.lenOf, Builtin.firstCells, sizeOf, typeInfo, hii, h7, hmm, hl, hst]
    unfold Oper.wp execOp
    simp only [ho, resolve, invoke, builtin, Sem.run_bind, Sem.run_pure, Result.andThen_ok, List.map_toArray, List.map_cons, List.map_nil, hx2, hy2, hrun]
    show K (a.put o.dst _) _
    rw [hd]
    have hflat : (copyL els k1 k2).flatten = splice els.flatten (k1 * sz) (els.flatten.drop (k2 * sz) |>.take (m * sz)) := by
      unfold copyL splice
      rw [hm]
      have e1 : (((els.drop k2).take m)).flatten = (els.flatten.drop (k2 * sz)).take (m * sz) := by
        rw [flat_take _ sz m (fun e he => hs e (List.mem_of_mem_drop he)), flat_drop els sz k2 hs]
      rw [List.flatten_append, List.flatten_append, flat_take els sz k1 hs, e1, flat_drop els sz _ hs]
      have e2 : (List.take m (List.drop k2 els)).length = m := by simp only [List.length_take, List.length_drop]; omega
      have e3 : (List.take (m * sz) (List.drop (k2 * sz) els.flatten)).length = m * sz := by
        simp only [List.length_take, List.length_drop, flatten_len els sz hs]; omega
      rw [e2, e3, Nat.add_mul]
    have hclen : (copyL els k1 k2).length = els.length := by
      unfold copyL
      refine splice_len _ _ _ ?_
      rw [hm]
      simp only [List.length_take, List.length_drop]
      omega
    refine hK _ _ ok σ ((hR.write he hg _ ⟨cur, T, hgc⟩ _ (setE_look id _ s.E _ he) fun hw => ?_).put (d := d) (av := I (m : Nat)) (rd_int _ _ _ _))
    have hmono : ∀ q, ok q → (w.setRow g2 (splice cur.toList (k1 * sz) cs).toArray).heap[q]? = w.heap[q]? := fun q hq => hw q fun e => (hR.core.blk id _ g2 he hg).1 (e ▸ hq)
    have hq : cur.toList.length = cur.size := Array.length_toList
    refine ⟨h0, by rw [hclen]; exact hn, fun e hm2 => ?_, splice vs (k1 * sz) cs, ⟨?_, .inr ⟨g2, cap, _, by rw [hclen]; exact hv, hb, setRow_heap w g2 cur _ T _ hgc, by rw [hclen]; exact hnc, hcm, ?_, ?_⟩⟩, ?_⟩
    · unfold copyL splice at hm2
      simp only [List.mem_append] at hm2
      rcases hm2 with (h9 | h9) | h9
      · exact hs e (List.mem_of_mem_take h9)
      · exact hs e (List.mem_of_mem_drop (List.mem_of_mem_take h9))
      · exact hs e (List.mem_of_mem_drop h9)
    · rw [splice_len _ _ _ (by rw [hvl, hcl]; omega), hvl, hclen]
    · simp only [List.size_toArray]
      rw [splice_len _ _ _ (by rw [hcl, hq]; omega), hq, hcs]
    · rw [hclen]
      show (splice cur.toList (k1 * sz) cs).take (els.length * sz) = _
      rw [splice_take _ _ _ _ (by rw [hcl]; omega) (by rw [hq]; exact hfit2), htake]
    · rw [hflat]
      exact (hrd.mono (fun _ h => h) hmono).splice _ (hcells.mono (fun _ h => h) hmono)
theorem slc_le {n : Nat} {l h : Int} {u : Unit} (hh : slc n l h = some u) : l.toNat ≤ n := by
  obtain ⟨h1, h2, h3⟩ := slc_some hh
  omega
/-- Less is known of the slot that is written. -/
theorem X_toBot {o : Oper} {s : St} {av : AV} {E : List (Nat × Ent)} (d : Nat) (h : X P o s ⟨s.T.set d av, E⟩) : X P o s ⟨s.T.set d .bot, E⟩ := by
  intro B w0 ok0 ok σ a w hR K Q hK
  refine h _ _ _ _ _ _ _ hR K Q fun a' w' ok' σ' hR' => hK a' w' ok' σ' (hR'.le ⟨by simp, fun t => ?_, fun id e he => he⟩)
  unfold St.get
  simp only [List.getElem?_set]
  by_cases hd : d = t
  · subst hd
    by_cases h2 : d < s.T.length
    · simp [h2]
    · simp [h2]
  · simp [hd]
end
end Go.Proofs.Ytafomkclmkfjeaa
