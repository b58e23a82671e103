/-
  Contracts of Go's library as calls said by trees.
  Conditions: none.
-/
import Derived.Test.YtnifkkihamgmaaaDoorShZ
import Derived.Test.YtnifkkihamgmaaaDoorShLy
import Derived.Test.YtnifkkihamgmaaaDoorRows
namespace Go.Proofs.YtnifkkihamgmaaaDoor
open Go.RowKit
theorem tab_of_lb {ok : Nat → Prop} {w : World} (h : Lb ok w) : Go.Lib.TabIs Tryd.prog w "internal/strconv.uint64pow10" .u64 Go.Lib.pow10Tab := by
  have hg : Tryd.prog.globalNamed "internal/strconv.uint64pow10" = some 1 := by kernel_rfl
  obtain ⟨_, T, fz, h2⟩ := h (1, (Go.Lib.pow10Tab.map fun z => Value.int .u64 z).toArray) (List.mem_singleton.2 rfl)
  unfold Go.Lib.TabIs World.var?
  rw [hg]
  simp only [Option.bind_some, h2]
theorem lb_of_tab {ok : Nat → Prop} {w : World} (hok : ∀ g, g < w.heap.size → ok g) (h : Go.Lib.TabIs Tryd.prog w "internal/strconv.uint64pow10" .u64 Go.Lib.pow10Tab) : Lb ok w := by
  have hg : Tryd.prog.globalNamed "internal/strconv.uint64pow10" = some 1 := by kernel_rfl
  intro p hp
  have hp2 : p = (1, (Go.Lib.pow10Tab.map fun z => Value.int .u64 z).toArray) := by simpa [TB] using hp
  subst hp2
  unfold Go.Lib.TabIs World.var? at h
  rw [hg] at h
  simp only [Option.bind_some] at h
  have key : ∀ (o : Option Obj) (cs : Array Value), (match o with | some (.cells cs _ _) => some cs | _ => none) = some cs → ∃ T fz, o = some (.cells cs T fz) := by
    intro o cs ho
    split at ho
    · rename_i cs2 T fz
      injection ho with ho
      subst ho
      exact ⟨T, fz, rfl⟩
    · cases ho
  obtain ⟨T, fz, he⟩ := key _ _ h
  refine ⟨hok _ ?_, T, fz, he⟩
  by_cases hlt : 1 < w.heap.size
  · exact hlt
  · have := Array.getElem?_eq_none (xs := w.heap) (i := 1) (by omega)
    rw [this] at he
    cases he
theorem cf_strconv_Itoa : ∀ args w, (callFunc 34 args).run Tryd.prog w = .ok (.enter 34 args) w := run_callFunc Tryd.func34 (by kernel_rfl) (by kernel_rfl)
theorem s_strconv_Itoa {n : Int} {r : ByteArray} (h : r_strconv_Itoa n = some r) : CallS Tryd.prog 34 [I n] (.c (.v (.string r))) [] :=
  CallS_itoa (fun ok w n hl h0 h1 => (Go.Proofs.Tryd.strconv_Itoa n h0 h1 w (tab_of_lb hl)).mono (by
    rintro e w' ⟨he, k, os, hw⟩
    subst hw
    refine ⟨he, rfl, rfl, rfl, ?_, fun q hq => ?_⟩
    · show w.heap.size ≤ (w.heap ++ os).size
      simp
    · show (w.heap ++ os)[q]? = w.heap[q]?
      exact Array.getElem?_append_left hq)) h
theorem cf_strings_Join : ∀ args w, (callFunc 52 args).run Tryd.prog w = .ok (.enter 52 args) w := run_callFunc Tryd.func52 (by kernel_rfl) (by kernel_rfl)
/-- A string's cells. -/
def cStr (x : ByteArray) : List Tr := [.v (.string x)]
theorem s_strings_Join {xs : List ByteArray} {sep r : ByteArray} (h : r_strings_Join xs sep = some r) : CallS Tryd.prog 52 [.c (.sl (xs.map cStr)), .c (.v (.string sep))] (.c (.v (.string r))) [] :=
  CallS_join (fun _ => rfl) (fun a c sep w => Go.Proofs.Tryd.strings_Join_none a c sep w) (fun bk o c xs sep w h1 h2 h3 h4 h5 => Go.Proofs.Tryd.strings_Join bk o c xs sep w h1 h2 h3 h4 h5) h
end Go.Proofs.YtnifkkihamgmaaaDoor
