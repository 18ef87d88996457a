/- The contract of the library's slices.SortFunc with slices.Compare at rows of ints: the rows of a row of the call's own, in another order, none behind a greater one. -/
import Derived.Test.YtkanaoebpajbfaaCmpI
import Derived.Test.YtkanaoebpajbfaaPA
import Derived.Test.YtkanaoebpajbfaaGM
import Derived.Test.YtkanaoebpajbfaaGR
namespace Go.Tok
open Go.RowKit Go.Sort Go.Proofs
/-- none stands ahead of one that is less -/
def AscC (l : List (List Int)) : Prop := ∀ i j, i < j → j < l.length → ¬ lexC (ix l j) (ix l i) < 0
theorem swo_lex {n : Nat} (f : Fin n → List Int) : SWO (ltOf fun i j => lexC (f i) (f j)) where
  irrefl x := by
    show decide (lexC (f x) (f x) < 0) = false
    rw [lex_self]; decide
  trans x y z h1 h2 := by
    have h1' : lexC (f x) (f y) < 0 := by simpa [ltOf] using h1
    have h2' : lexC (f y) (f z) < 0 := by simpa [ltOf] using h2
    have := lex_trans _ _ _ h1' h2'
    simpa [ltOf] using this
  ntrans x y z h1 h2 := by
    have h1' : ¬ lexC (f x) (f y) < 0 := by simpa [ltOf] using h1
    have h2' : ¬ lexC (f y) (f z) < 0 := by simpa [ltOf] using h2
    have := lex_ge_trans _ _ _ h1' h2'
    simpa [ltOf] using this
theorem heap_put {α : Type} [Inhabited α] {enc : α → Value} {w : World} {g n : Nat} {os : Array Obj} {cur : Array Value} {e : TypeId} {fr : Nat × Nat} (d : Array α) (hb : w.heap[g]? = some (.cells cur e fr)) :
    (sortWorld enc w g 0 n d os).heap[g]? = some (.cells (putCells enc 0 d cur) e fr) := by
  have hg : g < w.heap.size := (Array.getElem?_eq_some_iff.1 hb).1
  unfold sortWorld
  rw [heap_grow_old _ _ (by simpa using hg)]
  simp [putRow, mapBlock, Sort.ahead, Array.getElem?_modify, hb, onCells]
theorem take_put {α : Type} [Inhabited α] {enc : α → Value} (cur : Array Value) (d : Array α) (h : d.size ≤ cur.size) : (putCells enc 0 d cur).toList.take d.size = d.toList.map enc := by
  apply List.ext_getElem?
  intro j
  by_cases hj : j < d.size
  · rw [List.getElem?_take_of_lt hj, Array.getElem?_toList]
    simp [putCells, hj, show j < cur.size by omega]
  · rw [List.getElem?_take_eq_none (by omega), List.getElem?_eq_none (by simp; omega)]
theorem cellsOf_one {α : Type} : ∀ (rows : List (α × List Value)) (f : α × List Value → Value), (∀ r ∈ rows, r.2 = [f r]) → cellsOf rows = rows.map f := by
  intro rows f
  induction rows with
  | nil => intro _; rfl
  | cons r rest ih =>
    intro h
    have e : cellsOf (r :: rest) = r.2 ++ cellsOf rest := by simp [cellsOf]
    rw [e, ih (fun r' hr' => h r' (by simp [hr'])), h r (by simp)]; rfl
end Go.Tok
namespace Go.Proofs.Ytkanaoebpajbfaa
open Go.RowKit Go.Tok Go.Sort
set_option linter.unusedVariables false
theorem sortWorld_grown {α : Type} [Inhabited α] {enc : α → Value} {w : World} {g m : Nat} {d : Array α} {os : Array Obj} : w.grownBy (sortWorld enc w g 0 m d os) (some g) := by
  unfold sortWorld
  refine ⟨rfl, rfl, rfl, by simp, fun k hk hne => ?_⟩
  rw [heap_grow_old _ _ (by simpa using hk)]
  have : g ≠ k := fun e => hne (by rw [e])
  simp [putRow, mapBlock, Sort.ahead, Array.getElem?_modify, this]
end Go.Proofs.Ytkanaoebpajbfaa
