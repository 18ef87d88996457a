/- A map whose keys are a set and whose elements are all 1: look-up, 'm[k]++' at a new key, its length. No program is in sight here. -/
import Derived.Test.YtelfbfjegmncaaaGen
import Derived.WideKeyEntry
import Derived.Maps.Own
import Derived.DeepKeys4
namespace Go.Tok
open Go.RowKit
open Go.MapKept (Stamped)
open Go.ChangeMaps (setBlock)
open Go.WideMaps (KeyLaw)
set_option linter.unusedVariables false

/-- block b is a map with the keys xs, each once, each with element 1 -/
def MSet (P : Program) (k : TypeId) (w : World) (b : Nat) (xs : List Value) : Prop :=
  ∃ es clock, w.heap[b]? = some (.map es clock) ∧ Stamped es clock ∧ es.toList.map (·.key) = xs ∧ (∀ x ∈ xs, ∃ l, keyOf P k x = some l) ∧ ∀ e ∈ es.toList, e.val = .int .i64 1
/-- the same, and a key more, with element 0 -/
def MHalf (P : Program) (k : TypeId) (w : World) (b : Nat) (xs : List Value) (key : Value) : Prop :=
  ∃ es clock, w.heap[b]? = some (.map (es.push ⟨key, .int .i64 0, clock⟩) (clock + 1)) ∧ Stamped es clock ∧ es.toList.map (·.key) = xs ∧ (∀ x ∈ xs, ∃ l, keyOf P k x = some l) ∧ ∀ e ∈ es.toList, e.val = .int .i64 1

section
variable {P : Program} {k t e : TypeId} {w : World} {b : Nat} {xs : List Value}
theorem MSet.new (w : World) : MSet P k (w.alloc (.map #[] 0)) w.heap.size [] :=
  ⟨#[], 0, heap_alloc_new w _, MapKept.stamped_empty 0, rfl, by simp, by simp⟩
theorem MSet.lt (h : MSet P k w b xs) : b < w.heap.size := by
  obtain ⟨es, clock, hb, _⟩ := h
  exact (Array.getElem?_eq_some_iff.1 hb).1
theorem MSet.block {w' : World} (h : MSet P k w b xs) (hb : w'.heap[b]? = w.heap[b]?) : MSet P k w' b xs := by
  obtain ⟨es, clock, h1, h2⟩ := h
  exact ⟨es, clock, hb.trans h1, h2⟩
theorem MSet.gr {w' : World} (h : MSet P k w b xs) (g : Gr w w') : MSet P k w' b xs := h.block (g.below.block b h.lt)
theorem MSet.keys (h : MSet P k w b xs) : ∀ x ∈ xs, ∃ l, keyOf P k x = some l := by
  obtain ⟨_, _, _, _, _, h, _⟩ := h
  exact h
theorem MSet.nodup (h : MSet P k w b xs) : xs.Nodup := by
  obtain ⟨es, clock, _, h2, h3, _⟩ := h
  rw [← h3]; exact h2.2.2
theorem MSet.look_no (K : KeyLaw P k) (ht : P.underlying t = some (.map k e)) (hz : ∀ u : World, (zeroValue e).run P u = .ok (.int .i64 0) u) (h : MSet P k w b xs) {key : Value} {l : Lit} (hk : keyOf P k key = some l) (hn : key ∉ xs) :
    (Instr.lookup t (.map (some b)) key false).run P w = .ok (.int .i64 0) w := by
  obtain ⟨es, clock, hb, hs, rfl, hks, hv⟩ := h
  rcases K.find w hk es.toList (fun x hx => hks _ (List.mem_map.2 ⟨x, hx, rfl⟩)) with ⟨h1, h2⟩ | ⟨j, e0, h1, h2, h3⟩
  · simp [Instr.lookup, run_underlying ht, MapKept.run_getObj_map hb, K.check w _ hk, h1, hz, Result.andThen]
  · exact absurd (List.mem_map.2 ⟨e0, List.mem_of_getElem? h2, h3⟩) hn
theorem MSet.look_yes (K : KeyLaw P k) (ht : P.underlying t = some (.map k e)) (h : MSet P k w b xs) {key : Value} {l : Lit} (hk : keyOf P k key = some l) (hn : key ∈ xs) :
    (Instr.lookup t (.map (some b)) key false).run P w = .ok (.int .i64 1) w := by
  obtain ⟨es, clock, hb, hs, rfl, hks, hv⟩ := h
  rcases K.find w hk es.toList (fun x hx => hks _ (List.mem_map.2 ⟨x, hx, rfl⟩)) with ⟨h1, h2⟩ | ⟨j, e0, h1, h2, h3⟩
  · obtain ⟨x, hx, hxk⟩ := List.mem_map.1 hn
    exact absurd hxk (h2 x hx)
  · simp [Instr.lookup, run_underlying ht, MapKept.run_getObj_map hb, K.check w _ hk, h1, hv e0 (List.mem_of_getElem? h2), Result.andThen]
/-- only block b has turned -/
def OnlyAt (b : Nat) (w w' : World) : Prop := w'.os = w.os ∧ w'.tape = w.tape ∧ w'.output = w.output ∧ w'.heap.size = w.heap.size ∧ ∀ c, c ≠ b → w'.heap[c]? = w.heap[c]?
theorem onlyAt_set (w : World) (b : Nat) (o : Obj) : OnlyAt b w (setBlock w b o) :=
  ⟨rfl, rfl, rfl, by simp [setBlock], fun c hc => by simp [setBlock, Ne.symm hc]⟩
theorem OnlyAt.trans {a c : World} (h : OnlyAt b a w) (k : OnlyAt b w c) : OnlyAt b a c :=
  ⟨k.1.trans h.1, k.2.1.trans h.2.1, k.2.2.1.trans h.2.2.1, k.2.2.2.1.trans h.2.2.2.1, fun x hx => (k.2.2.2.2 x hx).trans (h.2.2.2.2 x hx)⟩
/-- 'm[k]++' at a new key, its first half: the entry is laid with 0 -/
theorem MSet.entry (K : KeyLaw P k) (ht : P.underlying t = some (.map k e)) (hz : ∀ u : World, (zeroValue e).run P u = .ok (.int .i64 0) u) (h : MSet P k w b xs) {key : Value} {l : Lit} (hk : keyOf P k key = some l) (hn : key ∉ xs) :
    ∃ (st : Nat) (w1 : World), (Instr.mapEntry t (.map (some b)) key).run P w = .ok (.tuple #[.int .i64 0, goInt st]) w1 ∧ OnlyAt b w w1 ∧ (Instr.lookup t (.map (some b)) key false).run P w1 = .ok (.int .i64 0) w1 ∧
      ∀ w2 : World, w2.heap[b]? = w1.heap[b]? → ∃ w3, (Instr.entryStore t (.map (some b)) (goInt st) (.int .i64 1)).run P w2 = .ok () w3 ∧ OnlyAt b w2 w3 ∧ MSet P k w3 b (xs ++ [key]) := by
  obtain ⟨es, clock, hb, hs, rfl, hks, hv⟩ := h
  have hlt : b < w.heap.size := (Array.getElem?_eq_some_iff.1 hb).1
  have hkeys : ∀ x ∈ es.toList, ∃ l, keyOf P k x.key = some l := fun x hx => hks _ (List.mem_map.2 ⟨x, hx, rfl⟩)
  rcases K.find w hk es.toList hkeys with ⟨h1, h2⟩ | ⟨j, e0, h1, h2, h3⟩
  case inr => exact absurd (List.mem_map.2 ⟨e0, List.mem_of_getElem? h2, h3⟩) hn
  have hb1 : (setBlock w b (.map (es.push ⟨key, .int .i64 0, clock⟩) (clock + 1))).heap[b]? = some (.map (es.push ⟨key, .int .i64 0, clock⟩) (clock + 1)) := by
    simp [setBlock, hlt]
  refine ⟨clock, setBlock w b (.map (es.push ⟨key, .int .i64 0, clock⟩) (clock + 1)), ?_, onlyAt_set _ _ _, ?_, fun w2 hw2 => ⟨setBlock w2 b (.map (es.push ⟨key, .int .i64 1, clock⟩) (clock + 1)), ?_, onlyAt_set _ _ _, ?_⟩⟩
  · simp [Instr.mapEntry, run_underlying ht, MapKept.run_getObj_map hb, K.check w false hk, h1, hz, MapKept.run_setObj_map _ hb, Result.andThen, setBlock]
  · rcases K.find (setBlock w b (.map (es.push ⟨key, .int .i64 0, clock⟩) (clock + 1))) hk (es.push ⟨key, .int .i64 0, clock⟩).toList (fun x hx => by
      rw [Array.toList_push, List.mem_append] at hx
      rcases hx with hx | hx
      · exact hkeys x hx
      · rw [List.mem_singleton.1 hx]; exact ⟨l, hk⟩) with ⟨h3, h4⟩ | ⟨j, e0, h3, h4, h5⟩
    · exact absurd rfl (h4 ⟨key, .int .i64 0, clock⟩ (by simp))
    · have he : e0.val = .int .i64 0 := by
        have hm := List.mem_of_getElem? h4
        rw [Array.toList_push, List.mem_append] at hm
        rcases hm with hm | hm
        · exact absurd h5 (h2 e0 hm)
        · rw [List.mem_singleton.1 hm]
      rw [Array.toList_push] at h3
      simp [Instr.lookup, run_underlying ht, MapKept.run_getObj_map hb1, K.check _ _ hk, h3, he, Result.andThen]
  · rw [hb1] at hw2
    have hidx : (es.push ⟨key, .int .i64 0, clock⟩).findIdx? (fun e => ((e.born : Nat) : Int) == ((clock : Nat) : Int)) = some es.size := by
      rw [WideElems.findIdx_arr]
      have := WideElems.findIdx_born (l := (es.push ⟨key, .int .i64 0, clock⟩).toList) (j := es.size) (e0 := ⟨key, .int .i64 0, clock⟩) (by
        simp only [Array.toList_push, List.map_append, List.map_cons, List.map_nil]
        refine List.nodup_append.2 ⟨hs.2.1, by simp, fun a ha c hc e1 => ?_⟩
        simp only [List.mem_singleton] at hc
        obtain ⟨x, hx, rfl⟩ := List.mem_map.1 ha
        have := hs.1 x hx
        omega) (by simp)
      exact this
    have hmod : (es.push ⟨key, .int .i64 0, clock⟩).modify es.size (fun e => { e with val := .int .i64 1 }) = es.push ⟨key, .int .i64 1, clock⟩ := by
      apply Array.ext'
      rw [Array.toList_modify, Array.toList_push, Array.toList_push, ← Array.length_toList, WideElems.modify_last]
    simp [Instr.entryStore, MapKept.run_getObj_map hw2, asInt, asIntOf, goInt, hidx, hmod, MapKept.run_setObj_map _ hw2, Result.andThen, setBlock]
  · have hlt2 : b < w2.heap.size := by
      rw [hb1] at hw2
      exact (Array.getElem?_eq_some_iff.1 hw2).1
    refine ⟨es.push ⟨key, .int .i64 1, clock⟩, clock + 1, by simp [setBlock, hlt2], ⟨?_, ?_, ?_⟩, by simp, ?_, ?_⟩
    · intro x hx
      rw [Array.toList_push, List.mem_append] at hx
      rcases hx with hx | hx
      · have := hs.1 x hx; omega
      · rw [List.mem_singleton.1 hx]; exact Nat.lt_succ_self _
    · simp only [Array.toList_push, List.map_append, List.map_cons, List.map_nil]
      refine List.nodup_append.2 ⟨hs.2.1, by simp, fun a ha c hc e1 => ?_⟩
      simp only [List.mem_singleton] at hc
      obtain ⟨x, hx, rfl⟩ := List.mem_map.1 ha
      have := hs.1 x hx
      omega
    · simp only [Array.toList_push, List.map_append, List.map_cons, List.map_nil]
      refine List.nodup_append.2 ⟨hs.2.2, by simp, fun a ha c hc e1 => ?_⟩
      simp only [List.mem_singleton] at hc
      subst hc e1
      exact hn ha
    · intro x hx
      rcases List.mem_append.1 hx with h3 | h3
      · exact hks x h3
      · rw [List.mem_singleton.1 h3]; exact ⟨l, hk⟩
    · intro x hx
      rw [Array.toList_push, List.mem_append] at hx
      rcases hx with hx | hx
      · exact hv x hx
      · rw [List.mem_singleton.1 hx]
end
end Go.Tok
