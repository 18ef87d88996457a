/- A map known entry by entry, in the order in which its keys came: look-up, 'v, ok :=', a store at a new key, a store at a key that is there, '++'. No program is in sight here. -/
import Derived.Test.YtelfbfjegmncaaaMSet
import Derived.Test.YtelfbfjegmncaaaStep
namespace Go.Tok
open Go.RowKit
open Go.MapKept (Stamped)
open Go.ChangeMaps (setBlock)

set_option linter.unusedVariables false

theorem OnlyAt.grown {a c : World} {b : Nat} (h : OnlyAt b a c) : a.grownBy c (some b) := ⟨h.1, h.2.1, h.2.2.1, Nat.le_of_eq h.2.2.2.1.symm, fun x hx hne => h.2.2.2.2 x (fun e => hne (by rw [e]))⟩
/-- block b is a map with just these entries -/
def MAt (P : Program) (k : TypeId) (w : World) (b : Nat) (kvs : List (Value × Value)) : Prop :=
  ∃ es clock, w.heap[b]? = some (.map es clock) ∧ Stamped es clock ∧ es.toList.map (fun e => (e.key, e.val)) = kvs ∧ ∀ x ∈ kvs, ∃ l, keyOf P k x.1 = some l

section
variable {P : Program} {k t e : TypeId} {w : World} {b : Nat} {kvs : List (Value × Value)}
theorem MAt.new (w : World) : MAt P k (w.alloc (.map #[] 0)) w.heap.size [] := ⟨#[], 0, heap_alloc_new w _, MapKept.stamped_empty 0, rfl, by simp⟩
theorem MAt.lt (h : MAt P k w b kvs) : b < w.heap.size := by
  obtain ⟨es, clock, hb, _⟩ := h
  exact (Array.getElem?_eq_some_iff.1 hb).1
theorem MAt.block {w' : World} (h : MAt P k w b kvs) (hb : w'.heap[b]? = w.heap[b]?) : MAt P k w' b kvs := by
  obtain ⟨es, clock, h1, h2⟩ := h
  exact ⟨es, clock, hb.trans h1, h2⟩
theorem MAt.gr {w' : World} (h : MAt P k w b kvs) (g : Gr w w') : MAt P k w' b kvs := h.block (g.below.block b h.lt)
theorem MAt.grown {w' : World} {row : Option Nat} (h : MAt P k w b kvs) (g : w.grownBy w' row) (hne : some b ≠ row) : MAt P k w' b kvs := h.block (g.block b h.lt hne)
theorem MAt.set {a : Addr} (h : MAt P k w b kvs) (hne : b ≠ a.block) (u : Value) : MAt P k (w.setCell a u) b kvs := h.block (Below.heap_setCell w a u b hne)
theorem MAt.nodup (h : MAt P k w b kvs) : (kvs.map (·.1)).Nodup := by
  obtain ⟨es, clock, _, h2, h3, _⟩ := h
  rw [← h3, List.map_map]; exact h2.2.2
theorem MAt.keys (h : MAt P k w b kvs) : ∀ x ∈ kvs, ∃ l, keyOf P k x.1 = some l := by
  obtain ⟨_, _, _, _, _, h⟩ := h
  exact h
theorem nodup_vals {l : List (Value × Value)} (h : (l.map (·.1)).Nodup) {x v v' : Value} (h1 : (x, v) ∈ l) (h2 : (x, v') ∈ l) : v = v' := by
  induction l with
  | nil => simp at h1
  | cons y r ih =>
    rw [List.map_cons, List.nodup_cons] at h
    rcases List.mem_cons.1 h1 with h3 | h3 <;> rcases List.mem_cons.1 h2 with h4 | h4
    · rw [← h3] at h4; exact (Prod.mk.inj h4).2.symm
    · exact absurd (List.mem_map.2 ⟨_, h4, by rw [← h3]⟩) h.1
    · exact absurd (List.mem_map.2 ⟨_, h3, by rw [← h4]⟩) h.1
    · exact ih h.2 h3 h4
theorem MAt.find (K : Go.Maps.Keyed P k) {es : Array MapEntry} {clock : Nat} (hs : Stamped es clock) (he : es.toList.map (fun e => (e.key, e.val)) = kvs) (hks : ∀ x ∈ kvs, ∃ l, keyOf P k x.1 = some l) {key : Value} {l : Lit} (hk : keyOf P k key = some l) :
    ((Instr.findKey k key es.toList).run P w = .ok none w ∧ ∀ x ∈ kvs, x.1 ≠ key) ∨ ∃ j v, (Instr.findKey k key es.toList).run P w = .ok (some (j, v)) w ∧ (key, v) ∈ kvs ∧ ∃ e0, es[j]? = some e0 ∧ e0.key = key ∧ e0.val = v := by
  rcases K.find w hk es.toList (fun x hx => hks (x.key, x.val) (by rw [← he]; exact List.mem_map.2 ⟨x, hx, rfl⟩)) with ⟨h1, h2⟩ | ⟨j, e0, h1, h2, h3⟩
  · refine .inl ⟨h1, fun x hx => ?_⟩
    rw [← he] at hx
    obtain ⟨y, hy, rfl⟩ := List.mem_map.1 hx
    exact h2 y hy
  · refine .inr ⟨j, e0.val, h1, ?_, e0, by rw [← Array.getElem?_toList]; exact h2, h3, rfl⟩
    rw [← he]; exact List.mem_map.2 ⟨e0, List.mem_of_getElem? h2, by rw [h3]⟩
section
variable {z : Value}
theorem MAt.look_no (K : Go.Maps.Keyed P k) (ht : P.underlying t = some (.map k e)) (hz : ∀ u : World, (zeroValue e).run P u = .ok z u) (h : MAt P k w b kvs) {key : Value} {l : Lit} (hk : keyOf P k key = some l) (hn : ∀ x ∈ kvs, x.1 ≠ key) :
    (Instr.lookup t (.map (some b)) key false).run P w = .ok z w := by
  obtain ⟨es, clock, hb, hs, he, hks⟩ := h
  rcases MAt.find (w := w) K hs he hks hk with ⟨h1, _⟩ | ⟨j, v, _, h2, _⟩
  · simp [Instr.lookup, run_underlying ht, MapKept.run_getObj_map hb, K.check w _ hk, h1, hz, Result.andThen]
  · exact absurd rfl (hn _ h2)
theorem MAt.look_no_ok (K : Go.Maps.Keyed P k) (ht : P.underlying t = some (.map k e)) (hz : ∀ u : World, (zeroValue e).run P u = .ok z u) (h : MAt P k w b kvs) {key : Value} {l : Lit} (hk : keyOf P k key = some l) (hn : ∀ x ∈ kvs, x.1 ≠ key) :
    (Instr.lookup t (.map (some b)) key true).run P w = .ok (.tuple #[z, .bool false]) w := by
  obtain ⟨es, clock, hb, hs, he, hks⟩ := h
  rcases MAt.find (w := w) K hs he hks hk with ⟨h1, _⟩ | ⟨j, v, _, h2, _⟩
  · simp [Instr.lookup, run_underlying ht, MapKept.run_getObj_map hb, K.check w _ hk, h1, hz, Result.andThen]
  · exact absurd rfl (hn _ h2)
end
theorem MAt.look_yes (K : Go.Maps.Keyed P k) (ht : P.underlying t = some (.map k e)) (h : MAt P k w b kvs) {key v : Value} {l : Lit} (hk : keyOf P k key = some l) (hm : (key, v) ∈ kvs) :
    (Instr.lookup t (.map (some b)) key false).run P w = .ok v w := by
  have hnd := h.nodup
  obtain ⟨es, clock, hb, hs, he, hks⟩ := h
  rcases MAt.find (w := w) K hs he hks hk with ⟨_, h1⟩ | ⟨j, v', h1, h2, _⟩
  · exact absurd rfl (h1 _ hm)
  · have := nodup_vals hnd hm h2
    subst this
    simp [Instr.lookup, run_underlying ht, MapKept.run_getObj_map hb, K.check w _ hk, h1, Result.andThen]
theorem MAt.look_yes_ok (K : Go.Maps.Keyed P k) (ht : P.underlying t = some (.map k e)) (h : MAt P k w b kvs) {key v : Value} {l : Lit} (hk : keyOf P k key = some l) (hm : (key, v) ∈ kvs) :
    (Instr.lookup t (.map (some b)) key true).run P w = .ok (.tuple #[v, .bool true]) w := by
  have hnd := h.nodup
  obtain ⟨es, clock, hb, hs, he, hks⟩ := h
  rcases MAt.find (w := w) K hs he hks hk with ⟨_, h1⟩ | ⟨j, v', h1, h2, _⟩
  · exact absurd rfl (h1 _ hm)
  · have := nodup_vals hnd hm h2
    subst this
    simp [Instr.lookup, run_underlying ht, MapKept.run_getObj_map hb, K.check w _ hk, h1, Result.andThen]

theorem MAt.pushed {es : Array MapEntry} {clock : Nat} (hs : Stamped es clock) (he : es.toList.map (fun e => (e.key, e.val)) = kvs) (hks : ∀ x ∈ kvs, ∃ l, keyOf P k x.1 = some l) {key val : Value} {l : Lit} (hk : keyOf P k key = some l) (hn : ∀ x ∈ kvs, x.1 ≠ key) {w' : World} (hb : w'.heap[b]? = some (.map (es.push ⟨key, val, clock⟩) (clock + 1))) :
    MAt P k w' b (kvs ++ [(key, val)]) := by
  refine ⟨_, _, hb, ⟨?_, ?_, ?_⟩, by simp [he], ?_⟩
  · intro x hx
    rw [Array.toList_push, List.mem_append] at hx
    rcases hx with hx | hx
    · have := hs.1 x hx; omega
    · rw [List.mem_singleton.1 hx]; exact Nat.lt_succ_self _
  · simp only [Array.toList_push, List.map_append, List.map_cons, List.map_nil]
    refine List.nodup_append.2 ⟨hs.2.1, by simp, fun a ha c hc e1 => ?_⟩
    simp only [List.mem_singleton] at hc
    obtain ⟨x, hx, rfl⟩ := List.mem_map.1 ha
    have := hs.1 x hx
    omega
  · simp only [Array.toList_push, List.map_append, List.map_cons, List.map_nil]
    refine List.nodup_append.2 ⟨hs.2.2, by simp, fun a ha c hc e1 => ?_⟩
    simp only [List.mem_singleton] at hc
    obtain ⟨x, hx, rfl⟩ := List.mem_map.1 ha
    exact hn (x.key, x.val) (by rw [← he]; exact List.mem_map.2 ⟨x, hx, rfl⟩) (by rw [← hc, ← e1])
  · intro x hx
    rcases List.mem_append.1 hx with h3 | h3
    · exact hks x h3
    · rw [List.mem_singleton.1 h3]; exact ⟨l, hk⟩
/-- 'm[k] = v' at a new key -/
theorem MAt.store_new (K : Go.Maps.Keyed P k) (ht : P.underlying t = some (.map k e)) (h : MAt P k w b kvs) {key : Value} (val : Value) {l : Lit} (hk : keyOf P k key = some l) (hn : ∀ x ∈ kvs, x.1 ≠ key) :
    ∃ w', (Instr.mapUpdate t (.map (some b)) key val).run P w = .ok () w' ∧ OnlyAt b w w' ∧ MAt P k w' b (kvs ++ [(key, val)]) := by
  have hlt := h.lt
  obtain ⟨es, clock, hb, hs, he, hks⟩ := h
  rcases MAt.find (w := w) K hs he hks hk with ⟨h1, _⟩ | ⟨j, v, _, h2, _⟩
  case inr => exact absurd rfl (hn _ h2)
  refine ⟨setBlock w b (.map (es.push ⟨key, val, clock⟩) (clock + 1)), ?_, onlyAt_set _ _ _, MAt.pushed hs he hks hk hn (by simp [setBlock, hlt])⟩
  simp [Instr.mapUpdate, run_underlying ht, MapKept.run_getObj_map hb, K.check w false hk, h1, MapKept.run_setObj_map _ hb, Result.andThen, setBlock]
end

section
variable {P : Program} {k t e : TypeId} {w : World} {b : Nat} {kvs : List (Value × Value)}
theorem MAt.store_fn (K : Go.Maps.Keyed P k) (ht : P.underlying t = some (.map k e)) (h : MAt P k w b kvs) {key : Value} (val : Value) {l : Lit} (hk : keyOf P k key = some l) (hn : ∀ x ∈ kvs, x.1 ≠ key) :
    ∃ f : World → World, ∀ w', Gr w w' → (Instr.mapUpdate t (.map (some b)) key val).run P w' = .ok () (f w') ∧ OnlyAt b w' (f w') ∧ MAt P k (f w') b (kvs ++ [(key, val)]) := by
  have H : ∀ w', ∃ w2, Gr w w' → (Instr.mapUpdate t (.map (some b)) key val).run P w' = .ok () w2 ∧ OnlyAt b w' w2 ∧ MAt P k w2 b (kvs ++ [(key, val)]) := fun w' => by
    by_cases g : Gr w w'
    · obtain ⟨w2, h1⟩ := (h.gr g).store_new K ht val hk hn
      exact ⟨w2, fun _ => h1⟩
    · exact ⟨w', fun g' => absurd g' g⟩
  exact ⟨fun w' => Classical.choose (H w'), fun w' => Classical.choose_spec (H w')⟩
end
/-- the entries, that at key set to v -/
def putAt (kvs : List (Value × Value)) (j : Nat) (v : Value) : List (Value × Value) := kvs.modify j fun x => (x.1, v)
section
variable {P : Program} {k t e : TypeId} {w : World} {b : Nat} {kvs : List (Value × Value)}
theorem MAt.changed {es : Array MapEntry} {clock : Nat} (hs : Stamped es clock) (he : es.toList.map (fun e => (e.key, e.val)) = kvs) (hks : ∀ x ∈ kvs, ∃ l, keyOf P k x.1 = some l) (j : Nat) (f : MapEntry → MapEntry) (val : Value) (hf : ∀ e0, es[j]? = some e0 → (f e0).key = e0.key ∧ (f e0).val = val ∧ (f e0).born = e0.born) {w' : World} (hb : w'.heap[b]? = some (.map (es.modify j f) clock)) :
    MAt P k w' b (putAt kvs j val) := by
  have hl : ∀ i, (es.modify j f).toList[i]? = (es.toList[i]?).map fun x => if j = i then f x else x := by
    intro i
    rw [Array.toList_modify, List.getElem?_modify]
    cases es.toList[i]? with
    | none => rfl
    | some x => by_cases h : j = i <;> simp [h]
  have hsame : ∀ {β : Type} (g : MapEntry → β), (∀ e0, es[j]? = some e0 → g (f e0) = g e0) → (es.modify j f).toList.map g = es.toList.map g := by
    intro β g hg
    apply List.ext_getElem?
    intro i
    rw [List.getElem?_map, List.getElem?_map, hl]
    cases h : es.toList[i]? with
    | none => rfl
    | some x =>
      by_cases hji : j = i
      · subst hji; simp [hg x (by rw [← Array.getElem?_toList]; exact h)]
      · simp [hji]
  have hborn := hsame (·.born) fun e0 h => (hf e0 h).2.2
  have hkey := hsame (·.key) fun e0 h => (hf e0 h).1
  have hkv : (es.modify j f).toList.map (fun e => (e.key, e.val)) = putAt kvs j val := by
    apply List.ext_getElem?
    intro i
    unfold putAt
    rw [List.getElem?_map, hl, List.getElem?_modify, ← he, List.getElem?_map]
    cases h : es.toList[i]? with
    | none => simp
    | some x =>
      by_cases hji : j = i
      · subst hji
        obtain ⟨h1, h2, _⟩ := hf x (by rw [← Array.getElem?_toList]; exact h)
        simp [h1, h2]
      · simp [hji]
  refine ⟨_, _, hb, ⟨fun x hx => ?_, ?_, ?_⟩, hkv, fun x hx => ?_⟩
  · have : x.born ∈ (es.modify j f).toList.map (·.born) := List.mem_map.2 ⟨x, hx, rfl⟩
    rw [hborn] at this
    obtain ⟨y, hy, h1⟩ := List.mem_map.1 this
    rw [← h1]; exact hs.1 y hy
  · rw [hborn]; exact hs.2.1
  · rw [hkey]; exact hs.2.2
  · have hx1 : x.1 ∈ (putAt kvs j val).map (·.1) := List.mem_map.2 ⟨x, hx, rfl⟩
    rw [← hkv, List.map_map] at hx1
    have hx2 : x.1 ∈ (es.modify j f).toList.map (·.key) := hx1
    rw [hkey] at hx2
    obtain ⟨y, hy, h1⟩ := List.mem_map.1 hx2
    rw [← h1]
    exact hks (y.key, y.val) (by rw [← he]; exact List.mem_map.2 ⟨y, hy, rfl⟩)
/-- 'm[k] = v' at a key that is there -/
theorem MAt.store_old (K : Go.Maps.Keyed P k) (ht : P.underlying t = some (.map k e)) (h : MAt P k w b kvs) {key v : Value} (val : Value) {l : Lit} (hk : keyOf P k key = some l) (hm : (key, v) ∈ kvs) :
    ∃ w' j, (Instr.mapUpdate t (.map (some b)) key val).run P w = .ok () w' ∧ OnlyAt b w w' ∧ kvs[j]? = some (key, v) ∧ MAt P k w' b (putAt kvs j val) := by
  have hlt := h.lt
  have hnd := h.nodup
  obtain ⟨es, clock, hb, hs, he, hks⟩ := h
  rcases MAt.find (w := w) K hs he hks hk with ⟨_, h1⟩ | ⟨j, v', h1, h2, e0, h3, h4, h5⟩
  · exact absurd rfl (h1 _ hm)
  have := nodup_vals hnd hm h2
  subst this
  refine ⟨setBlock w b (.map (es.modify j fun e => { e with key := key, val := val }) clock), j, ?_, onlyAt_set _ _ _, ?_, MAt.changed hs he hks j (fun e => { e with key := key, val := val }) val (fun e1 h6 => ⟨by rw [h3] at h6; cases h6; exact h4.symm, rfl, rfl⟩) (by simp [setBlock, hlt])⟩
  · have hst := K.stays w hk
    simp [Instr.mapUpdate, run_underlying ht, MapKept.run_getObj_map hb, K.check w false hk, h1, h3, h4, hst, MapKept.run_setObj_map _ hb, Result.andThen, setBlock]
  · rw [← he, List.getElem?_map, Array.getElem?_toList, h3]
    simp [h4, h5]
end

/-! ### laws at the operation, for regions that draw their order -/
section
variable {P : Program} {k t e : TypeId} {w : World} {b : Nat} {kvs : List (Value × Value)} {ops : Array Oper} {o : Oper} {a : Act} {KK : Act → World → Prop} {Q : Exit → Act → World → Prop} {E : Prop}
theorem step_map_new (K : Go.Maps.Keyed P k) (ht : P.underlying t = some (.map k e)) (hgd : o.guard = none) (m x v : Operand) (ho : o.op = Op.mapUpdate t m x v) (key val : Value) (l : Lit) (hm : a.eval m = .map (some b)) (hx : a.eval x = key) (hv : a.eval v = val)
    (h : MAt P k w b kvs) (hk : keyOf P k key = some l) (hn : ∀ x ∈ kvs, x.1 ≠ key) (hK : ∀ w', OnlyAt b w w' → MAt P k w' b (kvs ++ [(key, val)]) → KK (a.put o.dst undef) w') :
    if Region.wanted o (yielded ops a.tmps) = true then Oper.wp P o a w KK Q else E := by
  have hw : Region.wanted o (yielded ops a.tmps) = true := by simp [Region.wanted, hgd]
  rw [if_pos hw]
  obtain ⟨w', hrun, r1, r2⟩ := h.store_new K ht val hk hn
  unfold Oper.wp
  simp [execOp, ho, hm, hx, hv, hrun, Result.andThen]
  exact hK w' r1 r2
end
attribute [irreducible] MAt
end Go.Tok
