/- 'for k, v := range m' over a map known entry by entry, wherever the iterator lies; the order is whatever the tape says. No program is in sight here. -/
import Derived.Test.YtkanaoebpajbfaaPA
import Derived.Maps.RangeRun
import Derived.Maps.Range
namespace Go.Tok
open Go.RowKit
open Go.MapKept (Stamped)
open Go.ChangeMaps (setBlock)

set_option linter.unusedVariables false

/-- block r is an iterator over the map in block b, whose entries are kvs; todo are those still to come -/
def Rng (P : Program) (k : TypeId) (w : World) (b r : Nat) (kvs todo : List (Value × Value)) : Prop :=
  ∃ es clock since seen c0, w.heap[b]? = some (.map es clock) ∧ Stamped es clock ∧ es.toList.map (fun e => (e.key, e.val)) = kvs ∧ (∀ x ∈ kvs, ∃ l, keyOf P k x.1 = some l) ∧
    w.heap[r]? = some (.mapIter (some b) since seen c0) ∧ (∀ x ∈ es.toList, x.born < since) ∧ since ≤ c0 ∧ since ≤ clock ∧ (leftOf es seen).toList.map (fun e => (e.key, e.val)) = todo

section
variable {P : Program} {k t e : TypeId} {w : World} {b r : Nat} {kvs todo : List (Value × Value)}
theorem Rng.at_ (h : Rng P k w b r kvs todo) : MAt P k w b kvs := by
  obtain ⟨es, clock, since, seen, c0, h1, h2, h3, h4, _⟩ := h
  unfold MAt
  exact ⟨es, clock, h1, h2, h3, h4⟩
theorem Rng.ne (h : Rng P k w b r kvs todo) : r ≠ b := by
  obtain ⟨es, clock, since, seen, c0, h1, _, _, _, h5, _⟩ := h
  intro e
  rw [e, h1] at h5
  cases h5
theorem Rng.lt (h : Rng P k w b r kvs todo) : r < w.heap.size := by
  obtain ⟨es, clock, since, seen, c0, h1, _, _, _, h5, _⟩ := h
  exact (Array.getElem?_eq_some_iff.1 h5).1
theorem Rng.ltb (h : Rng P k w b r kvs todo) : b < w.heap.size := by
  obtain ⟨es, clock, since, seen, c0, h1, _, _, _, h5, _⟩ := h
  exact (Array.getElem?_eq_some_iff.1 h1).1
theorem Rng.grown {w' : World} {row : Option Nat} (h : Rng P k w b r kvs todo) (g : w.grownBy w' row) (hb : some b ≠ row) (hr : some r ≠ row) : Rng P k w' b r kvs todo := by
  have l1 := h.lt
  have l2 := h.ltb
  obtain ⟨es, clock, since, seen, c0, h1, h2, h3, h4, h5, h6⟩ := h
  exact ⟨es, clock, since, seen, c0, (g.block b l2 hb).trans h1, h2, h3, h4, (g.block r l1 hr).trans h5, h6⟩
theorem Rng.gr {w' : World} (h : Rng P k w b r kvs todo) (g : Gr w w') : Rng P k w' b r kvs todo := by
  have l1 := h.lt
  have l2 := h.ltb
  obtain ⟨es, clock, since, seen, c0, h1, h2, h3, h4, h5, h6⟩ := h
  exact ⟨es, clock, since, seen, c0, (g.below.block b l2).trans h1, h2, h3, h4, (g.below.block r l1).trans h5, h6⟩
theorem Rng.left_eq (h : Rng P k w b r kvs todo) : w.rangeLeft b r = todo.length := by
  obtain ⟨es, clock, since, seen, c0, hb, _, _, _, hr, _, _, _, hc⟩ := h
  simp only [World.rangeLeft, hb, hr]
  rw [← hc, List.length_map, Array.length_toList]
/-- the loop's start -/
theorem Rng.start (ht : P.underlying t = some (.map k e)) (h : MAt P k w b kvs) :
    ∃ o, (Instr.range t (.map (some b))).run P w = .ok (.pointer (some ⟨w.heap.size, 0, none⟩)) (w.alloc o) ∧ Rng P k (w.alloc o) b w.heap.size kvs kvs := by
  have hlt := h.lt
  unfold MAt at h
  obtain ⟨es, clock, hb, hs, he, hks⟩ := h
  refine ⟨.mapIter (some b) clock #[] clock, run_range_map w t k e b es clock ht hb, es, clock, clock, #[], clock, by rw [heap_alloc_old w _ hlt, hb], hs, he, hks, heap_alloc_new w _, hs.1, Nat.le_refl _, Nat.le_refl _, ?_⟩
  have : leftOf es #[] = es := by
    unfold leftOf
    exact Array.filter_eq_self.2 (fun x _ => by simp)
  rw [this]; exact he
theorem filter_one {α : Type} {f : α → Nat} : ∀ {l : List α}, (l.map f).Nodup → ∀ {x : α}, x ∈ l → ∃ l1 l2, l = l1 ++ x :: l2 ∧ l.filter (fun y => !(f y == f x)) = l1 ++ l2
  | y :: l, hn, x, hx => by
    rw [List.map_cons, List.nodup_cons] at hn
    rcases List.mem_cons.1 hx with rfl | h
    · refine ⟨[], l, rfl, ?_⟩
      rw [List.filter_cons]
      simp only [beq_self_eq_true, Bool.not_true, Bool.false_eq_true, if_false, List.nil_append]
      refine List.filter_eq_self.2 fun z hz => ?_
      have : f z ≠ f x := fun e => hn.1 (by rw [← e]; exact List.mem_map.2 ⟨z, hz, rfl⟩)
      simp [this]
    · obtain ⟨l1, l2, h1, h2⟩ := filter_one hn.2 h
      refine ⟨y :: l1, l2, by rw [h1]; rfl, ?_⟩
      have : f y ≠ f x := fun e => hn.1 (by rw [e]; exact List.mem_map.2 ⟨x, h, rfl⟩)
      rw [List.filter_cons, h2]
      simp [this]
/-- a step: nothing is left; or one entry that is left comes out, whichever -/
theorem Rng.next (h : Rng P k w b r kvs todo) (ty : TypeId) :
    (todo = [] ∧ (Instr.next (.pointer (some ⟨r, 0, none⟩)) false ty).run P w = .ok (.tuple #[.bool false]) w) ∨
    ∃ l1 x l2 w', todo = l1 ++ x :: l2 ∧ (Instr.next (.pointer (some ⟨r, 0, none⟩)) false ty).run P w = .ok (.tuple #[.bool true, x.1, x.2]) w' ∧ w.grownBy w' (some r) ∧ Rng P k w' b r kvs (l1 ++ l2) ∧ (Instr.entry (.pointer (some ⟨r, 0, none⟩))).run P w' = .ok (.tuple #[x.1, x.2]) w' := by
  have hne := h.ne
  obtain ⟨es, clock, since, seen, c0, hb, hs, he, hks, hr, hold, hsc, hcl, hleft⟩ := h
  rcases run_next_at (P := P) w ty r b since c0 seen es clock hr hb hold hsc with ⟨h1, h2⟩ | ⟨e0, h1, w1, h2, h3⟩
  · refine .inl ⟨?_, h2⟩
    rw [← hleft, Array.eq_empty_of_size_eq_zero h1]; rfl
  · right
    have hm := mem_left h1
    have hlt : r < w.heap.size := (Array.getElem?_eq_some_iff.1 hr).1
    have hw1 : w1.heap = w.heap := by rcases h2 with rfl | rfl <;> rfl
    have hL : (leftOf es (seen.push e0.born)).toList = (leftOf es seen).toList.filter (fun y => !(y.born == e0.born)) := by
      unfold leftOf
      rw [Array.toList_filter, Array.toList_filter, List.filter_filter]
      congr 1
      funext y
      rw [contains_push]
      cases seen.contains y.born <;> cases (y.born == e0.born) <;> rfl
    have hnd : ((leftOf es seen).toList.map (·.born)).Nodup := by
      unfold leftOf
      rw [Array.toList_filter]
      exact (List.Sublist.map _ List.filter_sublist).nodup hs.2.1
    obtain ⟨l1, l2, e1, e2⟩ := filter_one (f := fun y : MapEntry => y.born) hnd h1
    have hb' : (setBlock w1 r (.mapIter (some b) since (seen.push e0.born) clock)).heap[b]? = some (.map es clock) := by
      simp [setBlock, hw1, hne, hb]
    have hr' : (setBlock w1 r (.mapIter (some b) since (seen.push e0.born) clock)).heap[r]? = some (.mapIter (some b) since (seen.push e0.born) clock) := by
      simp [setBlock, hw1, hlt]
    refine ⟨l1.map (fun e => (e.key, e.val)), (e0.key, e0.val), l2.map (fun e => (e.key, e.val)), _, ?_, h3, ?_, ⟨es, clock, since, seen.push e0.born, clock, hb', hs, he, hks, hr', hold, hcl, hcl, ?_⟩, ?_⟩
    · rw [← hleft, e1]; simp
    · refine ⟨by rcases h2 with rfl | rfl <;> rfl, by rcases h2 with rfl | rfl <;> rfl, by rcases h2 with rfl | rfl <;> rfl, by simp [setBlock, hw1], fun c hc hcr => ?_⟩
      have : c ≠ r := fun e => hcr (by rw [e])
      simp [setBlock, hw1, Ne.symm this]
    · rw [hL, e2]; simp
    · exact run_entry_at _ r b since seen es clock e0 hr' hb' hm.1 hs.2.1
end
attribute [irreducible] Rng
end Go.Tok
