/- Rows that a literal laid: a block that holds their cells reads as them. No program is in sight here. -/
import Derived.Test.YtkanaoebpajbfaaPA
namespace Go.Tok
open Go.RowKit
set_option linter.unusedVariables false
/-- a block of ints reads as them -/
theorem Ints.blkl {w : World} {b n : Nat} {t : TypeId} {cs : Array Value} {xs : List Int} (h : Blk w b t cs) (hn : n = xs.length) (hcs : cs.toList = xs.map (Value.int .i64)) (hI : ∀ x ∈ xs, I64 x) (hl : xs.length ≤ 1000) : Ints w (.slice (some ⟨b, 0, none⟩) n n) xs := by
  subst hn
  refine Ints.intro rfl (Nat.le_refl _) (by unfold maxLen; omega) hI (fun e => by cases e) fun i hi => ⟨b, 0, rfl, ?_⟩
  rw [Nat.zero_add]
  refine h.cell ?_
  rw [nth_lt hi, ← Array.getElem?_toList, hcs]
  simp [hi]
/-- a block of transitions reads as them -/
theorem TransR.blkl {w : World} {b n : Nat} {t : TypeId} {cs : Array Value} {ts : List TranD} (h : Blk w b t cs) (hn : n = ts.length) (hl : ts.length ≤ 1000)
    (hc : ∀ i, i < ts.length → ∃ vp vq, cs[i * 3]? = some (.int .i64 (ts.getD i default).label) ∧ cs[i * 3 + 1]? = some vp ∧ cs[i * 3 + 2]? = some vq ∧ I64 (ts.getD i default).label ∧ Ints w vp (ts.getD i default).pre ∧ Ints w vq (ts.getD i default).post) :
    TransR w (.slice (some ⟨b, 0, none⟩) n n) ts := by
  subst hn
  refine TransR.intro (ts := ts) rfl (Nat.le_refl _) (by unfold maxLen; omega) fun i hi => ?_
  obtain ⟨vp, vq, h0, h1, h2, h3, h4, h5⟩ := hc i hi
  exact ⟨b, 0, vp, vq, rfl, by rw [Nat.zero_add]; exact h.cell h0, by rw [Nat.zero_add]; exact h.cell h1, by rw [Nat.zero_add]; exact h.cell h2, h3, h4, h5⟩
theorem TransR.bl1 {w : World} {b : Nat} {t : TypeId} {v1 u1 : Value} {t1 : TranD} (h : Blk w b t #[.int .i64 t1.label, v1, u1]) (h1 : Ints w v1 t1.pre) (h2 : Ints w u1 t1.post) (i1 : I64 t1.label) : TransR w (.slice (some ⟨b, 0, none⟩) 1 1) [t1] :=
  TransR.blkl h rfl (by simp) fun i hi => by
    obtain rfl : i = 0 := by simp at hi; exact hi
    exact ⟨v1, u1, rfl, rfl, rfl, i1, h1, h2⟩
theorem TransR.bl2 {w : World} {b : Nat} {t : TypeId} {v1 u1 v2 u2 : Value} {t1 t2 : TranD} (h : Blk w b t #[.int .i64 t1.label, v1, u1, .int .i64 t2.label, v2, u2]) (h1 : Ints w v1 t1.pre) (h2 : Ints w u1 t1.post) (h3 : Ints w v2 t2.pre) (h4 : Ints w u2 t2.post) (i1 : I64 t1.label) (i2 : I64 t2.label) :
    TransR w (.slice (some ⟨b, 0, none⟩) 2 2) [t1, t2] :=
  TransR.blkl h rfl (by simp) fun i hi => by
    have hi2 : i = 0 ∨ i = 1 := by simp at hi; omega
    rcases hi2 with rfl | rfl
    · exact ⟨v1, u1, rfl, rfl, rfl, i1, h1, h2⟩
    · exact ⟨v2, u2, rfl, rfl, rfl, i2, h3, h4⟩
section
variable {α : Type} [Inhabited α] {K : Kind α}
/-- a block of rows reads as them -/
theorem Rd.blkl {w : World} {b n : Nat} {t : TypeId} {cs : Array Value} {xs : List α} (h : Blk w b t cs) (hn : n = xs.length) (hl : xs.length ≤ 1000)
    (hc : ∀ i, i < xs.length → ∃ vs, K.R w vs (ix xs i) ∧ ∀ j u, vs[j]? = some u → cs[i * K.size + j]? = some u) : Rd K w (.slice (some ⟨b, 0, none⟩) n n) xs := by
  subst hn
  refine rd_mk (a := some ⟨b, 0, none⟩) rfl (Nat.le_refl _) (by unfold maxLen; omega) (fun e => by cases e) fun i hi => ?_
  obtain ⟨vs, h1, h2⟩ := hc i hi
  exact ⟨b, 0, vs, rfl, h1, fun j u hj => by rw [Nat.zero_add]; exact h.cell (h2 j u hj)⟩
end
theorem Rd.blkFlat {α : Type} [Inhabited α] {size : Nat} {cells : α → List Value} {ok : α → Prop} {h1 : ∀ x, (cells x).length = size} {h2 : ∀ x, ∀ u ∈ cells x, u.oneCell' = true} {w : World} {b n : Nat} {t : TypeId} {cs : Array Value} {xs : List α} (h : Blk w b t cs) (hn : n = xs.length) (hl : xs.length ≤ 1000) (hcs : cs.toList = cellsOf (xs.map fun x => (x, cells x))) (hok : ∀ x ∈ xs, ok x) :
    Rd (flat size cells ok h1 h2) w (.slice (some ⟨b, 0, none⟩) n n) xs := by
  refine Rd.blkl h hn hl fun i hi => ⟨cells (ix xs i), ⟨rfl, hok _ (ix_mem hi)⟩, fun j u hj => ?_⟩
  have hjs : j < size := by rw [← h1 (ix xs i)]; exact (List.getElem?_eq_some_iff.1 hj).1
  rw [← Array.getElem?_toList, hcs]
  show (cellsOf _)[i * size + j]? = _
  rw [cellsOf_at (n := size) (fun r hr => by obtain ⟨x, _, rfl⟩ := List.mem_map.1 hr; exact h1 x) (by simpa using hi) hjs, List.getElem?_map, ix_some hi]
  exact hj
theorem Rd.blkRows {w : World} {b n : Nat} {t : TypeId} {cs : Array Value} {xs : List (List Int)} (h : Blk w b t cs) (hn : n = xs.length) (hl : xs.length ≤ 1000)
    (hc : ∀ i, i < xs.length → ∃ u, cs[i]? = some u ∧ Ints w u (ix xs i)) : Rd rowK w (.slice (some ⟨b, 0, none⟩) n n) xs := by
  refine Rd.blkl h hn hl fun i hi => ?_
  obtain ⟨u, h1, h2⟩ := hc i hi
  refine ⟨[u], ⟨u, rfl, h2⟩, fun j x hj => ?_⟩
  have hj0 : j = 0 := by
    have := (List.getElem?_eq_some_iff.1 hj).1
    simp at this; exact this
  subst hj0
  simp at hj; subst hj
  show cs[i * 1 + 0]? = _
  rw [Nat.mul_one]; exact h1
end Go.Tok
