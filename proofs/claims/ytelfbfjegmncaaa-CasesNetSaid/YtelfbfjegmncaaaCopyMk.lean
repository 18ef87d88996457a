/- 'copy(out, w)' into a row of ints of the call's own. No program is in sight here. -/
import Derived.Test.YtelfbfjegmncaaaCore
import Derived.Laws.CopyOwn
namespace Go.Tok
open Go.RowKit
set_option linter.unusedVariables false
theorem copy_ints {P : Program} {t e : TypeId} (T : IntTy P t e) {w : World} {ops : Array Oper} {rest : List Oper} {o : Oper} {a : Act} {Q : Exit → Act → World → Prop} (hgd : o.guard = none) (d s : Operand)
    (ho : o.op = .call { callee := .builtin .copy, args := #[d, s], argTypes := #[t, t] }) (base g n cap : Nat) (xs ys : List Int) (u : Value) (hd : a.eval d = .slice (some ⟨g, 0, none⟩) n cap) (hs : a.eval s = u)
    (hown : OwnI e base w (.slice (some ⟨g, 0, none⟩) n cap) xs) (hsrc : Ints w u ys) (hle : ys.length ≤ xs.length)
    (hK : ∀ w', OwnI e base w' (.slice (some ⟨g, 0, none⟩) n cap) (ys ++ xs.drop ys.length) → (∀ a : World, a.heap.size ≤ base → Gr a w → Gr a w') → wpList P ops Q rest (a.put o.dst (goInt ys.length)) w') : wpList P ops Q (o :: rest) a w := by
  have hown' := hown
  unfold OwnI at hown'
  rcases hown'.1.2 with ⟨h1, _⟩ | ⟨g', cap', cur, h1, h2, h3, h4, h5, h6, h7⟩
  · cases h1
  obtain ⟨rfl, rfl, rfl⟩ : g = g' ∧ n = xs.length ∧ cap = cap' := by cases h1; exact ⟨rfl, rfl, rfl⟩
  obtain ⟨sp, sc, rfl, _, _⟩ := hsrc.len
  obtain ⟨i, hi, hz, hsz, hb⟩ := info_parts T.info
  have hcs : cur.toList.length = cap := by simpa using h6
  refine wpList_copy_splice hgd d s t t ho e T.und (by rw [hi]; simp [hsz]) _ _ _ _ _ _ hd hs g 0 cur.toList e (by simpa using h3) (ys.map (Value.int .i64)) (by simp [hle]) ?_ (by simp; omega) (ints_oneCell _ _) base w (Below.refl _ _) h2 ?_
  · intro hp
    refine ⟨rfl, ?_⟩
    rcases hsrc.form with ⟨_, h0⟩ | ⟨ad, cap2, h0, _, _⟩
    · subst h0; simp at hp
    · obtain rfl : sp = some ad := by cases h0; rfl
      refine ⟨ad, rfl, fun j v hj => ?_⟩
      rw [List.getElem?_map] at hj
      obtain ⟨y, hy, rfl⟩ := Option.map_eq_some_iff.1 hj
      have hjl : j < ys.length := (List.getElem?_eq_some_iff.1 hy).1
      rw [hsrc.adds hjl, nth_lt hjl]
      rw [List.getElem?_eq_getElem hjl] at hy
      cases hy; rfl
  · intro w' hg' hb'
    rw [List.length_map]
    have hxl : xs.length ≤ cap := h4
    refine hK w' ?_ ?_
    · unfold OwnI
      have hlen : (ys ++ xs.drop ys.length).length = xs.length := by simp; omega
      refine ⟨⟨by simp, .inr ⟨g, cap, _, by rw [hlen], h2, hg'.out, by rw [hlen]; exact hxl, h5, ?_, ?_⟩⟩, ?_⟩
      · rw [List.size_toArray, length_splice _ _ _ (by simp; omega)]; simpa using h6
      · simp only [splice, List.take_zero, List.nil_append, List.length_map, Nat.zero_add, Nat.mul_one, List.map_append, List.map_drop]
        rw [hlen, List.take_append, List.take_of_length_le (by simp; omega), List.length_map]
        congr 1
        have h7' : cur.toList.take xs.length = xs.map (Value.int .i64) := by simpa using h7
        rw [← h7', List.drop_take]
      · have hI : ∀ y ∈ ys, I64 y := by
          intro y hy
          obtain ⟨k, hk, rfl⟩ := List.getElem_of_mem hy
          have := hsrc.range k
          rw [nth_lt hk] at this
          exact this
        intro y hy
        rcases List.mem_append.1 hy with h | h
        · exact hI y h
        · exact hown'.2 y (List.mem_of_mem_drop h)
    · intro b hbl hg
      have hg2 : Below b.heap.size b w := hg.below
      have : Below b.heap.size b w' := hg2.trans (hb'.mono hbl)
      unfold Gr; exact this
end Go.Tok
