/- Plain law of AlignTrue: what the moves of an alignment say. -/
import Derived.Test.YtkekamffmmokmaaAl5
namespace Go.Tok
open Go.RowKit Go.Proofs.Ytkekamffmmokmaa
set_option linter.unusedVariables false
def seqM (l : List MoveD) : List Int := l.flatMap fun m => if m.kind = 2 then [] else [m.tran]
def seenM (l : List MoveD) : List Int := l.flatMap fun m => if m.kind = 3 then [] else [m.label]
def paysM (m : MoveD) : Prop := m.kind = 2 ∨ (m.kind = 3 ∧ 0 < m.label)
instance (m : MoveD) : Decidable (paysM m) := by unfold paysM; infer_instance
def costM (l : List MoveD) : Nat := (l.filter fun m => decide (paysM m)).length
/-- a move that the law takes -/
def OkM (N : NetD) (m : MoveD) : Prop :=
  (m.kind = 2) ∨ ((m.kind = 1 ∧ 0 < m.label ∨ m.kind = 3) ∧ ∃ t : Nat, m.tran = t ∧ t < N.trans.length ∧ (N.tr t).label = m.label)
theorem seqM_snoc (l : List MoveD) (m : MoveD) : seqM (l ++ [m]) = seqM l ++ (if m.kind = 2 then [] else [m.tran]) := by simp [seqM]
theorem seenM_snoc (l : List MoveD) (m : MoveD) : seenM (l ++ [m]) = seenM l ++ (if m.kind = 3 then [] else [m.label]) := by simp [seenM]
theorem costM_snoc (l : List MoveD) (m : MoveD) : costM (l ++ [m]) = costM l + (if paysM m then 1 else 0) := by
  unfold costM
  rw [List.filter_append, List.length_append]
  by_cases h : paysM m <;> simp [h]
theorem seqM_len (l : List MoveD) : (seqM l).length ≤ l.length := by
  induction l with
  | nil => simp [seqM]
  | cons m l ih =>
    have e : seqM (m :: l) = (if m.kind = 2 then [] else [m.tran]) ++ seqM l := by simp [seqM]
    rw [e, List.length_append, List.length_cons]
    split <;> simp <;> omega
theorem seenM_len (l : List MoveD) : (seenM l).length ≤ l.length := by
  induction l with
  | nil => simp [seenM]
  | cons m l ih =>
    have e : seenM (m :: l) = (if m.kind = 3 then [] else [m.label]) ++ seenM l := by simp [seenM]
    rw [e, List.length_append, List.length_cons]
    split <;> simp <;> omega
theorem costM_len (l : List MoveD) : costM l ≤ l.length := List.length_filter_le _ _
theorem take_more {α : Type} [Inhabited α] {xs : List α} {k : Nat} (h : k < xs.length) : xs.take (k + 1) = xs.take k ++ [ix xs k] := by
  rw [List.take_succ_eq_append_getElem h, ix_lt h]
/-- what a way of moves says -/
theorem pth_says {N : NetD} {tr : List Int} {m0 : List Int} {s : FinD} (hW : Whole N m0 300 s) {l : List MoveD} {u : SpotD} {c : Nat} (h : Pth (labN N) s.arcs tr spot0 l u c) :
    (∀ m ∈ l, OkM N m) ∧ seenM l = tr.take u.seen ∧ costM l = c ∧ Runs N m0 (seqM l) (ix s.marks u.mark) := by
  induction h with
  | nil => exact ⟨by simp, rfl, rfl, by rw [show (spot0 : SpotD).mark = 0 from rfl, hW.first_mark]; exact .nil _⟩
  | snoc h h1 ih =>
    obtain ⟨i1, i2, i3, i4⟩ := ih
    have arc : ∀ {m t m' : Nat}, (⟨(m : Int), (t : Int), (m' : Int)⟩ : ArcD) ∈ s.arcs → t < N.trans.length ∧ Fires N (ix s.marks m) t (ix s.marks m') := by
      intro m t m' ha
      obtain ⟨i, k, j, e, _, _, hF⟩ := hW.arc _ ha
      simp only [ArcD.mk.injEq] at e
      have e1 : m = i := by omega
      have e2 : t = k := by omega
      have e3 : m' = j := by omega
      subst e1; subst e2; subst e3
      exact ⟨hF.lt, hF⟩
    have all : ∀ {l : List MoveD} {mv : MoveD}, (∀ m ∈ l, OkM N m) → OkM N mv → ∀ m ∈ l ++ [mv], OkM N m := by
      intro l mv h1 h2 m hm
      rcases List.mem_append.1 hm with h | h
      · exact h1 m h
      · rw [List.mem_singleton.1 h]; exact h2
    rw [seqM_snoc, seenM_snoc, costM_snoc]
    cases h1 with
    | skip hk =>
      refine ⟨all i1 (.inl rfl), ?_, ?_, ?_⟩
      · rw [if_neg (by simp), i2, List.take_succ_eq_append_getElem hk, nth_lt hk]
      · rw [if_pos (by unfold paysM; simp), i3]
      · rw [if_pos rfl, List.append_nil]; exact i4
    | net ha =>
      rename_i k m t m'
      obtain ⟨ht, hF⟩ := arc ha
      refine ⟨all i1 (.inr ⟨.inr rfl, t, rfl, ht, (labN_nth ht).symm⟩), ?_, ?_, ?_⟩
      · rw [if_pos rfl, List.append_nil]; exact i2
      · rw [i3]
        unfold one1 paysM
        by_cases h0 : 0 < nth (labN N) t <;> simp [h0]
      · rw [if_neg (by simp)]; exact i4.snoc hF
    | both ha hp hk he =>
      rename_i k m t m'
      obtain ⟨ht, hF⟩ := arc ha
      refine ⟨all i1 (.inr ⟨.inl ⟨rfl, hp⟩, t, rfl, ht, (labN_nth ht).symm⟩), ?_, ?_, ?_⟩
      · rw [if_neg (by simp), i2, List.take_succ_eq_append_getElem hk, ← he, nth_lt hk]
      · rw [if_neg (by unfold paysM; simp), i3]
      · rw [if_neg (by simp)]; exact i4.snoc hF
theorem true_law {N : NetD} {i o : Int} {tr : List Int} {l : List MoveD} {c : Nat} (h : AlMeans N i o tr l c 0) :
    (∀ m ∈ l, OkM N m) ∧ seenM l = tr ∧ costM l = c ∧ runF N (oneN (startLen N) i) (seqM l) = (oneN (startLen N) o, 0) := by
  have h0 : hasErr N i o = 0 := by
    apply Classical.byContradiction
    intro hne
    exact hne (h.2.1 hne).symm
  have hl : tr.length ≤ 60 := by
    apply Classical.byContradiction
    intro hl
    have := h.2.2.1 h0 (by omega)
    omega
  obtain ⟨A, hs, hg, h⟩ := h.2.2.2 h0 hl
  obtain ⟨s, _, rfl, _, _, hf, hW⟩ := search_of_graph hg
  rcases h with ⟨_, k, hk, he, hp, _⟩ | ⟨hc, _⟩
  · obtain ⟨p1, p2, p3, p4⟩ := pth_says hW hp
    refine ⟨p1, ?_, p3, ?_⟩
    · rw [p2]; exact List.take_of_length_le (Nat.le_refl _)
    · simp only [] at he
      rw [he] at p4
      exact p4.runF hf
  · exact absurd hc (by decide)
end Go.Tok
