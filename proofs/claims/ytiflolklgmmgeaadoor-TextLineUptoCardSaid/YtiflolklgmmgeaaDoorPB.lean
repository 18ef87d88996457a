/- The search through all marks of a net, as plain functions on lists; what it finds. No program is in sight here. -/
import Derived.Test.YtiflolklgmmgeaaDoorPA
import Derived.Laws.BytesArg
namespace Go.Tok
set_option linter.unusedVariables false

structure ArcD where
  src : Int
  tran : Int
  dst : Int
deriving DecidableEq
instance : Inhabited ArcD := ⟨⟨0, 0, 0⟩⟩
structure SpaceD where
  marks : List (List Int)
  arcs : List ArcD
deriving DecidableEq
def zeroS : SpaceD := ⟨[], []⟩
/-- what the search has found -/
structure FinD where
  marks : List (List Int)
  arcs : List ArcD
  first : List Int
def FinD.space (s : FinD) : SpaceD := ⟨s.marks, s.arcs⟩

def findF (most : Nat) (s : FinD) (m : List Int) (arc : Int) : Option (Nat × FinD) :=
  if m ∈ s.marks then some (s.marks.idxOf m, s)
  else if s.marks.length = most then none
  else some (s.marks.length, ⟨s.marks ++ [m], s.arcs, s.first ++ [arc]⟩)
def addArc (src : Nat) (t : Int) (r : Option (Nat × FinD)) (s : FinD) : FinD × Int :=
  match r with
  | none => (s, 4)
  | some (k, s') => (⟨s'.marks, s'.arcs ++ [⟨src, t, k⟩], s'.first⟩, 0)
def stepF (N : NetD) (most : Nat) (m : List Int) (src : Nat) (s : FinD) (t : Int) : FinD × Int :=
  if (fireF N m t).2 = 0 then addArc src t (findF most s (fireF N m t).1 s.arcs.length) s else (s, (fireF N m t).2)
def stepsF (N : NetD) (most : Nat) (m : List Int) (src : Nat) : FinD → List Int → FinD × Int
  | s, [] => (s, 0)
  | s, t :: l => if (stepF N most m src s t).2 = 0 then stepsF N most m src (stepF N most m src s t).1 l else stepF N most m src s t
def explF (N : NetD) (most : Nat) : Nat → Nat → FinD → FinD × Int
  | 0, _, s => (s, 0)
  | f + 1, i, s =>
    if i < s.marks.length then
      (if (stepsF N most (ix s.marks i) i s (enabledL N (ix s.marks i))).2 = 0 then explF N most f (i + 1) (stepsF N most (ix s.marks i) i s (enabledL N (ix s.marks i))).1
       else stepsF N most (ix s.marks i) i s (enabledL N (ix s.marks i)))
    else (s, 0)
def fin0 (m : List Int) : FinD := ⟨[m], [], [-1]⟩
def searchF (N : NetD) (m : List Int) (most : Int) : FinD × Int :=
  if most < 1 ∨ 300 < most then (⟨[], [], []⟩, 2)
  else if fitsB N m = false then (⟨[], [], []⟩, 2)
  else explF N most.toNat 301 0 (fin0 m)
def graphF (N : NetD) (m : List Int) (most : Int) : SpaceD × Int :=
  if (searchF N m most).2 = 0 then ((searchF N m most).1.space, 0) else (zeroS, (searchF N m most).2)

/-! ### what holds while it goes on: all ahead of mark i is done, and of mark i the transitions pre -/
structure FoundS (N : NetD) (m0 : List Int) (most : Nat) (s : FinD) (i : Nat) (pre : List Int) : Prop where
  nodup : s.marks.Nodup
  head : ∃ r, s.marks = m0 :: r
  le : s.marks.length ≤ most
  fit : ∀ x ∈ s.marks, fitsB N x = true
  flen : s.first.length = s.marks.length
  arc : ∀ a ∈ s.arcs, ∃ i' k j : Nat, a = ⟨i', k, j⟩ ∧ i' ≤ i ∧ i' < s.marks.length ∧ j < s.marks.length ∧ Fires N (ix s.marks i') k (ix s.marks j)
  sorted : s.arcs.Pairwise (fun a b => a.src ≤ b.src)
  first : ∀ j : Nat, 0 < j → j < s.marks.length → ∃ q : Nat, nth s.first j = q ∧ q < s.arcs.length ∧ (ix s.arcs q).dst = j ∧ (ix s.arcs q).src < j ∧ ∀ q', q' < s.arcs.length → (ix s.arcs q').dst = j → q ≤ q'
  rise : ∀ j j' : Nat, 0 < j → j < j' → j' < s.marks.length → nth s.first j < nth s.first j'
  done : ∀ i', i' < i → ∀ t ∈ enabledL N (ix s.marks i'), ∃ a ∈ s.arcs, a.src = i' ∧ a.tran = t
  part : ∀ t ∈ pre, ∃ a ∈ s.arcs, a.src = i ∧ a.tran = t

theorem ix_append_left {α : Type} [Inhabited α] {xs ys : List α} {i : Nat} (h : i < xs.length) : ix (xs ++ ys) i = ix xs i := by
  rw [ix_lt h, ix_lt (by rw [List.length_append]; omega), List.getElem_append_left h]
theorem ix_append_one {α : Type} [Inhabited α] (xs : List α) (y : α) : ix (xs ++ [y]) xs.length = y := by
  rw [ix_lt (by simp)]; simp
theorem nth_append_left {xs ys : List Int} {i : Nat} (h : i < xs.length) : nth (xs ++ ys) i = nth xs i := by
  rw [nth_lt h, nth_lt (by rw [List.length_append]; omega), List.getElem_append_left h]
theorem nth_append_one (xs : List Int) (y : Int) : nth (xs ++ [y]) xs.length = y := by
  rw [nth_lt (by simp)]; simp

theorem fin0_found {N : NetD} {m : List Int} {most : Nat} (h1 : 1 ≤ most) (hf : fitsB N m = true) : FoundS N m most (fin0 m) 0 [] := by
  refine ⟨by simp [fin0], ⟨[], rfl⟩, by simpa [fin0] using h1, ?_, rfl, ?_, by simp [fin0], ?_, ?_, fun i' h => absurd h (Nat.not_lt_zero _), ?_⟩
  · intro x hx; simp [fin0] at hx; rw [hx]; exact hf
  · intro a ha; simp [fin0] at ha
  · intro j h1 h2; simp [fin0] at h2; omega
  · intro j j' h1 h2 h3; simp [fin0] at h3; omega
  · intro t ht; simp at ht

theorem mem_idx {ms : List (List Int)} {x : List Int} (h : x ∈ ms) : ms.idxOf x < ms.length ∧ ix ms (ms.idxOf x) = x := by
  have h1 := List.idxOf_lt_length_of_mem h
  exact ⟨h1, by rw [ix_lt h1]; exact List.getElem_idxOf h1⟩

/-- one arc more -/
theorem step_found {N : NetD} {m0 : List Int} {most : Nat} {s s' : FinD} {i : Nat} {pre : List Int} {t : Int} (h : FoundS N m0 most s i pre) (hi : i < s.marks.length) (hst : stepF N most (ix s.marks i) i s t = (s', 0)) :
    FoundS N m0 most s' i (pre ++ [t]) ∧ (∃ r, s'.marks = s.marks ++ r) ∧ s'.arcs.length = s.arcs.length + 1 := by
  have hfi := h.fit _ (ix_mem hi)
  unfold stepF at hst
  rcases hf : fireF N (ix s.marks i) t with ⟨x, e⟩
  rw [hf] at hst
  by_cases he : e ≠ 0
  · simp only [if_neg he] at hst; cases hst; exact absurd rfl he
  have he : e = 0 := by omega
  subst he
  simp only [if_true] at hst
  obtain ⟨k, rfl, hF⟩ := fire_ok hfi hf
  have hxf := hF.fits hfi
  unfold findF at hst
  by_cases hx : x ∈ s.marks
  · rw [if_pos hx] at hst
    simp only [addArc] at hst
    obtain ⟨h1, h2⟩ := mem_idx hx
    obtain rfl := (Prod.mk.inj hst).1.symm
    have hal : ∀ q, q < s.arcs.length → ix (s.arcs ++ [(⟨i, k, (s.marks.idxOf x : Nat)⟩ : ArcD)]) q = ix s.arcs q := fun q hq => ix_append_left hq
    refine ⟨⟨h.nodup, h.head, h.le, h.fit, h.flen, ?_, ?_, ?_, h.rise, ?_, ?_⟩, ⟨[], by simp⟩, by simp⟩
    · intro a ha
      rcases List.mem_append.1 ha with ha | ha
      · exact h.arc a ha
      · rw [List.mem_singleton.1 ha]
        exact ⟨i, k, _, rfl, Nat.le_refl _, hi, h1, by simp only [h2]; exact hF⟩
    · refine List.pairwise_append.2 ⟨h.sorted, by simp, fun a ha b hb => ?_⟩
      rw [List.mem_singleton.1 hb]
      obtain ⟨i', k', j', rfl, h3, _⟩ := h.arc a ha
      simp only []; omega
    · intro j h3 h4
      obtain ⟨q, q1, q2, q3, q4, q5⟩ := h.first j h3 h4
      refine ⟨q, q1, by simp only [List.length_append, List.length_singleton]; omega, by simp only []; rw [hal q q2]; exact q3, by simp only []; rw [hal q q2]; exact q4, fun q' h5 h6 => ?_⟩
      simp only [List.length_append, List.length_singleton] at h5
      by_cases h7 : q' < s.arcs.length
      · simp only [] at h6; rw [hal q' h7] at h6; exact q5 q' h7 h6
      · omega
    · intro i' h3 t ht
      obtain ⟨a, h4, h5⟩ := h.done i' h3 t ht
      exact ⟨a, List.mem_append_left _ h4, h5⟩
    · intro t ht
      rcases List.mem_append.1 ht with ht | ht
      · obtain ⟨a, h4, h5⟩ := h.part t ht
        exact ⟨a, List.mem_append_left _ h4, h5⟩
      · rw [List.mem_singleton.1 ht]
        exact ⟨_, List.mem_append_right _ (List.mem_singleton.2 rfl), rfl, rfl⟩
  · rw [if_neg hx] at hst
    by_cases hm : s.marks.length = most
    · rw [if_pos hm] at hst; simp [addArc] at hst
    rw [if_neg hm] at hst
    simp only [addArc] at hst
    obtain rfl := (Prod.mk.inj hst).1.symm
    have hal : ∀ q, q < s.arcs.length → ix (s.arcs ++ [(⟨i, k, (s.marks.length : Nat)⟩ : ArcD)]) q = ix s.arcs q := fun q hq => ix_append_left hq
    have hml : ∀ q, q < s.marks.length → ix (s.marks ++ [x]) q = ix s.marks q := fun q hq => ix_append_left hq
    have hle := h.le
    have hfl := h.flen
    refine ⟨⟨?_, ?_, by simp only [List.length_append, List.length_singleton]; omega, ?_, by simp [h.flen], ?_, ?_, ?_, ?_, ?_, ?_⟩, ⟨[x], rfl⟩, by simp⟩
    · refine List.nodup_append.2 ⟨h.nodup, by simp, fun a ha b hb e => ?_⟩
      rw [List.mem_singleton.1 hb] at e; subst e; exact hx ha
    · obtain ⟨r, hr⟩ := h.head
      exact ⟨r ++ [x], by simp only [hr]; rfl⟩
    · intro y hy
      rcases List.mem_append.1 hy with hy | hy
      · exact h.fit y hy
      · rw [List.mem_singleton.1 hy]; exact hxf
    · intro a ha
      simp only [List.length_append, List.length_singleton]
      rcases List.mem_append.1 ha with ha | ha
      · obtain ⟨i', k', j', h1, h2, h3, h4, h5⟩ := h.arc a ha
        exact ⟨i', k', j', h1, h2, by omega, by omega, by rw [hml i' h3, hml j' h4]; exact h5⟩
      · rw [List.mem_singleton.1 ha]
        exact ⟨i, k, _, rfl, Nat.le_refl _, by omega, Nat.lt_succ_self _, by rw [hml i hi, ix_append_one]; exact hF⟩
    · refine List.pairwise_append.2 ⟨h.sorted, by simp, fun a ha b hb => ?_⟩
      rw [List.mem_singleton.1 hb]
      obtain ⟨i', k', j', rfl, h3, _⟩ := h.arc a ha
      simp only []; omega
    · intro j h3 h4
      simp only [List.length_append, List.length_singleton] at h4 ⊢
      by_cases h5 : j < s.marks.length
      · obtain ⟨q, q1, q2, q3, q4, q5⟩ := h.first j h3 h5
        refine ⟨q, by rw [nth_append_left (by omega)]; exact q1, by omega, by rw [hal q q2]; exact q3, by rw [hal q q2]; exact q4, fun q' h6 h7 => ?_⟩
        by_cases h8 : q' < s.arcs.length
        · rw [hal q' h8] at h7; exact q5 q' h8 h7
        · omega
      · obtain rfl : j = s.marks.length := by omega
        refine ⟨s.arcs.length, by rw [← hfl, nth_append_one], by omega, by rw [ix_append_one], by rw [ix_append_one]; simp only []; omega, fun q' h6 h7 => ?_⟩
        by_cases h8 : q' < s.arcs.length
        · rw [hal q' h8] at h7
          obtain ⟨i', k', j', h9, _, _, h10, _⟩ := h.arc _ (ix_mem h8)
          rw [h9] at h7
          simp only [] at h7
          omega
        · omega
    · intro j j' h3 h4 h5
      simp only [List.length_append, List.length_singleton] at h5 ⊢
      by_cases h6 : j' < s.marks.length
      · rw [nth_append_left (by omega), nth_append_left (by omega)]
        exact h.rise j j' h3 h4 h6
      · obtain rfl : j' = s.marks.length := by omega
        obtain ⟨q, q1, q2, _⟩ := h.first j h3 h4
        rw [nth_append_left (by omega), q1, ← hfl, nth_append_one]
        omega
    · intro i' h3 t ht
      simp only [] at ht
      rw [hml i' (by omega)] at ht
      obtain ⟨a, h4, h5⟩ := h.done i' h3 t ht
      exact ⟨a, List.mem_append_left _ h4, h5⟩
    · intro t ht
      rcases List.mem_append.1 ht with ht | ht
      · obtain ⟨a, h4, h5⟩ := h.part t ht
        exact ⟨a, List.mem_append_left _ h4, h5⟩
      · rw [List.mem_singleton.1 ht]
        exact ⟨_, List.mem_append_right _ (List.mem_singleton.2 rfl), rfl, rfl⟩

theorem steps_nil (N : NetD) (most : Nat) (m : List Int) (i : Nat) (s : FinD) : stepsF N most m i s [] = (s, 0) := rfl
theorem steps_cons (N : NetD) (most : Nat) (m : List Int) (i : Nat) (s : FinD) (t : Int) (l : List Int) : stepsF N most m i s (t :: l) = if (stepF N most m i s t).2 = 0 then stepsF N most m i (stepF N most m i s t).1 l else stepF N most m i s t := rfl
theorem expl_succ (N : NetD) (most f i : Nat) (s : FinD) : explF N most (f + 1) i s =
    if i < s.marks.length then
      (if (stepsF N most (ix s.marks i) i s (enabledL N (ix s.marks i))).2 = 0 then explF N most f (i + 1) (stepsF N most (ix s.marks i) i s (enabledL N (ix s.marks i))).1
       else stepsF N most (ix s.marks i) i s (enabledL N (ix s.marks i)))
    else (s, 0) := rfl
theorem expl_end {N : NetD} {most f i : Nat} {s : FinD} (h : s.marks.length ≤ i) : explF N most f i s = (s, 0) := by
  cases f with
  | zero => rfl
  | succ f => rw [expl_succ, if_neg (by omega)]

theorem steps_found {N : NetD} {m0 : List Int} {most : Nat} {i : Nat} : ∀ {l pre : List Int} {s s' : FinD}, FoundS N m0 most s i pre → i < s.marks.length → stepsF N most (ix s.marks i) i s l = (s', 0) →
    FoundS N m0 most s' i (pre ++ l) ∧ (∃ r, s'.marks = s.marks ++ r) ∧ s'.arcs.length = s.arcs.length + l.length := by
  intro l
  induction l with
  | nil => intro pre s s' h hi hst; rw [steps_nil] at hst; cases hst; exact ⟨by simpa using h, ⟨[], by simp⟩, by simp⟩
  | cons t l ih =>
    intro pre s s' h hi hst
    rw [steps_cons] at hst
    rcases hs : stepF N most (ix s.marks i) i s t with ⟨s1, e⟩
    rw [hs] at hst
    by_cases he : e = 0
    · subst he
      simp only [if_true] at hst
      obtain ⟨h1, ⟨r, hr⟩, h2⟩ := step_found h hi hs
      have hx : ix s1.marks i = ix s.marks i := by rw [hr, ix_append_left hi]
      rw [← hx] at hst
      obtain ⟨h3, ⟨r', hr'⟩, h4⟩ := ih h1 (by rw [hr, List.length_append]; omega) hst
      exact ⟨by simpa using h3, ⟨r ++ r', by rw [hr', hr, List.append_assoc]⟩, by rw [h4, h2, List.length_cons]; omega⟩
    · simp only [if_neg he] at hst
      cases hst; exact absurd rfl he
theorem found_next {N : NetD} {m0 : List Int} {most : Nat} {i : Nat} {s : FinD} (h : FoundS N m0 most s i (enabledL N (ix s.marks i))) : FoundS N m0 most s (i + 1) [] := by
  refine ⟨h.nodup, h.head, h.le, h.fit, h.flen, fun a ha => ?_, h.sorted, h.first, h.rise, fun i' hi' t ht => ?_, by simp⟩
  · obtain ⟨i', k, j, h1, h2, h3⟩ := h.arc a ha
    exact ⟨i', k, j, h1, by omega, h3⟩
  · by_cases h1 : i' < i
    · exact h.done i' h1 t ht
    · obtain rfl : i' = i := by omega
      exact h.part t ht
theorem expl_found {N : NetD} {m0 : List Int} {most : Nat} : ∀ {f i : Nat} {s s' : FinD}, FoundS N m0 most s i [] → most + 1 ≤ f + i → explF N most f i s = (s', 0) → ∃ i', FoundS N m0 most s' i' [] ∧ s'.marks.length ≤ i' := by
  intro f
  induction f with
  | zero => intro i s s' h hf he; cases he; exact ⟨i, h, by have := h.le; omega⟩
  | succ f ih =>
    intro i s s' h hf he
    rw [expl_succ] at he
    by_cases hi : i < s.marks.length
    · rw [if_pos hi] at he
      rcases hs : stepsF N most (ix s.marks i) i s (enabledL N (ix s.marks i)) with ⟨s1, e⟩
      rw [hs] at he
      by_cases h0 : e = 0
      · subst h0
        simp only [if_true] at he
        obtain ⟨h1, ⟨r, hr⟩, _⟩ := steps_found h hi hs
        have hx : ix s1.marks i = ix s.marks i := by rw [hr, ix_append_left hi]
        rw [List.nil_append, ← hx] at h1
        exact ih (found_next h1) (by omega) he
      · simp only [if_neg h0] at he
        cases he; exact absurd rfl h0
    · rw [if_neg hi] at he
      cases he; exact ⟨i, h, by omega⟩

/-! ### what a search that comes to its end has found -/
structure Whole (N : NetD) (m0 : List Int) (most : Nat) (s : FinD) : Prop where
  nodup : s.marks.Nodup
  head : ∃ r, s.marks = m0 :: r
  le : s.marks.length ≤ most
  fit : ∀ x ∈ s.marks, fitsB N x = true
  flen : s.first.length = s.marks.length
  arc : ∀ a ∈ s.arcs, ∃ i k j : Nat, a = ⟨i, k, j⟩ ∧ i < s.marks.length ∧ j < s.marks.length ∧ Fires N (ix s.marks i) k (ix s.marks j)
  sorted : s.arcs.Pairwise (fun a b => a.src ≤ b.src)
  first : ∀ j : Nat, 0 < j → j < s.marks.length → ∃ q : Nat, nth s.first j = q ∧ q < s.arcs.length ∧ (ix s.arcs q).dst = j ∧ (ix s.arcs q).src < j ∧ ∀ q', q' < s.arcs.length → (ix s.arcs q').dst = j → q ≤ q'
  rise : ∀ j j' : Nat, 0 < j → j < j' → j' < s.marks.length → nth s.first j < nth s.first j'
  done : ∀ i, i < s.marks.length → ∀ t ∈ enabledL N (ix s.marks i), ∃ a ∈ s.arcs, a.src = i ∧ a.tran = t
theorem search_ok {N : NetD} {m : List Int} {most : Int} {s : FinD} (h : searchF N m most = (s, 0)) : 1 ≤ most ∧ most ≤ 300 ∧ fitsB N m = true ∧ Whole N m most.toNat s := by
  unfold searchF at h
  by_cases h1 : most < 1 ∨ 300 < most
  · rw [if_pos h1] at h; cases h
  rw [if_neg h1] at h
  cases hf : fitsB N m
  · rw [if_pos hf] at h; cases h
  rw [if_neg (by rw [hf]; decide)] at h
  obtain ⟨i, F, hi⟩ := expl_found (fin0_found (by omega) hf) (by omega) h
  refine ⟨by omega, by omega, rfl, F.nodup, F.head, F.le, F.fit, F.flen, fun a ha => ?_, F.sorted, F.first, F.rise, fun i' hi' => F.done i' (by omega)⟩
  obtain ⟨i', k, j, h2, _, h3⟩ := F.arc a ha
  exact ⟨i', k, j, h2, h3⟩
/-- a search fails in three ways -/
theorem fire_err {N : NetD} {m : List Int} {t : Int} (hf : fitsB N m = true) (ht : t ∈ enabledL N m) : (fireF N m t).2 = 0 ∨ (fireF N m t).2 = 4 := by
  obtain ⟨y, h⟩ := fire_enabled hf t
  have hb : hasB (enabledL N m) t = true := (hasB_iff _ _).2 ht
  rcases h with ⟨h, _⟩ | ⟨h, _⟩ | ⟨h, h'⟩
  · rw [h]; exact .inl rfl
  · rw [h]; exact .inr rfl
  · rw [hb] at h'; cases h'
theorem step_err {N : NetD} {most : Nat} {m : List Int} {i : Nat} {s : FinD} {t : Int} (hf : fitsB N m = true) (ht : t ∈ enabledL N m) : (stepF N most m i s t).2 = 0 ∨ (stepF N most m i s t).2 = 4 := by
  unfold stepF
  rcases fire_err hf ht with h | h
  · rw [if_pos h]
    unfold addArc
    split
    · exact .inr rfl
    · exact .inl rfl
  · rw [if_neg (by omega)]; exact .inr h
theorem steps_err {N : NetD} {most : Nat} {m : List Int} {i : Nat} (hf : fitsB N m = true) : ∀ (l : List Int) (s : FinD), (∀ t ∈ l, t ∈ enabledL N m) → (stepsF N most m i s l).2 = 0 ∨ (stepsF N most m i s l).2 = 4
  | [], s, _ => .inl rfl
  | t :: l, s, h => by
    rw [steps_cons]
    rcases step_err (most := most) (i := i) (s := s) hf (h t (by simp)) with h1 | h1
    · rw [if_pos h1]; exact steps_err hf l _ fun t ht => h t (by simp [ht])
    · rw [if_neg (by omega)]; exact .inr h1
theorem expl_err {N : NetD} {m0 : List Int} {most : Nat} : ∀ {f i : Nat} {s : FinD}, FoundS N m0 most s i [] → (explF N most f i s).2 = 0 ∨ (explF N most f i s).2 = 4 := by
  intro f
  induction f with
  | zero => intro i s h; exact .inl rfl
  | succ f ih =>
    intro i s h
    rw [expl_succ]
    by_cases hi : i < s.marks.length
    · rw [if_pos hi]
      have he := steps_err (most := most) (i := i) (h.fit _ (ix_mem hi)) (enabledL N (ix s.marks i)) s (fun _ h => h)
      rcases hs : stepsF N most (ix s.marks i) i s (enabledL N (ix s.marks i)) with ⟨s1, e⟩
      rw [hs] at he
      by_cases h0 : e = 0
      · subst h0
        simp only [if_true]
        obtain ⟨h1, ⟨r, hr⟩, _⟩ := steps_found h hi hs
        have hx : ix s1.marks i = ix s.marks i := by rw [hr, ix_append_left hi]
        rw [List.nil_append, ← hx] at h1
        exact ih (found_next h1)
      · simp only [if_neg h0]
        rcases he with h | h
        · exact absurd h h0
        · exact .inr h
    · rw [if_neg hi]; exact .inl rfl
theorem search_bad {N : NetD} {m : List Int} {most : Int} : (searchF N m most).2 = 0 ∨ ((searchF N m most).2 = 4 ∧ 1 ≤ most ∧ most ≤ 300 ∧ fitsB N m = true) ∨ ((searchF N m most).2 = 2 ∧ ¬ (1 ≤ most ∧ most ≤ 300 ∧ fitsB N m = true)) := by
  unfold searchF
  by_cases h1 : most < 1 ∨ 300 < most
  · rw [if_pos h1]; exact .inr (.inr ⟨rfl, by omega⟩)
  rw [if_neg h1]
  cases hf : fitsB N m
  · rw [if_pos rfl]; exact .inr (.inr ⟨rfl, by simp⟩)
  rw [if_neg (by decide)]
  rcases expl_err (f := 301) (fin0_found (N := N) (m := m) (most := most.toNat) (by omega) hf) with h | h
  · exact .inl h
  · exact .inr (.inl ⟨h, by omega, by omega, rfl⟩)

/-! ### a run stays among the marks -/
theorem Whole.next {N : NetD} {m0 : List Int} {most : Nat} {s : FinD} (h : Whole N m0 most s) {x y : List Int} {k : Nat} (hx : x ∈ s.marks) (hF : Fires N x k y) : y ∈ s.marks := by
  obtain ⟨i, hi, rfl⟩ := List.getElem_of_mem hx
  rw [← ix_lt hi] at hF hx
  obtain ⟨a, h1, h2, h3⟩ := h.done i hi k ((hasB_iff _ _).1 ((enabled_has (k : Int)).2 ⟨k, rfl, hF.lt, hF.pre⟩))
  obtain ⟨i', k', j, rfl, h4, h5, h6⟩ := h.arc a h1
  simp only [] at h2 h3
  have e1 : i' = i := by omega
  have e2 : k' = k := by omega
  subst e1 e2
  rw [hF.unique h6]
  exact ix_mem h5
theorem Whole.fires {N : NetD} {m0 : List Int} {most : Nat} {s : FinD} (h : Whole N m0 most s) {x : List Int} {k : Nat} (hx : x ∈ s.marks) (hk : k < N.trans.length) (hp : ∀ p, nth (N.tr k).pre p ≤ nth x p) : ∃ y, Fires N x k y ∧ y ∈ s.marks := by
  obtain ⟨i, hi, rfl⟩ := List.getElem_of_mem hx
  rw [← ix_lt hi] at hp hx ⊢
  obtain ⟨a, h1, h2, h3⟩ := h.done i hi k ((hasB_iff _ _).1 ((enabled_has (k : Int)).2 ⟨k, rfl, hk, hp⟩))
  obtain ⟨i', k', j, rfl, h4, h5, h6⟩ := h.arc a h1
  simp only [] at h2 h3
  have e1 : i' = i := by omega
  have e2 : k' = k := by omega
  subst e1 e2
  exact ⟨_, h6, ix_mem h5⟩
theorem Whole.runs {N : NetD} {m0 : List Int} {most : Nat} {s : FinD} (h : Whole N m0 most s) {x q y : List Int} (hr : Runs N x q y) (hx : x ∈ s.marks) : y ∈ s.marks := by
  induction hr with
  | nil x => exact hx
  | cons hF _ ih => exact ih (h.next hx hF)
theorem Whole.start {N : NetD} {m0 : List Int} {most : Nat} {s : FinD} (h : Whole N m0 most s) : m0 ∈ s.marks := by
  obtain ⟨r, hr⟩ := h.head; rw [hr]; simp
/-- a run from a mark ends at a mark, or at a transition that is not enabled -/
theorem Whole.runL {N : NetD} {m0 : List Int} {most : Nat} {s : FinD} (h : Whole N m0 most s) : ∀ (q : List Int) (x : List Int), x ∈ s.marks → (∃ y, runL N x q = (y, 0) ∧ y ∈ s.marks) ∨ runL N x q = ([], 3)
  | [], x, hx => .inl ⟨x, runL_nil N x, hx⟩
  | t :: q, x, hx => by
    rw [runL_cons]
    rcases fire_cases t (h.fit x hx) with ⟨k, y, h1, h2, h3⟩ | ⟨h1, _⟩ | ⟨h1, k, rfl, h2, h3, p, h4⟩
    · rw [h3]; simp only [if_true]; exact h.runL q y (h.next hx h2)
    · rw [h1]; exact .inr rfl
    · obtain ⟨y, h5, _⟩ := h.fires hx h2 h3
      have := h5.le p; have := h5.eq p; omega
theorem Whole.runF {N : NetD} {m0 : List Int} {most : Nat} {s : FinD} (h : Whole N m0 most s) (q : List Int) : (∃ y, runF N m0 q = (y, 0) ∧ y ∈ s.marks) ∨ runF N m0 q = ([], 3) := by
  rw [runF_fit (h.fit _ h.start)]
  exact h.runL q m0 h.start
end Go.Tok

/- Paths in what the search has found: each leads to its mark, none is shorter; more room changes nothing. No program is in sight here. -/
namespace Go.Tok
set_option linter.unusedVariables false

/-! ### back from a mark, by the arcs by which marks were found -/
def trailF (s : FinD) : Nat → Nat → List Int
  | 0, _ => []
  | f + 1, k => if 0 < k then (ix s.arcs (nth s.first k).toNat).tran :: trailF s f (ix s.arcs (nth s.first k).toNat).src.toNat else []
def trail (s : FinD) (k : Nat) : List Int := trailF s k k
def pathF (N : NetD) (m goal : List Int) (most : Int) : List Int × Int :=
  if (searchF N m most).2 = 0 then
    (if goal ∈ (searchF N m most).1.marks then ((trail (searchF N m most).1 ((searchF N m most).1.marks.idxOf goal)).reverse, 0) else ([], 3))
  else ([], (searchF N m most).2)

section
variable {N : NetD} {m0 : List Int} {most : Nat} {s : FinD}
/-- the arc by which mark k was found -/
theorem Whole.arcAt (h : Whole N m0 most s) {k : Nat} (h0 : 0 < k) (hk : k < s.marks.length) : ∃ q i u : Nat, nth s.first k = q ∧ q < s.arcs.length ∧ ix s.arcs q = ⟨i, u, k⟩ ∧ i < k ∧ Fires N (ix s.marks i) u (ix s.marks k) := by
  obtain ⟨q, h1, h2, h3, h4, _⟩ := h.first k h0 hk
  obtain ⟨i, u, j, h5, h6, h7, h8⟩ := h.arc _ (ix_mem h2)
  rw [h5] at h3 h4
  simp only [] at h3 h4
  have : j = k := by omega
  subst this
  exact ⟨q, i, u, h1, h2, h5, by omega, h8⟩
theorem trail_fuel (h : Whole N m0 most s) : ∀ (f g k : Nat), k < s.marks.length → k ≤ f → k ≤ g → trailF s f k = trailF s g k := by
  intro f
  induction f with
  | zero =>
    intro g k hk h1 h2
    have : k = 0 := by omega
    subst this
    cases g with
    | zero => rfl
    | succ g => simp [trailF]
  | succ f ih =>
    intro g k hk h1 h2
    cases g with
    | zero =>
      have : k = 0 := by omega
      subst this
      simp [trailF]
    | succ g =>
      simp only [trailF]
      by_cases h0 : 0 < k
      · rw [if_pos h0, if_pos h0]
        obtain ⟨q, i, u, e1, e2, e3, e4, _⟩ := h.arcAt h0 hk
        rw [e1, Int.toNat_natCast, e3]
        simp only [Int.toNat_natCast]
        rw [ih g i (by omega) (by omega) (by omega)]
      · rw [if_neg h0, if_neg h0]
theorem trail_zero (s : FinD) : trail s 0 = [] := rfl
theorem trail_pos (h : Whole N m0 most s) {k : Nat} (h0 : 0 < k) (hk : k < s.marks.length) : trail s k = (ix s.arcs (nth s.first k).toNat).tran :: trail s (ix s.arcs (nth s.first k).toNat).src.toNat := by
  obtain ⟨q, i, u, e1, e2, e3, e4, _⟩ := h.arcAt h0 hk
  unfold trail
  cases k with
  | zero => omega
  | succ k =>
    rw [trailF, if_pos h0]
    congr 1
    rw [e1, Int.toNat_natCast, e3]
    simp only [Int.toNat_natCast]
    exact trail_fuel h _ _ _ (by omega) (by omega) (Nat.le_refl _)
theorem trail_arc (h : Whole N m0 most s) {k : Nat} (h0 : 0 < k) (hk : k < s.marks.length) : ∃ i u q : Nat, nth s.first k = q ∧ q < s.arcs.length ∧ ix s.arcs q = ⟨i, u, k⟩ ∧ trail s k = (u : Int) :: trail s i ∧ i < k ∧ Fires N (ix s.marks i) u (ix s.marks k) := by
  obtain ⟨q, i, u, e1, e2, e3, e4, e5⟩ := h.arcAt h0 hk
  refine ⟨i, u, q, e1, e2, e3, ?_, e4, e5⟩
  rw [trail_pos h h0 hk, e1, Int.toNat_natCast, e3]
  simp only [Int.toNat_natCast]
theorem Whole.first_mark (h : Whole N m0 most s) : ix s.marks 0 = m0 := by
  obtain ⟨r, hr⟩ := h.head; rw [hr, ix_zero]
/-- the way to a mark leads there -/
theorem trail_runs (h : Whole N m0 most s) : ∀ (k : Nat), k < s.marks.length → Runs N m0 (trail s k).reverse (ix s.marks k) := by
  intro k
  induction k using Nat.strongRecOn with
  | ind k ih =>
    intro hk
    by_cases h0 : 0 < k
    · obtain ⟨i, u, q, _, _, _, e1, e2, e3⟩ := trail_arc h h0 hk
      rw [e1, List.reverse_cons]
      exact (ih i e2 (by omega)).snoc e3
    · have : k = 0 := by omega
      subst this
      rw [trail_zero, h.first_mark]
      exact .nil _
theorem Whole.srcs (h : Whole N m0 most s) {q q' : Nat} (hq : q ≤ q') (hq' : q' < s.arcs.length) : (ix s.arcs q).src ≤ (ix s.arcs q').src := by
  by_cases he : q = q'
  · rw [he]; exact Int.le_refl _
  · have := List.pairwise_iff_getElem.1 h.sorted q q' (by omega) hq' (by omega)
    rwa [ix_lt (by omega), ix_lt hq']
theorem trail_mono (h : Whole N m0 most s) : ∀ (k' k : Nat), k ≤ k' → k' < s.marks.length → (trail s k).length ≤ (trail s k').length := by
  intro k'
  induction k' using Nat.strongRecOn with
  | ind k' ih =>
    intro k hk hk'
    by_cases h0 : 0 < k
    · by_cases he : k = k'
      · rw [he]; exact Nat.le_refl _
      · obtain ⟨i, u, q, e1, e2, e3, e4, e5, _⟩ := trail_arc h h0 (by omega)
        obtain ⟨i', u', q', f1, f2, f3, f4, f5, _⟩ := trail_arc h (k := k') (by omega) hk'
        have hr := h.rise k k' h0 (by omega) hk'
        have hs := h.srcs (q := q) (q' := q') (by omega) f2
        rw [e3, f3] at hs
        simp only [] at hs
        rw [e4, f4]
        have := ih i' f5 i (by omega) (by omega)
        simp only [List.length_cons]; omega
    · have : k = 0 := by omega
      subst this
      rw [trail_zero]; exact Nat.zero_le _
theorem trail_next (h : Whole N m0 most s) {a : ArcD} (ha : a ∈ s.arcs) {i u j : Nat} (he : a = ⟨i, u, j⟩) (hi : i < s.marks.length) (hj : j < s.marks.length) : (trail s j).length ≤ (trail s i).length + 1 := by
  subst he
  by_cases h0 : 0 < j
  · obtain ⟨q', hq', hqe⟩ := List.getElem_of_mem ha
    obtain ⟨q, f1, f2, f3, f4, f5⟩ := h.first j h0 hj
    have h1 := f5 q' hq' (by rw [ix_lt hq', hqe])
    obtain ⟨i', u', q2, e1, e2, e3, e4, e5, _⟩ := trail_arc h h0 hj
    have : q2 = q := by omega
    subst this
    have hs := h.srcs h1 hq'
    rw [e3, ix_lt hq', hqe] at hs
    simp only [] at hs
    have := trail_mono h i i' (by omega) hi
    rw [e4, List.length_cons]; omega
  · have : j = 0 := by omega
    subst this
    rw [trail_zero]; exact Nat.zero_le _
theorem Whole.inj (h : Whole N m0 most s) {i j : Nat} (hi : i < s.marks.length) (hj : j < s.marks.length) (he : ix s.marks i = ix s.marks j) : i = j := by
  rw [ix_lt hi, ix_lt hj] at he
  exact (List.getElem_inj h.nodup).1 he
theorem trail_short (h : Whole N m0 most s) {x q y : List Int} (hr : Runs N x q y) : ∀ i, i < s.marks.length → x = ix s.marks i → ∃ j, j < s.marks.length ∧ y = ix s.marks j ∧ (trail s j).length ≤ (trail s i).length + q.length := by
  induction hr with
  | nil x => intro i hi hx; exact ⟨i, hi, hx, by simp⟩
  | @cons x y z q k hF _ ih =>
    intro i hi hx
    subst hx
    obtain ⟨a, h1, h2, h3⟩ := h.done i hi k ((hasB_iff _ _).1 ((enabled_has (k : Int)).2 ⟨k, rfl, hF.lt, hF.pre⟩))
    obtain ⟨i', k', j, he, h4, h5, h6⟩ := h.arc a h1
    have he' := he
    rw [he] at h2 h3
    simp only [] at h2 h3
    have e1 : i' = i := by omega
    have e2 : k' = k := by omega
    subst e1 e2
    obtain ⟨j2, g1, g2, g3⟩ := ih j h5 (hF.unique h6)
    have := trail_next h h1 he' hi h5
    exact ⟨j2, g1, g2, by rw [List.length_cons]; omega⟩
/-- no run that is shorter leads to a mark -/
theorem trail_least (h : Whole N m0 most s) {q : List Int} {k : Nat} (hk : k < s.marks.length) (hr : Runs N m0 q (ix s.marks k)) : (trail s k).length ≤ q.length := by
  obtain ⟨r, hh⟩ := h.head
  have h0 : 0 < s.marks.length := by rw [hh]; simp
  obtain ⟨j, h1, h2, h3⟩ := trail_short h hr 0 h0 h.first_mark.symm
  have := h.inj hk h1 h2
  subst this
  rw [trail_zero] at h3
  simpa using h3
end

/-! ### more room -/
section
variable {N : NetD} {most more : Nat}
theorem find_len {s s' : FinD} {x : List Int} {c : Int} {k : Nat} (h : findF most s x c = some (k, s')) : s.marks.length ≤ s'.marks.length := by
  unfold findF at h
  split at h
  · cases h; exact Nat.le_refl _
  · split at h
    · cases h
    · cases h; simp
theorem find_more {s s' : FinD} {x : List Int} {c : Int} {k : Nat} (h : findF most s x c = some (k, s')) (hl : s'.marks.length ≤ more) : findF more s x c = some (k, s') := by
  unfold findF at *
  split at h
  · rename_i hx; rw [if_pos hx]; exact h
  · rename_i hx
    rw [if_neg hx]
    split at h
    · cases h
    · cases h
      simp at hl
      rw [if_neg (by omega)]
theorem find_less {s s' : FinD} {x : List Int} {c : Int} {k : Nat} (h : findF most s x c = some (k, s')) (h0 : s.marks.length ≤ more) (hl : more < s'.marks.length) : findF more s x c = none := by
  unfold findF at *
  split at h
  · cases h; omega
  · rename_i hx
    rw [if_neg hx]
    split at h
    · cases h
    · cases h
      simp at hl
      rw [if_pos (by omega)]
theorem step_cases {m : List Int} {i : Nat} {s s' : FinD} {t : Int} (h : stepF N most m i s t = (s', 0)) : (fireF N m t).2 = 0 ∧ ∃ k s1, findF most s (fireF N m t).1 s.arcs.length = some (k, s1) ∧ s' = ⟨s1.marks, s1.arcs ++ [⟨i, t, k⟩], s1.first⟩ := by
  unfold stepF at h
  split at h
  · rename_i h0
    refine ⟨h0, ?_⟩
    cases hf : findF most s (fireF N m t).1 s.arcs.length with
    | none => rw [hf] at h; cases h
    | some r => rw [hf] at h; obtain ⟨k, s1⟩ := r; exact ⟨k, s1, rfl, (Prod.mk.inj h).1.symm⟩
  · rename_i h0; exact absurd (Prod.mk.inj h).2 h0
theorem step_len {m : List Int} {i : Nat} {s s' : FinD} {t : Int} (h : stepF N most m i s t = (s', 0)) : s.marks.length ≤ s'.marks.length := by
  obtain ⟨_, k, s1, h1, rfl⟩ := step_cases h
  have := find_len h1
  exact this
theorem step_more {m : List Int} {i : Nat} {s s' : FinD} {t : Int} (h : stepF N most m i s t = (s', 0)) (hl : s'.marks.length ≤ more) : stepF N more m i s t = (s', 0) := by
  obtain ⟨h0, k, s1, h1, rfl⟩ := step_cases h
  unfold stepF
  rw [if_pos h0, find_more h1 hl]; rfl
theorem step_less {m : List Int} {i : Nat} {s s' : FinD} {t : Int} (h : stepF N most m i s t = (s', 0)) (h0 : s.marks.length ≤ more) (hl : more < s'.marks.length) : (stepF N more m i s t).2 = 4 := by
  obtain ⟨h2, k, s1, h1, rfl⟩ := step_cases h
  unfold stepF
  rw [if_pos h2, find_less h1 h0 hl]; rfl
theorem steps_cases {m : List Int} {i : Nat} {s s' : FinD} {t : Int} {l : List Int} (h : stepsF N most m i s (t :: l) = (s', 0)) : ∃ s1, stepF N most m i s t = (s1, 0) ∧ stepsF N most m i s1 l = (s', 0) := by
  rw [steps_cons] at h
  split at h
  · rename_i h0; exact ⟨_, Prod.ext rfl h0, h⟩
  · rename_i h0; rw [h] at h0; exact absurd rfl h0
theorem steps_len {m : List Int} {i : Nat} : ∀ {l : List Int} {s s' : FinD}, stepsF N most m i s l = (s', 0) → s.marks.length ≤ s'.marks.length
  | [], s, s', h => by cases h; exact Nat.le_refl _
  | t :: l, s, s', h => by
    obtain ⟨s1, h1, h2⟩ := steps_cases h
    exact Nat.le_trans (step_len h1) (steps_len h2)
theorem steps_more {m : List Int} {i : Nat} : ∀ {l : List Int} {s s' : FinD}, stepsF N most m i s l = (s', 0) → s'.marks.length ≤ more → stepsF N more m i s l = (s', 0)
  | [], s, s', h, _ => h
  | t :: l, s, s', h, hl => by
    obtain ⟨s1, h1, h2⟩ := steps_cases h
    rw [steps_cons, step_more h1 (Nat.le_trans (steps_len h2) hl)]
    exact steps_more h2 hl
theorem steps_less {m : List Int} {i : Nat} : ∀ {l : List Int} {s s' : FinD}, stepsF N most m i s l = (s', 0) → s.marks.length ≤ more → more < s'.marks.length → (stepsF N more m i s l).2 = 4
  | [], s, s', h, h0, hl => by cases h; omega
  | t :: l, s, s', h, h0, hl => by
    obtain ⟨s1, h1, h2⟩ := steps_cases h
    rw [steps_cons]
    by_cases h3 : s1.marks.length ≤ more
    · rw [step_more h1 h3]
      exact steps_less h2 h3 hl
    · have := step_less (more := more) h1 h0 (by omega)
      rw [if_neg (by omega)]; exact this
theorem expl_len : ∀ {f i : Nat} {s s' : FinD}, explF N most f i s = (s', 0) → s.marks.length ≤ s'.marks.length
  | 0, i, s, s', h => by cases h; exact Nat.le_refl _
  | f + 1, i, s, s', h => by
    rw [expl_succ] at h
    split at h
    · rcases hs : stepsF N most (ix s.marks i) i s (enabledL N (ix s.marks i)) with ⟨s1, e⟩
      rw [hs] at h
      by_cases he : e = 0
      · subst he
        simp only [if_true] at h
        exact Nat.le_trans (steps_len hs) (expl_len h)
      · simp only [if_neg he] at h; cases h; exact absurd rfl he
    · cases h; exact Nat.le_refl _
theorem expl_more : ∀ {f i : Nat} {s s' : FinD}, explF N most f i s = (s', 0) → s'.marks.length ≤ more → explF N more f i s = (s', 0)
  | 0, i, s, s', h, _ => h
  | f + 1, i, s, s', h, hl => by
    rw [expl_succ] at h ⊢
    split at h
    · rename_i hi
      rw [if_pos hi]
      rcases hs : stepsF N most (ix s.marks i) i s (enabledL N (ix s.marks i)) with ⟨s1, e⟩
      rw [hs] at h
      by_cases he : e = 0
      · subst he
        simp only [if_true] at h
        rw [steps_more hs (Nat.le_trans (expl_len h) hl)]
        simp only [if_true]
        exact expl_more h hl
      · simp only [if_neg he] at h; cases h; exact absurd rfl he
    · rename_i hi; rw [if_neg hi]; exact h
theorem expl_less : ∀ {f i : Nat} {s s' : FinD}, explF N most f i s = (s', 0) → s.marks.length ≤ more → more < s'.marks.length → (explF N more f i s).2 = 4
  | 0, i, s, s', h, h0, hl => by cases h; omega
  | f + 1, i, s, s', h, h0, hl => by
    rw [expl_succ] at h ⊢
    split at h
    · rename_i hi
      rw [if_pos hi]
      rcases hs : stepsF N most (ix s.marks i) i s (enabledL N (ix s.marks i)) with ⟨s1, e⟩
      rw [hs] at h
      by_cases he : e = 0
      · subst he
        simp only [if_true] at h
        by_cases h3 : s1.marks.length ≤ more
        · rw [steps_more hs h3]
          simp only [if_true]
          exact expl_less h h3 hl
        · have := steps_less (more := more) hs h0 (by omega)
          rw [if_neg (by omega)]; exact this
      · simp only [if_neg he] at h; cases h; exact absurd rfl he
    · cases h; omega
end
theorem graph_more {N : NetD} {m : List Int} {most more : Int} {a : SpaceD} (h : graphF N m most = (a, 0)) (h1 : 1 ≤ more) (h2 : more ≤ 300) (h3 : (a.marks.length : Int) ≤ more) : graphF N m more = (a, 0) := by
  unfold graphF at h
  split at h
  · rename_i h0
    rcases hs : searchF N m most with ⟨s, e⟩
    rw [hs] at h h0
    simp only [] at h0
    subst h0
    obtain ⟨g1, g2, hf, _⟩ := search_ok hs
    cases h
    have hs' := hs
    unfold searchF at hs'
    rw [if_neg (by omega), if_neg (by rw [hf]; decide)] at hs'
    have hm := expl_more (more := more.toNat) hs' (by simp only [FinD.space] at h3; omega)
    have hse : searchF N m more = (s, 0) := by
      unfold searchF
      rw [if_neg (by omega), if_neg (by rw [hf]; decide)]; exact hm
    unfold graphF
    rw [hse]; rfl
  · rename_i h0; exact absurd (Prod.mk.inj h).2 h0
theorem graph_less {N : NetD} {m : List Int} {most more : Int} {a : SpaceD} (h : graphF N m most = (a, 0)) (h1 : 1 ≤ more) (h2 : more ≤ 300) (h3 : more < (a.marks.length : Int)) : graphF N m more = (zeroS, 4) := by
  unfold graphF at h
  split at h
  · rename_i h0
    rcases hs : searchF N m most with ⟨s, e⟩
    rw [hs] at h h0
    simp only [] at h0
    subst h0
    obtain ⟨g1, g2, hf, _⟩ := search_ok hs
    cases h
    have hs' := hs
    unfold searchF at hs'
    rw [if_neg (by omega), if_neg (by rw [hf]; decide)] at hs'
    have hm := expl_less (more := more.toNat) hs' (by simp [fin0]; omega) (by simp only [FinD.space] at h3; omega)
    have hse : (searchF N m more).2 = 4 := by
      unfold searchF
      rw [if_neg (by omega), if_neg (by rw [hf]; decide)]; exact hm
    unfold graphF
    rw [hse]; rfl
  · rename_i h0; exact absurd (Prod.mk.inj h).2 h0
end Go.Tok

/- What is live, dead, stuck, home in a space, as plain functions on lists. No program is in sight here. -/
namespace Go.Tok
set_option linter.unusedVariables false

/-! ### links -/
abbrev Edges := List (Int × Int)
def edgesF (arcs : List ArcD) (back : Bool) : Edges := arcs.map fun a => if back then (a.dst, a.src) else (a.src, a.dst)
def linkRow (es : Edges) (k : Nat) : List Int := (es.filter fun e => decide (e.1 = (k : Int))).map (·.2)
def linksF (n : Nat) (es : Edges) : List (List Int) := (List.range n).map fun k => linkRow es k
theorem linksF_len (n : Nat) (es : Edges) : (linksF n es).length = n := by simp [linksF]
theorem linksF_ix {n : Nat} (es : Edges) {k : Nat} (h : k < n) : ix (linksF n es) k = linkRow es k := by
  rw [ix_lt (by rw [linksF_len]; exact h)]; simp [linksF]
theorem linkRow_mem {es : Edges} {k : Nat} {t : Int} : t ∈ linkRow es k ↔ ((k : Int), t) ∈ es := by
  unfold linkRow
  rw [List.mem_map]
  constructor
  · rintro ⟨⟨a, b⟩, h, rfl⟩
    rw [List.mem_filter] at h
    obtain ⟨h1, h2⟩ := h
    have : a = (k : Int) := by simpa using h2
    subst this; exact h1
  · intro h
    exact ⟨_, List.mem_filter.2 ⟨h, by simp⟩, rfl⟩
theorem linksF_nil (n : Nat) : linksF n [] = List.replicate n [] := by
  apply List.ext_getElem <;> simp [linksF, linkRow]
theorem linksF_snoc (n : Nat) (es : Edges) {f : Nat} (t : Int) (h : f < n) : linksF n (es ++ [((f : Int), t)]) = (linksF n es).set f (linkRow es f ++ [t]) := by
  apply List.ext_getElem
  · simp [linksF]
  · intro i h1 h2
    rw [List.getElem_set]
    simp only [linksF, List.getElem_map, List.getElem_range]
    unfold linkRow
    rw [List.filter_append]
    by_cases hi : f = i
    · subst hi; simp
    · rw [if_neg hi]
      have : decide ((f : Int) = (i : Int)) = false := by simp; omega
      simp [this]

/-! ### whatever links lead to -/
inductive Rch (L : List (List Int)) : Nat → Nat → Prop
  | refl (k : Nat) : Rch L k k
  | step {i j k : Nat} (h : Rch L i j) (hk : (k : Int) ∈ ix L j) : Rch L i k
theorem Rch.trans {L : List (List Int)} {i j k : Nat} (h : Rch L i j) (h' : Rch L j k) : Rch L i k := by
  induction h' with
  | refl => exact h
  | step _ hk ih => exact .step ih hk

def todoW (L : List (List Int)) (inn : List Bool) : Nat := ((List.range L.length).map fun k => if ix inn k then 0 else (ix L k).length + 1).sum
/-- the search: the last one of those that wait is the next one -/
def spreadL (L : List (List Int)) : Nat → List Bool → List Int → List Bool
  | 0, inn, _ => inn
  | f + 1, inn, T =>
    match T.getLast? with
    | none => inn
    | some k => if ix inn k.toNat then spreadL L f inn T.dropLast else spreadL L f (inn.set k.toNat true) (T.dropLast ++ ix L k.toNat)
def spreadF (L : List (List Int)) (from_ : List Int) : List Bool := spreadL L (todoW L (List.replicate L.length false) + from_.length + 1) (List.replicate L.length false) from_

theorem sum_map_set {L : List (List Int)} {inn : List Bool} {k : Nat} (hk : k < L.length) (hl : inn.length = L.length) (hn : ix inn k = false) : todoW L (inn.set k true) + (ix L k).length + 1 = todoW L inn := by
  unfold todoW
  have key : ∀ n, n ≤ L.length → ((List.range n).map fun j => if ix (inn.set k true) j then 0 else (ix L j).length + 1).sum + (if k < n then (ix L k).length + 1 else 0) = ((List.range n).map fun j => if ix inn j then 0 else (ix L j).length + 1).sum := by
    intro n
    induction n with
    | zero => intro _; simp
    | succ n ih =>
      intro h
      have ih := ih (by omega)
      rw [List.range_succ, List.map_append, List.sum_append, List.map_append, List.sum_append]
      simp only [List.map_cons, List.map_nil, List.sum_cons, List.sum_nil]
      by_cases hkn : k = n
      · subst hkn
        have e1 : ix (inn.set k true) k = true := by rw [ix_lt (by simp; omega)]; simp
        have a1 : (if k < k then (ix L k).length + 1 else 0) = 0 := if_neg (by omega)
        have a2 : (if k < k + 1 then (ix L k).length + 1 else 0) = (ix L k).length + 1 := if_pos (by omega)
        have a3 : (if ix (inn.set k true) k = true then 0 else (ix L k).length + 1) = 0 := if_pos e1
        have a4 : (if ix inn k = true then 0 else (ix L k).length + 1) = (ix L k).length + 1 := if_neg (by rw [hn]; decide)
        rw [a2, a3, a4]
        rw [a1] at ih
        omega
      · have e1 : ix (inn.set k true) n = ix inn n := by
          rw [ix_lt (by simp; omega), ix_lt (by omega), List.getElem_set_ne (by omega)]
        rw [e1]
        by_cases h2 : k < n
        · have a1 : (if k < n then (ix L k).length + 1 else 0) = (ix L k).length + 1 := if_pos h2
          have a2 : (if k < n + 1 then (ix L k).length + 1 else 0) = (ix L k).length + 1 := if_pos (by omega)
          rw [a2]
          rw [a1] at ih
          omega
        · have a1 : (if k < n then (ix L k).length + 1 else 0) = 0 := if_neg h2
          have a2 : (if k < n + 1 then (ix L k).length + 1 else 0) = 0 := if_neg (by omega)
          rw [a2]
          rw [a1] at ih
          omega
  have := key L.length (Nat.le_refl _)
  rw [if_pos hk] at this
  omega

/-- while it goes on -/
structure Spr (L : List (List Int)) (from_ : List Int) (inn : List Bool) (T : List Int) : Prop where
  len : inn.length = L.length
  todo : ∀ t ∈ T, ∃ k : Nat, t = k ∧ k < L.length ∧ ∃ f : Nat, (f : Int) ∈ from_ ∧ Rch L f k
  marked : ∀ k, k < L.length → ix inn k = true → ∃ f : Nat, (f : Int) ∈ from_ ∧ Rch L f k
  start : ∀ f ∈ from_, ix inn f.toNat = true ∨ f ∈ T
  closed : ∀ k, k < L.length → ix inn k = true → ∀ t ∈ ix L k, ix inn t.toNat = true ∨ t ∈ T
/-- links lead to marks -/
def LinksOk (L : List (List Int)) : Prop := ∀ k, k < L.length → ∀ t ∈ ix L k, ∃ j : Nat, t = j ∧ j < L.length
theorem Spr.zero {L : List (List Int)} {from_ : List Int} (h : ∀ f ∈ from_, ∃ k : Nat, f = k ∧ k < L.length) : Spr L from_ (List.replicate L.length false) from_ := by
  have hf : ∀ k, ix (List.replicate L.length false) k = false := fun k => by
    by_cases hk : k < L.length
    · rw [ix_lt (by simpa using hk)]; simp
    · rw [ix_ge (by simpa using hk)]; rfl
  refine ⟨by simp, fun t ht => ?_, fun k _ hk => ?_, fun f hf => .inr hf, fun k _ hk => ?_⟩
  · obtain ⟨k, rfl, hk⟩ := h t ht
    exact ⟨k, rfl, hk, k, ht, .refl k⟩
  · rw [hf] at hk; cases hk
  · rw [hf] at hk; cases hk
theorem ix_set_self {inn : List Bool} {k : Nat} (h : k < inn.length) (b : Bool) : ix (inn.set k b) k = b := by rw [ix_lt (by simpa using h)]; simp
theorem ix_set_ne {inn : List Bool} {k j : Nat} (h : k ≠ j) (b : Bool) : ix (inn.set k b) j = ix inn j := by
  by_cases hj : j < inn.length
  · rw [ix_lt (by simpa using hj), ix_lt hj, List.getElem_set_ne h]
  · rw [ix_ge (by simpa using hj), ix_ge (by omega)]
theorem Spr.pop {L : List (List Int)} {from_ T : List Int} {inn : List Bool} {k : Nat} (h : Spr L from_ inn (T ++ [(k : Int)])) (hk : ix inn k = true) : Spr L from_ inn T := by
  refine ⟨h.len, fun t ht => h.todo t (List.mem_append_left _ ht), h.marked, fun f hf => ?_, fun j hj hij t ht => ?_⟩
  · rcases h.start f hf with h1 | h1
    · exact .inl h1
    · rcases List.mem_append.1 h1 with h1 | h1
      · exact .inr h1
      · rw [List.mem_singleton.1 h1]; exact .inl hk
  · rcases h.closed j hj hij t ht with h1 | h1
    · exact .inl h1
    · rcases List.mem_append.1 h1 with h1 | h1
      · exact .inr h1
      · rw [List.mem_singleton.1 h1]; exact .inl hk
theorem Spr.push {L : List (List Int)} {from_ T : List Int} {inn : List Bool} {k : Nat} (hL : LinksOk L) (h : Spr L from_ inn (T ++ [(k : Int)])) (hkl : k < L.length) : Spr L from_ (inn.set k true) (T ++ ix L k) := by
  obtain ⟨k', hk', _, f0, hf0, hr⟩ := h.todo (k : Int) (by simp)
  have : k = k' := by omega
  subst this
  have hlen : k < inn.length := by rw [h.len]; exact hkl
  have hset : ∀ j, ix inn j = true → ix (inn.set k true) j = true := fun j hj => by
    by_cases e : k = j
    · subst e; exact ix_set_self hlen true
    · rw [ix_set_ne e]; exact hj
  have hmem : ∀ t, (ix inn t.toNat = true ∨ t ∈ T ++ [(k : Int)]) → ix (inn.set k true) t.toNat = true ∨ t ∈ T ++ ix L k := by
    intro t ht
    rcases ht with h1 | h1
    · exact .inl (hset _ h1)
    · rcases List.mem_append.1 h1 with h1 | h1
      · exact .inr (List.mem_append_left _ h1)
      · rw [List.mem_singleton.1 h1, Int.toNat_natCast]; exact .inl (ix_set_self hlen true)
  refine ⟨by simpa using h.len, fun t ht => ?_, fun j hj hij => ?_, fun f hf => hmem f (h.start f hf), fun j hj hij t ht => ?_⟩
  · rcases List.mem_append.1 ht with h1 | h1
    · exact h.todo t (List.mem_append_left _ h1)
    · obtain ⟨j, rfl, hj⟩ := hL k hkl t h1
      exact ⟨j, rfl, hj, f0, hf0, .step hr h1⟩
  · by_cases e : k = j
    · subst e; exact ⟨f0, hf0, hr⟩
    · rw [ix_set_ne e] at hij; exact h.marked j hj hij
  · by_cases e : k = j
    · subst e; exact .inr (List.mem_append_right _ ht)
    · rw [ix_set_ne e] at hij; exact hmem t (h.closed j hj hij t ht)
theorem Spr.done {L : List (List Int)} {from_ : List Int} {inn : List Bool} (h : Spr L from_ inn []) {k : Nat} (hk : k < L.length) : ix inn k = true ↔ ∃ f : Nat, (f : Int) ∈ from_ ∧ Rch L f k := by
  refine ⟨h.marked k hk, ?_⟩
  rintro ⟨f, hf, hr⟩
  have h0 : ix inn f = true := by
    rcases h.start _ hf with h1 | h1
    · simpa using h1
    · simp at h1
  clear hf hk
  induction hr with
  | refl => exact h0
  | @step j k hr' hk' ih =>
    have hj := ih
    have hjl : j < L.length := by
      rcases Nat.lt_or_ge j L.length with h1 | h1
      · exact h1
      · rw [ix_ge (by rw [h.len]; exact h1)] at hj; cases hj
    rcases h.closed j hjl hj _ hk' with h1 | h1
    · simpa using h1
    · simp at h1
theorem spreadL_spec {L : List (List Int)} {from_ : List Int} (hL : LinksOk L) : ∀ (f : Nat) (inn : List Bool) (T : List Int), Spr L from_ inn T → todoW L inn + T.length < f → Spr L from_ (spreadL L f inn T) [] := by
  intro f
  induction f with
  | zero => intro inn T _ h; omega
  | succ f ih =>
    intro inn T h hf
    rcases List.eq_nil_or_concat T with rfl | ⟨T', t, rfl⟩
    · simp only [spreadL, List.getLast?_nil]; exact h
    · rw [List.concat_eq_append] at h hf ⊢
      obtain ⟨k, rfl, hk, _⟩ := h.todo t (by simp)
      simp only [spreadL, List.getLast?_append, List.getLast?_singleton, Option.some_or, Int.toNat_natCast, List.dropLast_concat]
      rw [List.length_append, List.length_singleton] at hf
      cases hi : ix inn k
      · rw [if_neg (by decide)]
        have := sum_map_set hk h.len hi
        exact ih _ _ (h.push hL hk) (by rw [List.length_append]; omega)
      · rw [if_pos rfl]
        exact ih _ _ (h.pop hi) (by omega)
theorem spreadF_len {L : List (List Int)} {from_ : List Int} (hL : LinksOk L) (h : ∀ f ∈ from_, ∃ k : Nat, f = k ∧ k < L.length) : (spreadF L from_).length = L.length :=
  (spreadL_spec hL _ _ _ (Spr.zero h) (by omega)).len
theorem spreadF_iff {L : List (List Int)} {from_ : List Int} (hL : LinksOk L) (h : ∀ f ∈ from_, ∃ k : Nat, f = k ∧ k < L.length) {k : Nat} (hk : k < L.length) : ix (spreadF L from_) k = true ↔ ∃ f : Nat, (f : Int) ∈ from_ ∧ Rch L f k :=
  (spreadL_spec hL _ _ _ (Spr.zero h) (by omega)).done hk
theorem spread_nil {L : List (List Int)} {f : Nat} {inn : List Bool} : spreadL L f inn [] = inn := by cases f <;> rfl
theorem spread_in {L : List (List Int)} {f : Nat} {inn : List Bool} {T : List Int} {k : Nat} (h : ix inn k = true) : spreadL L (f + 1) inn (T ++ [(k : Int)]) = spreadL L f inn T := by
  simp only [spreadL, List.getLast?_append, List.getLast?_singleton, Option.some_or, Int.toNat_natCast, List.dropLast_concat]
  rw [if_pos h]
theorem spread_out {L : List (List Int)} {f : Nat} {inn : List Bool} {T : List Int} {k : Nat} (h : ix inn k = false) : spreadL L (f + 1) inn (T ++ [(k : Int)]) = spreadL L f (inn.set k true) (T ++ ix L k) := by
  simp only [spreadL, List.getLast?_append, List.getLast?_singleton, Option.some_or, Int.toNat_natCast, List.dropLast_concat]
  rw [if_neg (by rw [h]; decide)]

/-! ### right spaces; what is live, dead, stuck, home -/
def arcBad (n : Nat) (a : ArcD) : Bool := decide (a.src < 0) || decide (a.dst < 0) || decide ((n : Int) ≤ a.src) || decide ((n : Int) ≤ a.dst)
def sRightB (S : SpaceD) : Bool := !(S.arcs.any (arcBad S.marks.length))
theorem sRight_arc {S : SpaceD} (h : sRightB S = true) {a : ArcD} (ha : a ∈ S.arcs) : ∃ i j : Nat, a.src = i ∧ a.dst = j ∧ i < S.marks.length ∧ j < S.marks.length := by
  unfold sRightB at h
  rw [Bool.not_eq_true', List.any_eq_false] at h
  have := h a ha
  unfold arcBad at this
  simp at this
  exact ⟨a.src.toNat, a.dst.toNat, by omega, by omega, by omega, by omega⟩
def backL (S : SpaceD) : List (List Int) := linksF S.marks.length (edgesF S.arcs true)
def allIn (bs : List Bool) : Bool := !(bs.contains false)
def froms (S : SpaceD) (t : Int) : List Int := (S.arcs.filter fun a => decide (a.tran = t)).map (·.src)
def upTo (trans : Int) : Nat := (min trans 24).toNat
def liveF (S : SpaceD) (trans : Int) : List Int := if sRightB S then ((List.range (upTo trans)).filter fun (t : Nat) => allIn (spreadF (backL S) (froms S (t : Int)))).map Int.ofNat else []
def deadF (S : SpaceD) (trans : Int) : List Int := ((List.range (upTo trans)).filter fun (t : Nat) => !(S.arcs.any fun a => decide (a.tran = (t : Int)))).map Int.ofNat
def homeF (S : SpaceD) : List Int := if sRightB S then ((List.range S.marks.length).filter fun (k : Nat) => allIn (spreadF (backL S) [(k : Int)])).map Int.ofNat else []
def srcOk (n : Nat) (a : ArcD) : Bool := decide (0 ≤ a.src) && decide (a.src < (n : Int))
def onL (S : SpaceD) : List (List Int) := linksF S.marks.length (edgesF (S.arcs.filter (srcOk S.marks.length)) false)
def stuckF (S : SpaceD) : List Int := ((List.range S.marks.length).filter fun k => (ix (onL S) k).isEmpty).map Int.ofNat
theorem back_len (S : SpaceD) : (backL S).length = S.marks.length := linksF_len _ _
theorem mem_edges {arcs : List ArcD} {f t : Int} : (f, t) ∈ edgesF arcs true ↔ ∃ a ∈ arcs, a.dst = f ∧ a.src = t := by
  unfold edgesF
  rw [List.mem_map]
  constructor
  · rintro ⟨a, ha, h⟩; simp at h; exact ⟨a, ha, h.1, h.2⟩
  · rintro ⟨a, ha, h1, h2⟩; exact ⟨a, ha, by simp [h1, h2]⟩
theorem back_mem {S : SpaceD} {j : Nat} (hj : j < S.marks.length) {t : Int} : t ∈ ix (backL S) j ↔ ∃ a ∈ S.arcs, a.dst = j ∧ a.src = t := by
  unfold backL
  rw [linksF_ix _ hj, linkRow_mem, mem_edges]
theorem back_ok {S : SpaceD} (h : sRightB S = true) : LinksOk (backL S) := by
  intro k hk t ht
  rw [back_len] at hk
  obtain ⟨a, ha, h1, h2⟩ := (back_mem hk).1 ht
  obtain ⟨i, j, h3, h4, h5, h6⟩ := sRight_arc h ha
  exact ⟨i, by omega, by rw [back_len]; exact h5⟩
theorem froms_ok {S : SpaceD} (h : sRightB S = true) (t : Int) : ∀ f ∈ froms S t, ∃ k : Nat, f = k ∧ k < (backL S).length := by
  intro f hf
  unfold froms at hf
  obtain ⟨a, ha, rfl⟩ := List.mem_map.1 hf
  obtain ⟨i, j, h3, h4, h5, h6⟩ := sRight_arc h (List.mem_filter.1 ha).1
  exact ⟨i, h3, by rw [back_len]; exact h5⟩
/-- from i one comes to j, by arcs -/
inductive Goes (S : SpaceD) : Nat → Nat → Prop
  | refl (k : Nat) : Goes S k k
  | step {i j k : Nat} {a : ArcD} (ha : a ∈ S.arcs) (h1 : a.src = i) (h2 : a.dst = j) (h : Goes S j k) : Goes S i k
theorem rch_goes {S : SpaceD} (h : sRightB S = true) {i j : Nat} (hi : i < S.marks.length) (hr : Rch (backL S) i j) : Goes S j i ∧ j < S.marks.length := by
  induction hr with
  | refl => exact ⟨.refl _, hi⟩
  | @step j k hr hk ih =>
    obtain ⟨g, hj⟩ := ih
    obtain ⟨a, ha, h1, h2⟩ := (back_mem hj).1 hk
    obtain ⟨i', j', h3, h4, h5, h6⟩ := sRight_arc h ha
    exact ⟨.step ha h2 h1 g, by omega⟩
theorem goes_rch {S : SpaceD} (h : sRightB S = true) {i j : Nat} (hg : Goes S j i) : i < S.marks.length → Rch (backL S) i j ∧ j < S.marks.length := by
  induction hg with
  | refl => exact fun hi => ⟨.refl _, hi⟩
  | @step i j k a ha h1 h2 _ ih =>
    intro hk
    obtain ⟨hr, hj⟩ := ih hk
    obtain ⟨i', j', h3, h4, h5, h6⟩ := sRight_arc h ha
    exact ⟨.step hr ((back_mem hj).2 ⟨a, ha, h2, h1⟩), by omega⟩
theorem allIn_iff {bs : List Bool} : allIn bs = true ↔ ∀ k, k < bs.length → ix bs k = true := by
  unfold allIn
  rw [Bool.not_eq_true']
  constructor
  · intro h k hk
    cases hb : ix bs k
    · exact absurd (List.contains_iff_mem.2 (hb ▸ ix_mem hk)) (by rw [h]; decide)
    · rfl
  · intro h
    rw [Bool.eq_false_iff]
    intro hc
    obtain ⟨k, hk, he⟩ := List.getElem_of_mem (List.contains_iff_mem.1 hc)
    have := h k hk
    rw [ix_lt hk, he] at this
    cases this
/-- live: from every mark one comes to where it fires -/
theorem live_iff {S : SpaceD} (h : sRightB S = true) {t : Nat} : allIn (spreadF (backL S) (froms S t)) = true ↔ ∀ k, k < S.marks.length → ∃ a ∈ S.arcs, a.tran = t ∧ ∃ f : Nat, a.src = f ∧ Goes S k f := by
  rw [allIn_iff, spreadF_len (back_ok h) (froms_ok h _), back_len]
  constructor
  · intro ha k hk
    obtain ⟨f, hf, hr⟩ := (spreadF_iff (back_ok h) (froms_ok h _) (by rw [back_len]; exact hk)).1 (ha k hk)
    obtain ⟨f', h1, h2⟩ := froms_ok h _ _ hf
    have : f = f' := by omega
    subst this
    rw [back_len] at h2
    unfold froms at hf
    obtain ⟨a, h3, h4⟩ := List.mem_map.1 hf
    obtain ⟨h5, h6⟩ := List.mem_filter.1 h3
    exact ⟨a, h5, by simpa using h6, f, h4, (rch_goes h h2 hr).1⟩
  · intro ha k hk
    obtain ⟨a, h1, h2, f, h3, h4⟩ := ha k hk
    obtain ⟨i, j, h5, h6, h7, h8⟩ := sRight_arc h h1
    have : f = i := by omega
    subst this
    refine (spreadF_iff (back_ok h) (froms_ok h _) (by rw [back_len]; exact hk)).2 ⟨f, ?_, (goes_rch h h4 h7).1⟩
    unfold froms
    exact List.mem_map.2 ⟨a, List.mem_filter.2 ⟨h1, by simpa using h2⟩, h3⟩
theorem home_iff {S : SpaceD} (h : sRightB S = true) {i : Nat} (hi : i < S.marks.length) : allIn (spreadF (backL S) [(i : Int)]) = true ↔ ∀ k, k < S.marks.length → Goes S k i := by
  have h1 : ∀ f ∈ [(i : Int)], ∃ k : Nat, f = k ∧ k < (backL S).length := by
    intro f hf; rw [List.mem_singleton.1 hf]; exact ⟨i, rfl, by rw [back_len]; exact hi⟩
  rw [allIn_iff, spreadF_len (back_ok h) h1, back_len]
  constructor
  · intro ha k hk
    obtain ⟨f, hf, hr⟩ := (spreadF_iff (back_ok h) h1 (by rw [back_len]; exact hk)).1 (ha k hk)
    have : f = i := by simp at hf; omega
    subst this
    exact (rch_goes h hi hr).1
  · intro ha k hk
    exact (spreadF_iff (back_ok h) h1 (by rw [back_len]; exact hk)).2 ⟨i, by simp, (goes_rch h (ha k hk) hi).1⟩
theorem mem_range_map {n : Nat} {p : Nat → Bool} {x : Int} : x ∈ ((List.range n).filter p).map Int.ofNat ↔ ∃ k : Nat, x = k ∧ k < n ∧ p k = true := by
  rw [List.mem_map]
  constructor
  · rintro ⟨k, h, rfl⟩; rw [List.mem_filter, List.mem_range] at h; exact ⟨k, rfl, h.1, h.2⟩
  · rintro ⟨k, rfl, h1, h2⟩; exact ⟨k, List.mem_filter.2 ⟨List.mem_range.2 h1, h2⟩, rfl⟩
theorem mem_live {S : SpaceD} {trans t : Int} : t ∈ liveF S trans ↔ sRightB S = true ∧ ∃ k : Nat, t = k ∧ k < upTo trans ∧ ∀ j, j < S.marks.length → ∃ a ∈ S.arcs, a.tran = k ∧ ∃ f : Nat, a.src = f ∧ Goes S j f := by
  unfold liveF
  cases h : sRightB S
  · simp
  · rw [if_pos rfl, mem_range_map]
    constructor
    · rintro ⟨k, h1, h2, h3⟩; exact ⟨rfl, k, h1, h2, (live_iff h).1 h3⟩
    · rintro ⟨_, k, h1, h2, h3⟩; exact ⟨k, h1, h2, (live_iff h).2 h3⟩
theorem mem_home {S : SpaceD} {x : Int} : x ∈ homeF S ↔ sRightB S = true ∧ ∃ i : Nat, x = i ∧ i < S.marks.length ∧ ∀ k, k < S.marks.length → Goes S k i := by
  unfold homeF
  cases h : sRightB S
  · simp
  · rw [if_pos rfl, mem_range_map]
    constructor
    · rintro ⟨k, h1, h2, h3⟩; exact ⟨rfl, k, h1, h2, (home_iff h h2).1 h3⟩
    · rintro ⟨_, k, h1, h2, h3⟩; exact ⟨k, h1, h2, (home_iff h h2).2 h3⟩
theorem mem_dead {S : SpaceD} {trans t : Int} : t ∈ deadF S trans ↔ ∃ k : Nat, t = k ∧ k < upTo trans ∧ ∀ a ∈ S.arcs, a.tran ≠ k := by
  unfold deadF
  rw [mem_range_map]
  constructor
  · rintro ⟨k, h1, h2, h3⟩
    exact ⟨k, h1, h2, by simpa using h3⟩
  · rintro ⟨k, h1, h2, h3⟩
    exact ⟨k, h1, h2, by simpa using h3⟩
theorem mem_stuck {S : SpaceD} {x : Int} : x ∈ stuckF S ↔ ∃ k : Nat, x = k ∧ k < S.marks.length ∧ ∀ a ∈ S.arcs, a.src ≠ k := by
  unfold stuckF
  rw [mem_range_map]
  have key : ∀ k : Nat, k < S.marks.length → ((ix (onL S) k).isEmpty = true ↔ ∀ a ∈ S.arcs, a.src ≠ k) := by
    intro k hk
    unfold onL
    rw [linksF_ix _ hk, List.isEmpty_iff, List.eq_nil_iff_forall_not_mem]
    constructor
    · intro h a ha he
      refine h a.dst (linkRow_mem.2 ?_)
      unfold edgesF
      exact List.mem_map.2 ⟨a, List.mem_filter.2 ⟨ha, by unfold srcOk; simp; omega⟩, by simp [he]⟩
    · intro h t ht
      have := linkRow_mem.1 ht
      unfold edgesF at this
      obtain ⟨a, ha, he⟩ := List.mem_map.1 this
      simp at he
      exact h a (List.mem_filter.1 ha).1 he.1
  constructor
  · rintro ⟨k, h1, h2, h3⟩; exact ⟨k, h1, h2, (key k h2).1 h3⟩
  · rintro ⟨k, h1, h2, h3⟩; exact ⟨k, h1, h2, (key k h2).2 h3⟩
/-- where one is stuck nothing is live, and home is there alone -/
theorem stuck_goes {S : SpaceD} {i j : Nat} (h : ∀ a ∈ S.arcs, a.src ≠ (i : Int)) (hg : Goes S i j) : i = j := by
  cases hg with
  | refl => rfl
  | step ha h1 => exact absurd h1 (h _ ha)
theorem stuck_live {S : SpaceD} {x : Int} (h : x ∈ stuckF S) (trans : Int) : liveF S trans = [] := by
  obtain ⟨k, rfl, hk, hs⟩ := mem_stuck.1 h
  rw [List.eq_nil_iff_forall_not_mem]
  intro t ht
  obtain ⟨_, u, _, _, hl⟩ := mem_live.1 ht
  obtain ⟨a, h1, _, f, h2, h3⟩ := hl k hk
  rw [← stuck_goes hs h3] at h2
  exact hs a h1 h2
theorem range_filter_one {n : Nat} {p : Nat → Bool} {i : Nat} (hi : i < n) (hp : p i = true) (h : ∀ j, j < n → p j = true → j = i) : (List.range n).filter p = [i] := by
  have hnd : ((List.range n).filter p).Nodup := List.nodup_range.filter _
  have hmem : ∀ x, x ∈ (List.range n).filter p ↔ x = i := by
    intro x
    rw [List.mem_filter, List.mem_range]
    exact ⟨fun hx => h x hx.1 hx.2, fun hx => by subst hx; exact ⟨hi, hp⟩⟩
  match hl : (List.range n).filter p with
  | [] => exact absurd ((hmem i).2 rfl) (by rw [hl]; simp)
  | [a] => rw [(hmem a).1 (by rw [hl]; simp)]
  | a :: b :: r =>
    rw [hl] at hnd hmem
    have e1 := (hmem a).1 (by simp)
    have e2 := (hmem b).1 (by simp)
    subst e1
    rw [List.nodup_cons] at hnd
    exact absurd (by rw [e2]; simp) hnd.1
theorem stuck_home {S : SpaceD} {x : Int} (h : x ∈ stuckF S) (hh : x ∈ homeF S) : (homeF S).length = 1 ∧ (stuckF S).length = 1 := by
  obtain ⟨k, rfl, hk, hs⟩ := mem_stuck.1 h
  obtain ⟨hr, i, hi, hil, hg⟩ := mem_home.1 hh
  have : k = i := by omega
  subst this
  constructor
  · unfold homeF
    rw [if_pos hr, range_filter_one hk ((home_iff hr hk).2 hg) fun j hj hp => (stuck_goes hs ((home_iff hr hj).1 hp k hk)).symm]
    rfl
  · have hp : ∀ j, j < S.marks.length → (ix (onL S) j).isEmpty = true → j = k := by
      intro j hj hp
      have hm : (j : Int) ∈ stuckF S := by unfold stuckF; exact mem_range_map.2 ⟨j, rfl, hj, hp⟩
      obtain ⟨j', hj', _, hs'⟩ := mem_stuck.1 hm
      have : j = j' := by omega
      subst this
      exact stuck_goes hs' (hg j hj)
    have hpk : (ix (onL S) k).isEmpty = true := by
      unfold stuckF at h
      obtain ⟨k', h1, _, h3⟩ := mem_range_map.1 h
      have : k = k' := by omega
      subst this
      exact h3
    unfold stuckF
    rw [range_filter_one hk hpk hp]; rfl
end Go.Tok

/- What a search finds from wherever it begins: what firing does not leave is found whole; arcs are firings, ways are runs. No program is in sight here. -/
namespace Go.Tok
set_option linter.unusedVariables false
set_option linter.unusedSimpArgs false

theorem nodup_sub {α : Type} [DecidableEq α] : ∀ (l C : List α), l.Nodup → (∀ x ∈ l, x ∈ C) → l.length ≤ C.length
  | [], C, _, _ => by simp
  | x :: l, C, hn, hs => by
    obtain ⟨h1, h2⟩ := List.nodup_cons.1 hn
    have hx : x ∈ C := hs x (by simp)
    have := nodup_sub l (C.erase x) h2 (fun y hy => (List.mem_erase_of_ne (fun e => h1 (by rw [← e]; exact hy))).2 (hs y (by simp [hy])))
    rw [List.length_erase_of_mem hx] at this
    have : 0 < C.length := List.length_pos_of_mem hx
    simp only [List.length_cons]; omega

section
variable {N : NetD} {m0 : List Int} {most : Nat} {s : FinD}
theorem Whole.reach (h : Whole N m0 most s) {x : List Int} (hx : x ∈ s.marks) : ∃ q, Runs N m0 q x := by
  obtain ⟨h1, h2⟩ := mem_idx hx
  have := trail_runs h _ h1
  rw [h2] at this
  exact ⟨_, this⟩
theorem Whole.sright (h : Whole N m0 most s) : sRightB ⟨s.marks, s.arcs⟩ = true := by
  unfold sRightB
  rw [Bool.not_eq_true', List.any_eq_false]
  intro a ha
  obtain ⟨i, k, j, rfl, h1, h2, _⟩ := h.arc a ha
  simp only [] at h1 h2 ⊢
  unfold arcBad
  simp
  omega
theorem Whole.goes (h : Whole N m0 most s) {i j : Nat} (hg : Goes ⟨s.marks, s.arcs⟩ i j) : i < s.marks.length → ∃ q, Runs N (ix s.marks i) q (ix s.marks j) := by
  induction hg with
  | refl k => exact fun _ => ⟨[], .nil _⟩
  | step ha h1 h2 _ ih =>
    intro _
    obtain ⟨i', k', j', rfl, h3, h4, h5⟩ := h.arc _ ha
    simp only [Int.natCast_inj] at h1 h2
    subst h1 h2
    obtain ⟨q, hq⟩ := ih h4
    exact ⟨_, .cons h5 hq⟩
theorem Whole.arcs_of (h : Whole N m0 most s) {i k : Nat} (hi : i < s.marks.length) (hk : k < N.trans.length) (hp : ∀ p, nth (N.tr k).pre p ≤ nth (ix s.marks i) p) : ∃ j : Nat, j < s.marks.length ∧ (⟨i, k, j⟩ : ArcD) ∈ s.arcs ∧ Fires N (ix s.marks i) k (ix s.marks j) := by
  obtain ⟨a, h1, h2, h3⟩ := h.done i hi k ((hasB_iff _ _).1 ((enabled_has (k : Int)).2 ⟨k, rfl, hk, hp⟩))
  obtain ⟨i', k', j, rfl, h4, h5, h6⟩ := h.arc a h1
  simp only [Int.natCast_inj] at h2 h3
  subst h2 h3
  exact ⟨j, h5, h1, h6⟩
theorem Whole.goes_of (h : Whole N m0 most s) {x q y : List Int} (hr : Runs N x q y) : ∀ {i}, i < s.marks.length → ix s.marks i = x → ∃ j, j < s.marks.length ∧ ix s.marks j = y ∧ Goes ⟨s.marks, s.arcs⟩ i j := by
  induction hr with
  | nil x => intro i hi he; exact ⟨i, hi, he, .refl _⟩
  | cons hF _ ih =>
    intro i hi he
    subst he
    obtain ⟨j, h1, h2, h3⟩ := h.arcs_of hi hF.lt hF.pre
    rw [hF.unique h3] at ih
    obtain ⟨l, h4, h5, h6⟩ := ih h1 rfl
    exact ⟨l, h4, h5, .step h2 rfl rfl h6⟩
end

/-! ### what firing does not leave -/
structure ClosedC (N : NetD) (C : List (List Int)) : Prop where
  fit : ∀ x ∈ C, fitsB N x = true
  next : ∀ x ∈ C, ∀ k, k < N.trans.length → (∀ p, nth (N.tr k).pre p ≤ nth x p) → ∃ y ∈ C, Fires N x k y
theorem Whole.closed {N : NetD} {m0 : List Int} {most : Nat} {s : FinD} (h : Whole N m0 most s) : ClosedC N s.marks := by
  refine ⟨h.fit, fun x hx k hk hp => ?_⟩
  obtain ⟨y, h1, h2⟩ := h.fires hx hk hp
  exact ⟨y, h2, h1⟩
theorem ClosedC.runs {N : NetD} {C : List (List Int)} (h : ClosedC N C) {x q y : List Int} (hr : Runs N x q y) (hx : x ∈ C) : y ∈ C := by
  induction hr with
  | nil x => exact hx
  | cons hF _ ih =>
    obtain ⟨y, h1, h2⟩ := h.next _ hx _ hF.lt hF.pre
    rw [hF.unique h2] at ih
    exact ih h1
theorem step_sub {N : NetD} {C : List (List Int)} {most i : Nat} {f : FinD} {x : List Int} {t : Int} (hC : ClosedC N C) (hl : C.length ≤ most) (hn : f.marks.Nodup) (hs : ∀ x ∈ f.marks, x ∈ C) (hx : x ∈ C) (ht : t ∈ enabledL N x) :
    ∃ f', stepF N most x i f t = (f', 0) ∧ f'.marks.Nodup ∧ (∀ x ∈ f'.marks, x ∈ C) := by
  obtain ⟨k, rfl, hk, hp⟩ := (enabled_has t).1 ((hasB_iff _ _).2 ht)
  obtain ⟨y, hy, hF⟩ := hC.next x hx k hk hp
  have hf := fire_eq (hC.fit x hx) hF
  unfold stepF
  rw [hf]
  simp only [if_true]
  unfold findF
  by_cases hm : y ∈ f.marks
  · rw [if_pos hm]; exact ⟨_, rfl, hn, hs⟩
  · rw [if_neg hm]
    have hn' : (f.marks ++ [y]).Nodup := by
      rw [List.nodup_append]
      refine ⟨hn, by simp, fun a ha b hb => ?_⟩
      simp at hb
      subst hb
      exact fun e => hm (e ▸ ha)
    have hs' : ∀ x ∈ f.marks ++ [y], x ∈ C := fun z hz => by
      rcases List.mem_append.1 hz with h | h
      · exact hs z h
      · simp at h; rw [h]; exact hy
    have := nodup_sub _ _ hn' hs'
    simp only [List.length_append, List.length_singleton] at this
    rw [if_neg (by omega)]
    exact ⟨_, rfl, hn', hs'⟩
theorem steps_sub {N : NetD} {C : List (List Int)} {most i : Nat} {x : List Int} (hC : ClosedC N C) (hl : C.length ≤ most) (hx : x ∈ C) : ∀ (l : List Int) (f : FinD), f.marks.Nodup → (∀ x ∈ f.marks, x ∈ C) → (∀ t ∈ l, t ∈ enabledL N x) →
    ∃ f', stepsF N most x i f l = (f', 0) ∧ f'.marks.Nodup ∧ (∀ x ∈ f'.marks, x ∈ C)
  | [], f, hn, hs, _ => ⟨f, rfl, hn, hs⟩
  | t :: l, f, hn, hs, ht => by
    obtain ⟨f1, h1, h2, h3⟩ := step_sub (i := i) hC hl hn hs hx (ht t (by simp))
    rw [steps_cons, h1]
    simp only [if_true]
    exact steps_sub hC hl hx l f1 h2 h3 fun t h => ht t (by simp [h])
theorem expl_sub {N : NetD} {C : List (List Int)} {most : Nat} (hC : ClosedC N C) (hl : C.length ≤ most) : ∀ (g i : Nat) (f : FinD), f.marks.Nodup → (∀ x ∈ f.marks, x ∈ C) → (explF N most g i f).2 = 0
  | 0, i, f, _, _ => rfl
  | g + 1, i, f, hn, hs => by
    rw [expl_succ]
    by_cases hi : i < f.marks.length
    · rw [if_pos hi]
      obtain ⟨f1, h1, h2, h3⟩ := steps_sub (i := i) hC hl (hs _ (ix_mem hi)) _ f hn hs (fun t h => h)
      rw [h1]
      simp only [if_true]
      exact expl_sub hC hl g (i + 1) f1 h2 h3
    · rw [if_neg hi]
theorem search_sub {N : NetD} {C : List (List Int)} {m : List Int} {most : Int} (hC : ClosedC N C) (hm : m ∈ C) (h1 : 1 ≤ most) (h2 : most ≤ 300) (hl : (C.length : Int) ≤ most) : ∃ s, searchF N m most = (s, 0) ∧ Whole N m most.toNat s := by
  have h0 : (searchF N m most).2 = 0 := by
    unfold searchF
    rw [if_neg (by omega), if_neg (by rw [hC.fit m hm]; decide)]
    exact expl_sub hC (by omega) 301 0 _ (by simp [fin0]) (by simp [fin0, hm])
  rcases hs : searchF N m most with ⟨s, e⟩
  rw [hs] at h0
  simp only [] at h0
  subst h0
  exact ⟨s, rfl, (search_ok hs).2.2.2⟩
theorem Whole.sub {N : NetD} {m0 : List Int} {most : Nat} {s : FinD} (h : Whole N m0 most s) {x : List Int} (hx : x ∈ s.marks) {more : Int} (h1 : 1 ≤ more) (h2 : more ≤ 300) (h3 : (s.marks.length : Int) ≤ more) : ∃ s', searchF N x more = (s', 0) ∧ Whole N x more.toNat s' :=
  search_sub h.closed hx h1 h2 h3
theorem graph_of {N : NetD} {m : List Int} {most : Int} {s : FinD} (h : searchF N m most = (s, 0)) : graphF N m most = (⟨s.marks, s.arcs⟩, 0) := by
  unfold graphF; rw [h]; simp only [if_true]; rfl
theorem path_yes {N : NetD} {x y q : List Int} {more : Int} {s : FinD} (hs : searchF N x more = (s, 0)) (hr : Runs N x q y) : ∃ p, pathF N x y more = (p, 0) ∧ runF N x p = (y, 0) := by
  obtain ⟨_, _, hf, hW⟩ := search_ok hs
  have hy := hW.runs hr hW.start
  obtain ⟨h1, h2⟩ := mem_idx hy
  have ht := trail_runs hW _ h1
  rw [h2] at ht
  unfold pathF
  rw [hs]
  simp only [if_true]
  rw [if_pos hy]
  exact ⟨_, rfl, ht.runF hf⟩
theorem path_no {N : NetD} {x y : List Int} {more : Int} {s : FinD} (hs : searchF N x more = (s, 0)) (h : ∀ q, ¬ Runs N x q y) : pathF N x y more = ([], 3) := by
  obtain ⟨_, _, hf, hW⟩ := search_ok hs
  unfold pathF
  rw [hs]
  simp only [if_true]
  rw [if_neg]
  intro hy
  obtain ⟨q, hq⟩ := hW.reach hy
  exact h q hq
theorem search_of_graph {N : NetD} {m : List Int} {most : Int} {A : SpaceD} (h : graphF N m most = (A, 0)) : ∃ s, searchF N m most = (s, 0) ∧ A = ⟨s.marks, s.arcs⟩ ∧ 1 ≤ most ∧ most ≤ 300 ∧ fitsB N m = true ∧ Whole N m most.toNat s := by
  unfold graphF at h
  split at h
  · rename_i h0
    rcases hs : searchF N m most with ⟨s, e⟩
    rw [hs] at h h0
    simp only [] at h0
    subst h0
    cases h
    obtain ⟨h1, h2, h3, h4⟩ := search_ok hs
    exact ⟨s, rfl, rfl, h1, h2, h3, h4⟩
  · rename_i h0; exact absurd (Prod.mk.inj h).2 h0

/-! ### what can be done from a mark -/
def ableB (N : NetD) (m : List Int) (t : Int) : Bool := decide ((graphF N m 300).2 = 0) && (graphF N m 300).1.arcs.any fun a => decide (a.tran = t)
theorem able_iff {N : NetD} {m : List Int} {s : FinD} (hs : searchF N m 300 = (s, 0)) {k : Nat} : ableB N m k = true ↔ ∃ q y z, Runs N m q y ∧ Fires N y k z := by
  obtain ⟨_, _, hf, hW⟩ := search_ok hs
  unfold ableB
  rw [graph_of hs]
  simp only [decide_true, Bool.true_and, List.any_eq_true, decide_eq_true_eq]
  constructor
  · rintro ⟨a, ha, he⟩
    obtain ⟨i, k', j, rfl, h1, h2, h3⟩ := hW.arc a ha
    simp only [Int.natCast_inj] at he
    subst he
    obtain ⟨q, hq⟩ := hW.reach (ix_mem h1)
    exact ⟨q, _, _, hq, h3⟩
  · rintro ⟨q, y, z, hr, hF⟩
    have hy := hW.runs hr hW.start
    obtain ⟨h1, h2⟩ := mem_idx hy
    rw [← h2] at hF
    obtain ⟨j, _, h3, _⟩ := hW.arcs_of h1 hF.lt hF.pre
    exact ⟨_, h3, rfl⟩
section
variable {N : NetD} {m0 : List Int} {most : Nat} {s : FinD}
theorem upTo_len (h : Whole N m0 most s) : upTo (N.trans.length : Int) = N.trans.length := by
  have := (fits_sizes (h.fit _ h.start)).1
  unfold upTo; omega
/-- live: from every mark it can come to fire -/
theorem Whole.live (h : Whole N m0 most s) {t : Int} : t ∈ liveF ⟨s.marks, s.arcs⟩ (N.trans.length : Int) ↔ ∃ k : Nat, t = k ∧ k < N.trans.length ∧ ∀ x ∈ s.marks, ∃ q y z, Runs N x q y ∧ Fires N y k z := by
  rw [mem_live, upTo_len h]
  constructor
  · rintro ⟨_, k, rfl, hk, hall⟩
    refine ⟨k, rfl, hk, fun x hx => ?_⟩
    obtain ⟨h1, h2⟩ := mem_idx hx
    obtain ⟨a, ha, h3, f, h4, hg⟩ := hall _ h1
    obtain ⟨i, k', j, rfl, h5, h6, h7⟩ := h.arc a ha
    simp only [Int.natCast_inj] at h3 h4
    subst h3 h4
    obtain ⟨q, hq⟩ := h.goes hg h1
    rw [h2] at hq
    exact ⟨q, _, _, hq, h7⟩
  · rintro ⟨k, rfl, hk, hall⟩
    refine ⟨h.sright, k, rfl, hk, fun j hj => ?_⟩
    obtain ⟨q, y, z, hr, hF⟩ := hall _ (ix_mem hj)
    obtain ⟨l, h1, h2, h3⟩ := h.goes_of hr hj rfl
    rw [← h2] at hF
    obtain ⟨j2, _, h4, _⟩ := h.arcs_of h1 hF.lt hF.pre
    exact ⟨_, h4, rfl, l, rfl, h3⟩
/-- dead: no mark lets it fire -/
theorem Whole.dead (h : Whole N m0 most s) {t : Int} : t ∈ deadF ⟨s.marks, s.arcs⟩ (N.trans.length : Int) ↔ ∃ k : Nat, t = k ∧ k < N.trans.length ∧ ∀ x ∈ s.marks, ∀ z, ¬ Fires N x k z := by
  rw [mem_dead, upTo_len h]
  constructor
  · rintro ⟨k, rfl, hk, hall⟩
    refine ⟨k, rfl, hk, fun x hx z hF => ?_⟩
    obtain ⟨h1, h2⟩ := mem_idx hx
    rw [← h2] at hF
    obtain ⟨j, _, h3, _⟩ := h.arcs_of h1 hF.lt hF.pre
    exact hall _ h3 rfl
  · rintro ⟨k, rfl, hk, hall⟩
    refine ⟨k, rfl, hk, fun a ha he => ?_⟩
    obtain ⟨i, k', j, rfl, h1, h2, h3⟩ := h.arc a ha
    simp only [Int.natCast_inj] at he
    subst he
    exact hall _ (ix_mem h1) _ h3
end

/-! ### the laws of what is live, and dead -/
theorem live_able {N : NetD} {m seq x : List Int} {s : FinD} {t : Int} (hs : searchF N m 60 = (s, 0)) (hr : runF N m seq = (x, 0)) (ht : t ∈ liveF ⟨s.marks, s.arcs⟩ (N.trans.length : Int)) : ableB N x t = true := by
  obtain ⟨_, _, hf, hW⟩ := search_ok hs
  obtain ⟨k, rfl, hk, hall⟩ := hW.live.1 ht
  have hx := hW.runs (runF_of hr).2 hW.start
  have hle := hW.le
  obtain ⟨s', hs', _⟩ := hW.sub hx (more := 300) (by omega) (by omega) (by simp at hle; omega)
  exact (able_iff hs').2 (hall x hx)
theorem live_unable {N : NetD} {m : List Int} {s : FinD} {t : Int} (hs : searchF N m 60 = (s, 0)) (h0 : 0 ≤ t) (h1 : t < (N.trans.length : Int)) (ht : t ∉ liveF ⟨s.marks, s.arcs⟩ (N.trans.length : Int)) : s.marks.any (fun y => !ableB N y t) = true := by
  obtain ⟨_, _, hf, hW⟩ := search_ok hs
  obtain ⟨k, rfl⟩ := Int.eq_ofNat_of_zero_le h0
  have hle := hW.le
  rw [List.any_eq_true]
  apply Classical.byContradiction
  intro hno
  apply ht
  refine hW.live.2 ⟨k, rfl, by omega, fun x hx => ?_⟩
  obtain ⟨s', hs', _⟩ := hW.sub hx (more := 300) (by omega) (by omega) (by simp at hle; omega)
  apply (able_iff hs').1
  apply Classical.byContradiction
  intro hb
  exact hno ⟨x, hx, by simpa using hb⟩
theorem run_fired {N : NetD} {x q y : List Int} (hr : Runs N x q y) {t : Int} (ht : t ∈ q) : ∃ (k : Nat) (q' x' z : List Int), t = k ∧ Runs N x q' x' ∧ Fires N x' k z := by
  induction hr with
  | nil x => cases ht
  | cons hF _ ih =>
    rcases List.mem_cons.1 ht with rfl | h
    · exact ⟨_, [], _, _, rfl, .nil _, hF⟩
    · obtain ⟨k, q', x', z, h1, h2, h3⟩ := ih h
      exact ⟨k, _, x', z, h1, .cons hF h2, h3⟩
theorem dead_not {N : NetD} {m seq x : List Int} {s : FinD} {most : Nat} {t : Int} (hW : Whole N m most s) (hr : runF N m seq = (x, 0)) (ht : t ∈ seq) : t ∉ deadF ⟨s.marks, s.arcs⟩ (N.trans.length : Int) := by
  intro h
  obtain ⟨k, rfl, hk, hall⟩ := hW.dead.1 h
  obtain ⟨k', q', x', z, h1, h2, h3⟩ := run_fired (runF_of hr).2 ht
  simp only [Int.natCast_inj] at h1
  subst h1
  exact hall x' (hW.runs h2 hW.start) z h3
theorem dead_live {N : NetD} {m : List Int} {s : FinD} {most : Nat} {t : Int} (hW : Whole N m most s) (ht : t ∈ deadF ⟨s.marks, s.arcs⟩ (N.trans.length : Int)) : t ∉ liveF ⟨s.marks, s.arcs⟩ (N.trans.length : Int) := by
  intro h
  obtain ⟨k, rfl, hk, hall⟩ := hW.dead.1 ht
  obtain ⟨k', h1, _, h2⟩ := hW.live.1 h
  simp only [Int.natCast_inj] at h1
  subst h1
  obtain ⟨q, y, z, h3, h4⟩ := h2 _ hW.start
  exact hall y (hW.runs h3 hW.start) z h4
end Go.Tok

/- To which nodes arcs of a net lead from a place: the plain search, and what it finds. No program is in sight here. -/
namespace Go.Tok
set_option linter.unusedVariables false

/-- a place, or a transition -/
structure NodeD where
  tran : Bool
  n : Nat
deriving DecidableEq
instance : Inhabited NodeD := ⟨⟨false, 0⟩⟩
def isNode (N : NetD) (x : NodeD) : Prop := if x.tran = true then x.n < N.trans.length else x.n < N.places.toNat
/-- the weight of the arc from x to the j-th node of the other kind -/
def wtN (N : NetD) (x : NodeD) (j : Nat) : Int := if x.tran = true then nth (N.tr x.n).post j else nth (N.tr j).pre x.n
def degN (N : NetD) (x : NodeD) : Nat := if x.tran = true then (N.tr x.n).post.length else N.trans.length
def nextN (x : NodeD) (j : Nat) : NodeD := ⟨!x.tran, j⟩
def foldTo (f : List NodeD → NodeD → List NodeD) (vis : List NodeD) (N : NetD) (x : NodeD) : Nat → List NodeD
  | 0 => vis
  | k + 1 => if 0 < wtN N x k then f (foldTo f vis N x k) (nextN x k) else foldTo f vis N x k
theorem foldTo_zero (f : List NodeD → NodeD → List NodeD) (vis : List NodeD) (N : NetD) (x : NodeD) : foldTo f vis N x 0 = vis := rfl
theorem foldTo_yes {f : List NodeD → NodeD → List NodeD} {vis : List NodeD} {N : NetD} {x : NodeD} {k : Nat} (h : 0 < wtN N x k) : foldTo f vis N x (k + 1) = f (foldTo f vis N x k) (nextN x k) := by rw [foldTo, if_pos h]
theorem foldTo_no {f : List NodeD → NodeD → List NodeD} {vis : List NodeD} {N : NetD} {x : NodeD} {k : Nat} (h : wtN N x k ≤ 0) : foldTo f vis N x (k + 1) = foldTo f vis N x k := by rw [foldTo, if_neg (by omega)]
def dfsF (N : NetD) : Nat → List NodeD → NodeD → List NodeD
  | 0, vis, _ => vis
  | m + 1, vis, x => if x ∈ vis then vis else foldTo (dfsF N m) (vis ++ [x]) N x (degN N x)
theorem dfs_in {N : NetD} {m : Nat} {vis : List NodeD} {x : NodeD} (h : x ∈ vis) : dfsF N (m + 1) vis x = vis := by rw [dfsF, if_pos h]
theorem dfs_out {N : NetD} {m : Nat} {vis : List NodeD} {x : NodeD} (h : x ∉ vis) : dfsF N (m + 1) vis x = foldTo (dfsF N m) (vis ++ [x]) N x (degN N x) := by rw [dfsF, if_neg h]

/-- the next of a node is a node -/
theorem next_node {N : NetD} (h : netOkB N = true) {x : NodeD} (hx : isNode N x) {j : Nat} (hj : j < degN N x) : isNode N (nextN x j) := by
  unfold isNode degN nextN at *
  cases hb : x.tran
  · rw [hb] at hx hj
    simp at hx hj ⊢
    exact hj
  · rw [hb] at hx hj
    simp at hx hj ⊢
    have := (netOk_tr h hx).post
    omega
structure Grown (N : NetD) (vis out : List NodeD) : Prop where
  pre : vis <+: out
  nodes : (∀ y ∈ vis, isNode N y) → ∀ y ∈ out, isNode N y
  nodup : vis.Nodup → out.Nodup
theorem Grown.refl (N : NetD) (v : List NodeD) : Grown N v v := ⟨List.prefix_refl _, id, id⟩
theorem Grown.trans {N : NetD} {a b c : List NodeD} (h : Grown N a b) (k : Grown N b c) : Grown N a c := ⟨h.pre.trans k.pre, fun x => k.nodes (h.nodes x), fun x => k.nodup (h.nodup x)⟩
theorem dfs_grown {N : NetD} (h : netOkB N = true) : ∀ (m : Nat) (vis : List NodeD) (x : NodeD), isNode N x → Grown N vis (dfsF N m vis x) := by
  intro m
  induction m with
  | zero => intro vis x _; exact Grown.refl N vis
  | succ m ih =>
    intro vis x hx
    by_cases hv : x ∈ vis
    · rw [dfs_in hv]; exact Grown.refl N vis
    · rw [dfs_out hv]
      have h0 : Grown N vis (vis ++ [x]) := ⟨List.prefix_append _ _, fun hn y hy => by
        rcases List.mem_append.1 hy with h1 | h1
        · exact hn y h1
        · rw [List.mem_singleton.1 h1]; exact hx, fun hn => List.nodup_append.2 ⟨hn, by simp, fun a ha b hb e => by
          rw [List.mem_singleton.1 hb] at e; subst e; exact hv ha⟩⟩
      have key : ∀ k, k ≤ degN N x → Grown N vis (foldTo (dfsF N m) (vis ++ [x]) N x k) := by
        intro k
        induction k with
        | zero => intro _; rw [foldTo_zero]; exact h0
        | succ k ihk =>
          intro hk
          have h1 := ihk (by omega)
          rcases Int.lt_or_le 0 (wtN N x k) with h2 | h2
          · rw [foldTo_yes h2]; exact h1.trans (ih _ _ (next_node h hx (by omega)))
          · rw [foldTo_no h2]; exact h1
      exact key _ (Nat.le_refl _)
theorem fold_grown {N : NetD} (h : netOkB N = true) {m : Nat} {vis : List NodeD} {x : NodeD} (hx : isNode N x) : ∀ k, k ≤ degN N x → Grown N vis (foldTo (dfsF N m) vis N x k) := by
  intro k
  induction k with
  | zero => intro _; rw [foldTo_zero]; exact Grown.refl _ _
  | succ k ihk =>
    intro hk
    have h1 := ihk (by omega)
    rcases Int.lt_or_le 0 (wtN N x k) with h2 | h2
    · rw [foldTo_yes h2]; exact h1.trans (dfs_grown h _ _ _ (next_node h hx (by omega)))
    · rw [foldTo_no h2]; exact h1
/-! ### there are no more than so many nodes -/
theorem nat_pigeon : ∀ (T : Nat) (l : List Nat), l.Nodup → (∀ x ∈ l, x < T) → l.length ≤ T := by
  intro T
  induction T with
  | zero =>
    intro l _ h
    cases l with
    | nil => simp
    | cons a r => have := h a (by simp); omega
  | succ T ih =>
    intro l hn h
    have h1 := ih (l.erase T) (hn.erase T) fun x hx => by
      have h2 := h x (List.mem_of_mem_erase hx)
      have h3 : x ≠ T := fun e => by subst e; exact hn.not_mem_erase hx
      omega
    have h2 := List.length_erase (a := T) (l := l)
    split at h2 <;> omega
def sizeN (N : NetD) : Nat := N.places.toNat + N.trans.length
def codeN (N : NetD) (x : NodeD) : Nat := if x.tran = true then N.places.toNat + x.n else x.n
theorem code_lt {N : NetD} {x : NodeD} (h : isNode N x) : codeN N x < sizeN N := by
  unfold isNode at h; unfold codeN sizeN
  split at h <;> simp_all <;> omega
theorem code_inj {N : NetD} {x y : NodeD} (hx : isNode N x) (hy : isNode N y) (h : codeN N x = codeN N y) : x = y := by
  obtain ⟨a, m⟩ := x
  obtain ⟨b, n⟩ := y
  unfold isNode at hx hy; unfold codeN at h
  cases a <;> cases b <;> simp at hx hy h <;> simp <;> omega
theorem nodes_le {N : NetD} {l : List NodeD} (hn : l.Nodup) (h : ∀ x ∈ l, isNode N x) : l.length ≤ sizeN N := by
  have h1 := nat_pigeon (sizeN N) (l.map (codeN N)) (by
    rw [List.Nodup, List.pairwise_map]
    refine List.Pairwise.imp_of_mem (fun {a b} ha hb hne e => hne (code_inj (h a ha) (h b hb) e)) hn) (fun x hx => by
    obtain ⟨y, hy, rfl⟩ := List.mem_map.1 hx
    exact code_lt (h y hy))
  rwa [List.length_map] at h1
theorem nodes_full {N : NetD} {l : List NodeD} {x : NodeD} (hn : l.Nodup) (h : ∀ x ∈ l, isNode N x) (hl : sizeN N ≤ l.length) (hx : isNode N x) : x ∈ l := by
  rcases Classical.em (x ∈ l) with h1 | h1
  · exact h1
  · have := nodes_le (l := x :: l) (List.nodup_cons.2 ⟨h1, hn⟩) (fun y hy => by
      rcases List.mem_cons.1 hy with rfl | hy
      · exact hx
      · exact h y hy)
    simp at this; omega
/-- all to which arcs lead from a place -/
def walkN (N : NetD) (i : Nat) : List NodeD := dfsF N (sizeN N + 1) [] ⟨false, i⟩
theorem walkN_def (N : NetD) (i : Nat) : walkN N i = dfsF N (sizeN N + 1) [] ⟨false, i⟩ := rfl
theorem walk_grown {N : NetD} (h : netOkB N = true) {i : Nat} (hi : i < N.places.toNat) : Grown N [] (walkN N i) := dfs_grown h _ _ _ (by unfold isNode; simpa using hi)
/-- whatever is found, but for the first, was led to by an arc from what is found -/
def Led (N : NetD) (vis out : List NodeD) (x : NodeD) : Prop := ∀ y ∈ out, y ∈ vis ∨ y = x ∨ ∃ z ∈ out, ∃ j, j < degN N z ∧ 0 < wtN N z j ∧ y = nextN z j
theorem dfs_led {N : NetD} (h : netOkB N = true) : ∀ (m : Nat) (vis : List NodeD) (x : NodeD), isNode N x → Led N vis (dfsF N m vis x) x := by
  intro m
  induction m with
  | zero => intro vis x _ y hy; exact .inl hy
  | succ m ih =>
    intro vis x hx
    by_cases hv : x ∈ vis
    · rw [dfs_in hv]; exact fun y hy => .inl hy
    · rw [dfs_out hv]
      have key : ∀ k, k ≤ degN N x → Led N vis (foldTo (dfsF N m) (vis ++ [x]) N x k) x := by
        intro k
        induction k with
        | zero =>
          intro _ y hy
          rw [foldTo_zero] at hy
          rcases List.mem_append.1 hy with h1 | h1
          · exact .inl h1
          · exact .inr (.inl (List.mem_singleton.1 h1))
        | succ k ihk =>
          intro hk
          have h1 := ihk (by omega)
          rcases Int.lt_or_le 0 (wtN N x k) with h2 | h2
          · rw [foldTo_yes h2]
            have hg := dfs_grown h m (foldTo (dfsF N m) (vis ++ [x]) N x k) (nextN x k) (next_node h hx (by omega))
            have hx0 : x ∈ foldTo (dfsF N m) (vis ++ [x]) N x k := (fold_grown h (m := m) (vis := vis ++ [x]) hx k (by omega)).pre.subset (by simp)
            intro y hy
            rcases ih _ _ (next_node h hx (by omega)) y hy with h3 | rfl | ⟨z, hz, j, h4, h5, h6⟩
            · rcases h1 y h3 with h4 | h4 | ⟨z, hz, j, h4, h5, h6⟩
              · exact .inl h4
              · exact .inr (.inl h4)
              · exact .inr (.inr ⟨z, hg.pre.subset hz, j, h4, h5, h6⟩)
            · exact .inr (.inr ⟨x, hg.pre.subset hx0, k, by omega, h2, rfl⟩)
            · exact .inr (.inr ⟨z, hz, j, h4, h5, h6⟩)
          · rw [foldTo_no h2]; exact h1
      exact key _ (Nat.le_refl _)
theorem walk_led {N : NetD} (h : netOkB N = true) {i : Nat} (hi : i < N.places.toNat) : ∀ y ∈ walkN N i, y = ⟨false, i⟩ ∨ ∃ z ∈ walkN N i, ∃ j, j < degN N z ∧ 0 < wtN N z j ∧ y = nextN z j := fun y hy => by
  rcases dfs_led h _ _ _ (by unfold isNode; simpa using hi) y hy with h1 | h1 | h1
  · cases h1
  · exact .inl h1
  · exact .inr h1
theorem wt_tran (N : NetD) {x : NodeD} (h : x.tran = true) (j : Nat) : wtN N x j = nth (N.tr x.n).post j := by unfold wtN; rw [if_pos h]
theorem wt_place (N : NetD) {x : NodeD} (h : x.tran = false) (j : Nat) : wtN N x j = nth (N.tr j).pre x.n := by unfold wtN; rw [if_neg (by rw [h]; decide)]
theorem deg_tran (N : NetD) {x : NodeD} (h : x.tran = true) : degN N x = (N.tr x.n).post.length := by unfold degN; rw [if_pos h]
theorem deg_place (N : NetD) {x : NodeD} (h : x.tran = false) : degN N x = N.trans.length := by unfold degN; rw [if_neg (by rw [h]; decide)]
theorem node_tran {N : NetD} {x : NodeD} (h : x.tran = true) (hx : isNode N x) : x.n < N.trans.length := by unfold isNode at hx; rwa [if_pos h] at hx
theorem node_place {N : NetD} {x : NodeD} (h : x.tran = false) (hx : isNode N x) : x.n < N.places.toNat := by unfold isNode at hx; rwa [if_neg (by rw [h]; decide)] at hx
attribute [irreducible] isNode wtN degN dfsF walkN
end Go.Tok

/- The journal as plain data: bytes, operations, what is written and read; the laws of it. No program is in sight here. -/
namespace Go.Tok
open Go.RowKit
set_option linter.unusedVariables false

structure OpD where
  kind : Int
  user : Int
  tran : Int
  item : Int
  to : Int
deriving DecidableEq
instance : Inhabited OpD := ⟨⟨0, 0, 0, 0, 0⟩⟩
def opCells (o : OpD) : List Value := [.int .i64 o.kind, .int .i64 o.user, .int .i64 o.tran, .int .i64 o.item, .int .i64 o.to]
def opI (o : OpD) : Prop := I64 o.kind ∧ I64 o.user ∧ I64 o.tran ∧ I64 o.item ∧ I64 o.to
def opK : Kind OpD := flat 5 opCells opI (fun _ => rfl) (fun o u hu => by
  simp only [opCells, List.mem_cons, List.not_mem_nil, or_false] at hu
  rcases hu with rfl | rfl | rfl | rfl | rfl <;> rfl)
def byteK : Kind Nat := flat 1 (fun n => [.int .u8 (n : Int)]) (fun n => n < 256) (fun _ => rfl) (fun n u hu => by
  rw [List.mem_singleton.1 hu]; rfl)

theorem Rd.byte {w : World} {a : Option Addr} {n cap : Nat} {xs : List Nat} (h : Rd byteK w (.slice a n cap) xs) {i : Nat} (hi : i < xs.length) :
    ∃ b o, a = some ⟨b, o, none⟩ ∧ w.cell? ⟨b, o + i, none⟩ = some (.int .u8 ((ix xs i : Nat) : Int)) ∧ ix xs i < 256 := by
  obtain ⟨b, o, vs, ha, ⟨rfl, hr⟩, hc⟩ := h.at_ hi
  refine ⟨b, o, ha, ?_, hr⟩
  have := hc 0 _ rfl
  rwa [show o + i * byteK.size + 0 = o + i by show o + i * 1 + 0 = _; omega] at this
theorem Rd.op {w : World} {a : Option Addr} {n cap : Nat} {xs : List OpD} (h : Rd opK w (.slice a n cap) xs) {i : Nat} (hi : i < xs.length) :
    ∃ b o, a = some ⟨b, o, none⟩ ∧ w.cell? ⟨b, o + i * 5, none⟩ = some (.int .i64 (ix xs i).kind) ∧ w.cell? ⟨b, o + i * 5 + 1, none⟩ = some (.int .i64 (ix xs i).user) ∧ w.cell? ⟨b, o + i * 5 + 2, none⟩ = some (.int .i64 (ix xs i).tran) ∧
      w.cell? ⟨b, o + i * 5 + 3, none⟩ = some (.int .i64 (ix xs i).item) ∧ w.cell? ⟨b, o + i * 5 + 4, none⟩ = some (.int .i64 (ix xs i).to) ∧ opI (ix xs i) := by
  obtain ⟨b, o, vs, ha, ⟨rfl, hr⟩, hc⟩ := h.at_ hi
  exact ⟨b, o, ha, hc 0 _ rfl, hc 1 _ rfl, hc 2 _ rfl, hc 3 _ rfl, hc 4 _ rfl, hr⟩
theorem Rd.bytes {w : World} {v : Value} {xs : List Nat} (h : Rd byteK w v xs) : ∀ x ∈ xs, x < 256 := by
  intro x hx
  obtain ⟨a, cap, rfl, _⟩ := h.len
  obtain ⟨i, hi, rfl⟩ := List.getElem_of_mem hx
  obtain ⟨_, _, _, _, h⟩ := h.byte hi
  rwa [ix_lt hi] at h
theorem on_byte {S : Nat → Prop} {w : World} {x : Nat} (hx : x < 256) : On S (fun w => byteK.R w [.int .u8 (x : Int)] x) w := On.true (p := ([.int .u8 (x : Int)] : List Value) = [.int .u8 (x : Int)] ∧ x < 256) ⟨rfl, hx⟩
theorem on_op {S : Nat → Prop} {w : World} {o : OpD} (h : opI o) : On S (fun w => opK.R w (opCells o) o) w := On.true (p := opCells o = opCells o ∧ opI o) ⟨rfl, h⟩
theorem own_bytes {w : World} {H n m base e : Nat} {S : Nat → Prop} {xs : List Nat} {cs : Array Value} (hH : w.heap.size = H) (hn : n = xs.length) (hm : m = xs.length) (hcs : cs.toList = xs.map fun (x : Nat) => Value.int .u8 (x : Int)) (hI : ∀ x ∈ xs, x < 256) (hl : xs.length ≤ 1000) (hb : base ≤ w.heap.size) :
    OwnR byteK e base S (w.alloc (.cells cs e)) (.slice (some ⟨H, 0, none⟩) n m) xs := by
  refine OwnR.lit (xs.map fun (x : Nat) => (x, [Value.int .u8 (x : Int)])) (by rw [List.map_map]; exact (List.map_id _).symm) hH hn hm ?_ hl hb ?_
  · rw [hcs]
    clear hcs hI hl hn hm
    induction xs with
    | nil => rfl
    | cons x r ih => simp only [cellsOf, List.map_cons, List.flatMap_cons, List.cons_append, List.nil_append] at ih ⊢; rw [ih]
  · intro r hr
    obtain ⟨x, hx, rfl⟩ := List.mem_map.1 hr
    exact on_byte (hI x hx)
/-! ### sums -/
def rotN (c k : Nat) : Nat := (c * 2 ^ k) % 256 ||| c / 2 ^ (8 - k)
theorem rotN_def (c k : Nat) : rotN c k = ((c * 2 ^ k) % 256 ||| c / 2 ^ (8 - k)) := rfl
def unrot (x k : Nat) : Nat := x / 2 ^ k ||| (x * 2 ^ (8 - k)) % 256
theorem unrot_rot : ∀ k, k < 8 → ∀ c, c < 256 → unrot (rotN c k) k = c ∧ rotN c k < 256 := by decide +kernel
theorem rot_inj {k c d : Nat} (hk : k < 8) (hc : c < 256) (hd : d < 256) (h : rotN c k = rotN d k) : c = d := by
  have h1 := (unrot_rot k hk c hc).1
  have h2 := (unrot_rot k hk d hd).1
  rw [h] at h1; omega
theorem rot_lt {k c : Nat} (hk : k < 8) (hc : c < 256) : rotN c k < 256 := (unrot_rot k hk c hc).2
def sumTo8 (b : List Nat) : Nat → Nat
  | 0 => 90
  | k + 1 => sumTo8 b k ^^^ rotN (ix b k) k
theorem sumTo8_zero (b : List Nat) : sumTo8 b 0 = 90 := rfl
theorem sumTo8_succ (b : List Nat) (k : Nat) : sumTo8 b (k + 1) = sumTo8 b k ^^^ rotN (ix b k) k := rfl
def Bytes (b : List Nat) : Prop := ∀ x ∈ b, x < 256
theorem bytes_mk {b : List Nat} (h : ∀ x ∈ b, x < 256) : Bytes b := h
theorem Bytes.mem {b : List Nat} (h : Bytes b) : ∀ x ∈ b, x < 256 := h
theorem Bytes.ix {b : List Nat} (h : Bytes b) (i : Nat) : Go.Tok.ix b i < 256 := by
  by_cases hi : i < b.length
  · exact h _ (ix_mem hi)
  · rw [ix_ge (by omega)]; decide
theorem sumTo8_lt {b : List Nat} (h : Bytes b) : ∀ k, k ≤ 8 → sumTo8 b k < 256 := by
  intro k
  induction k with
  | zero => intro _; rw [sumTo8_zero]; omega
  | succ k ih =>
    intro hk
    rw [sumTo8_succ]
    exact Nat.xor_lt_two_pow (n := 8) (ih (by omega)) (rot_lt (by omega) (h.ix k))
def sumN (b : List Nat) : Nat := sumTo8 b b.length
theorem sumN_def (b : List Nat) : sumN b = sumTo8 b b.length := rfl
theorem sumTo8_congr {a b : List Nat} : ∀ k, (∀ i, i < k → ix a i = ix b i) → sumTo8 a k = sumTo8 b k := by
  intro k
  induction k with
  | zero => intro _; rfl
  | succ k ih =>
    intro h
    rw [sumTo8_succ, sumTo8_succ, ih (fun i hi => h i (by omega)), h k (by omega)]
theorem ix_set {α : Type} [Inhabited α] (xs : List α) (i j : Nat) (x : α) (h : j < xs.length) : ix (xs.set i x) j = if i = j then x else ix xs j := by
  rw [ix_lt (by simpa using h), List.getElem_set, ix_lt h]
theorem sumTo8_set {b : List Nat} {i c : Nat} (hi : i < b.length) : ∀ k, k ≤ b.length → sumTo8 (b.set i c) k = if i < k then sumTo8 b k ^^^ (rotN (ix b i) i ^^^ rotN c i) else sumTo8 b k := by
  intro k
  induction k with
  | zero => intro _; simp [sumTo8_zero]
  | succ k ih =>
    intro hk
    rw [sumTo8_succ, sumTo8_succ, ih (by omega), ix_set _ _ _ _ (by omega)]
    by_cases h1 : i = k
    · subst h1
      rw [if_neg (Nat.lt_irrefl i), if_pos rfl, if_pos (Nat.lt_succ_self i)]
      rw [Nat.xor_assoc, ← Nat.xor_assoc (rotN (ix b i) i), Nat.xor_self, Nat.zero_xor]
    · rw [if_neg h1]
      by_cases h2 : i < k
      · rw [if_pos h2, if_pos (by omega), Nat.xor_assoc, Nat.xor_comm (rotN (ix b i) i ^^^ rotN c i), ← Nat.xor_assoc]
      · rw [if_neg h2, if_neg (by omega)]
theorem sum_spoilt {b : List Nat} {i c : Nat} (hb : Bytes b) (hl : b.length ≤ 8) (hi : i < b.length) (hc : c < 256) (hne : ix b i ≠ c) : sumN (b.set i c) ≠ sumN b := by
  rw [sumN_def, sumN_def, List.length_set, sumTo8_set hi _ (Nat.le_refl _), if_pos hi]
  intro h
  have h1 : rotN (ix b i) i ^^^ rotN c i = 0 := by
    have : sumTo8 b b.length ^^^ (sumTo8 b b.length ^^^ (rotN (ix b i) i ^^^ rotN c i)) = sumTo8 b b.length ^^^ sumTo8 b b.length := by rw [h]
    rwa [← Nat.xor_assoc, Nat.xor_self, Nat.zero_xor] at this
  have h2 : rotN (ix b i) i = rotN c i := by
    have : (rotN (ix b i) i ^^^ rotN c i) ^^^ rotN c i = 0 ^^^ rotN c i := by rw [h1]
    rwa [Nat.xor_assoc, Nat.xor_self, Nat.xor_zero, Nat.zero_xor] at this
  exact hne (rot_inj (by omega) (hb.ix i) hc h2)

/-! ### one operation -/
def opOkB (o : OpD) : Bool := decide (0 ≤ o.kind) && decide (o.kind ≤ 255) && (decide (0 ≤ o.user) && decide (o.user ≤ 255)) && (decide (0 ≤ o.tran) && decide (o.tran ≤ 255)) && (decide (0 ≤ o.to) && decide (o.to ≤ 255)) && decide (0 ≤ o.item) && decide (o.item ≤ 65535)
theorem opOkB_iff (o : OpD) : opOkB o = true ↔ (0 ≤ o.kind ∧ o.kind ≤ 255) ∧ (0 ≤ o.user ∧ o.user ≤ 255) ∧ (0 ≤ o.tran ∧ o.tran ≤ 255) ∧ (0 ≤ o.to ∧ o.to ≤ 255) ∧ 0 ≤ o.item ∧ o.item ≤ 65535 := by
  unfold opOkB
  simp only [Bool.and_eq_true, decide_eq_true_eq]
  constructor
  · intro h; omega
  · intro h; omega
def smallB (n : Int) : Bool := decide (0 ≤ n) && decide (n ≤ 255)
theorem smallB_def (n : Int) : smallB n = (decide (0 ≤ n) && decide (n ≤ 255)) := rfl
theorem op_cases (o : OpD) : (opOkB o = true ∧ smallB o.kind = true ∧ smallB o.user = true ∧ smallB o.tran = true ∧ smallB o.to = true ∧ 0 ≤ o.item ∧ o.item ≤ 65535) ∨
    (opOkB o = false ∧ (smallB o.kind = false ∨ (smallB o.kind = true ∧ smallB o.user = false) ∨ (smallB o.kind = true ∧ smallB o.user = true ∧ smallB o.tran = false) ∨ (smallB o.kind = true ∧ smallB o.user = true ∧ smallB o.tran = true ∧ smallB o.to = false) ∨
      (smallB o.kind = true ∧ smallB o.user = true ∧ smallB o.tran = true ∧ smallB o.to = true ∧ o.item < 0) ∨ (smallB o.kind = true ∧ smallB o.user = true ∧ smallB o.tran = true ∧ smallB o.to = true ∧ 0 ≤ o.item ∧ 65535 < o.item))) := by
  have hd : opOkB o = (smallB o.kind && smallB o.user && smallB o.tran && smallB o.to && decide (0 ≤ o.item) && decide (o.item ≤ 65535)) := rfl
  cases h1 : smallB o.kind
  · exact .inr ⟨by simp [hd, h1], .inl rfl⟩
  cases h2 : smallB o.user
  · exact .inr ⟨by simp [hd, h2], .inr (.inl ⟨rfl, rfl⟩)⟩
  cases h3 : smallB o.tran
  · exact .inr ⟨by simp [hd, h3], .inr (.inr (.inl ⟨rfl, rfl, rfl⟩))⟩
  cases h4 : smallB o.to
  · exact .inr ⟨by simp [hd, h4], .inr (.inr (.inr (.inl ⟨rfl, rfl, rfl, rfl⟩)))⟩
  by_cases h5 : 0 ≤ o.item
  · by_cases h6 : o.item ≤ 65535
    · exact .inl ⟨by simp [hd, h1, h2, h3, h4, h5, h6], rfl, rfl, rfl, rfl, h5, h6⟩
    · exact .inr ⟨by simp [hd, h6], .inr (.inr (.inr (.inr (.inr ⟨rfl, rfl, rfl, rfl, h5, by omega⟩))))⟩
  · exact .inr ⟨by simp [hd, h5], .inr (.inr (.inr (.inr (.inl ⟨rfl, rfl, rfl, rfl, by omega⟩))))⟩
def six (o : OpD) : List Nat := [o.kind.toNat, o.user.toNat, o.tran.toNat, o.to.toNat, o.item.toNat / 256, o.item.toNat % 256]
def seven (o : OpD) : List Nat := six o ++ [sumN (six o)]
theorem six_len (o : OpD) : (six o).length = 6 := rfl
theorem seven_len (o : OpD) : (seven o).length = 7 := rfl
theorem six_bytes {o : OpD} (h : opOkB o = true) : Bytes (six o) := by
  have := (opOkB_iff o).1 h
  intro x hx
  simp only [six, List.mem_cons, List.not_mem_nil, or_false] at hx
  rcases hx with rfl | rfl | rfl | rfl | rfl | rfl <;> omega
theorem seven_bytes {o : OpD} (h : opOkB o = true) : Bytes (seven o) := by
  intro x hx
  unfold seven at hx
  rcases List.mem_append.1 hx with h1 | h1
  · exact six_bytes h x h1
  · rw [List.mem_singleton.1 h1, sumN_def, six_len]; exact sumTo8_lt (six_bytes h) 6 (by omega)
/-- the operation that seven bytes hold -/
def opOf (g : List Nat) : OpD := ⟨(ix g 0 : Nat), (ix g 1 : Nat), (ix g 2 : Nat), ((ix g 4 * 256 + ix g 5 : Nat) : Int), (ix g 3 : Nat)⟩
theorem seven_six (o : OpD) : ix (seven o) 6 = sumN (six o) := by simp [seven, six, ix_succ, ix_zero]
def goodB (g : List Nat) : Bool := sumN (g.take 6) == ix g 6
theorem goodB_def (g : List Nat) : goodB g = (sumN (g.take 6) == ix g 6) := rfl
theorem good_seven (o : OpD) : goodB (seven o) = true := by
  unfold goodB
  rw [show (seven o).take 6 = six o from rfl]
  rw [seven_six]; exact beq_iff_eq.2 rfl
theorem opOf_seven {o : OpD} (h : opOkB o = true) : opOf (seven o) = o := by
  have := (opOkB_iff o).1 h
  obtain ⟨k, u, t, i, to⟩ := o
  simp only at this
  simp only [opOf, seven, six, List.cons_append, List.nil_append, ix_succ, ix_zero, OpD.mk.injEq]
  omega
theorem seven_form {g : List Nat} (h : g.length = 7) : ∃ a b c d e f s, g = [a, b, c, d, e, f, s] := by
  match g, h with
  | [a, b, c, d, e, f, s], _ => exact ⟨a, b, c, d, e, f, s, rfl⟩
theorem seven_opOf {g : List Nat} (hl : g.length = 7) (hb : Bytes g) (hg : goodB g = true) : opOkB (opOf g) = true ∧ seven (opOf g) = g := by
  obtain ⟨a, b, c, d, e, f, s, rfl⟩ := seven_form hl
  have ha := hb a (by simp)
  have hb' := hb b (by simp)
  have hc := hb c (by simp)
  have hd := hb d (by simp)
  have he := hb e (by simp)
  have hf := hb f (by simp)
  have hs : sumN [a, b, c, d, e, f] = s := by
    have := beq_iff_eq.1 hg
    simpa [ix_succ, ix_zero] using this
  have hop : opOf [a, b, c, d, e, f, s] = ⟨(a : Int), (b : Int), (c : Int), ((e * 256 + f : Nat) : Int), (d : Int)⟩ := by simp [opOf, ix_succ, ix_zero]
  rw [hop]
  refine ⟨(opOkB_iff _).2 (by simp only []; omega), ?_⟩
  have h6 : six ⟨(a : Int), (b : Int), (c : Int), ((e * 256 + f : Nat) : Int), (d : Int)⟩ = [a, b, c, d, e, f] := by
    unfold six
    simp only [Int.toNat_natCast]
    rw [show (e * 256 + f) / 256 = e by omega, show (e * 256 + f) % 256 = f by omega]
  unfold seven
  rw [h6, hs]
  rfl

/-! ### groups of seven -/
def grp (b : List Nat) (j : Nat) : List Nat := (b.drop (7 * j)).take 7
theorem grp_len {b : List Nat} {j : Nat} (h : 7 * j + 7 ≤ b.length) : (grp b j).length = 7 := by simp [grp]; omega
theorem grp_ix {b : List Nat} {j i : Nat} (h : 7 * j + 7 ≤ b.length) (hi : i < 7) : ix (grp b j) i = ix b (7 * j + i) := by
  rw [ix_lt (by rw [grp_len h]; exact hi), ix_lt (by omega)]
  simp [grp]
theorem grp_bytes {b : List Nat} (h : Bytes b) (j : Nat) : Bytes (grp b j) := fun x hx => h x (List.mem_of_mem_drop (List.mem_of_mem_take hx))
def GoodTo (b : List Nat) (k : Nat) : Prop := ∀ j, j < k → goodB (grp b j) = true
theorem GoodTo.zero (b : List Nat) : GoodTo b 0 := fun j hj => by omega
theorem GoodTo.succ {b : List Nat} {k : Nat} (h : GoodTo b k) (hk : goodB (grp b k) = true) : GoodTo b (k + 1) := fun j hj => by
  rcases Nat.lt_or_ge j k with h1 | h1
  · exact h j h1
  · obtain rfl : j = k := by omega
    exact hk
def opsTo (b : List Nat) (k : Nat) : List OpD := (List.range k).map fun j => opOf (grp b j)
theorem opsTo_zero (b : List Nat) : opsTo b 0 = [] := rfl
theorem opsTo_succ (b : List Nat) (k : Nat) : opsTo b (k + 1) = opsTo b k ++ [opOf (grp b k)] := by simp [opsTo, List.range_succ]
theorem opsTo_len (b : List Nat) (k : Nat) : (opsTo b k).length = k := by simp [opsTo]
theorem opsTo_ix (b : List Nat) {k j : Nat} (h : j < k) : ix (opsTo b k) j = opOf (grp b j) := by
  rw [ix_lt (by rw [opsTo_len]; exact h)]; simp [opsTo]
/-- what Read answers: the operations, how many groups, and the error -/
inductive ReadsTo (b : List Nat) : Nat → Int → Prop
  | all (k : Nat) (h : GoodTo b k) (hk : b.length < 7 * k + 7) (hk' : 7 * k ≤ b.length) : ReadsTo b k 0
  | bad (k : Nat) (h : GoodTo b k) (hk : 7 * k + 7 ≤ b.length) (hb : goodB (grp b k) = false) : ReadsTo b k 8
theorem readsTo_ex (b : List Nat) : ∃ k e, ReadsTo b k e := by
  have key : ∀ n, 7 * n ≤ b.length → GoodTo b n ∨ ∃ k, ReadsTo b k 8 := by
    intro n
    induction n with
    | zero => intro _; exact .inl (GoodTo.zero b)
    | succ n ih =>
      intro hn
      rcases ih (by omega) with h | h
      · cases hg : goodB (grp b n)
        · exact .inr ⟨n, .bad n h (by omega) hg⟩
        · exact .inl (h.succ hg)
      · exact .inr h
  rcases key (b.length / 7) (by omega) with h | ⟨k, h⟩
  · exact ⟨_, 0, .all _ h (by omega) (by omega)⟩
  · exact ⟨k, 8, h⟩
theorem ReadsTo.le {b : List Nat} {k : Nat} {e : Int} (h : ReadsTo b k e) : 7 * k ≤ b.length := by
  cases h with
  | all _ _ h => exact h
  | bad _ h _ => omega
theorem ReadsTo.good {b : List Nat} {k : Nat} {e : Int} (h : ReadsTo b k e) : GoodTo b k := by cases h <;> assumption
theorem ReadsTo.lt_of {b : List Nat} {n k : Nat} {e : Int} (h : ReadsTo b n e) (hg : GoodTo b k) (hk : 7 * k + 7 ≤ b.length) (hq : goodB (grp b k) = true) : k < n := by
  rcases Nat.lt_or_ge k n with h1 | h1
  · exact h1
  · cases h with
    | all _ h2 _ => omega
    | bad _ _ hb =>
      rcases Nat.lt_or_ge n k with h3 | h3
      · have := hg n h3; rw [hb] at this; cases this
      · obtain rfl : k = n := by omega
        rw [hb] at hq; cases hq
theorem ReadsTo.uniq {b : List Nat} {k k' : Nat} {e e' : Int} (h : ReadsTo b k e) (h' : ReadsTo b k' e') : k = k' ∧ e = e' := by
  have hlt : ∀ {x y : Nat} {f g : Int}, ReadsTo b x f → ReadsTo b y g → ¬ x < y := by
    intro x y f g hx hy hxy
    have hgg := hy.good x hxy
    have := hy.le
    cases hx with
    | all _ h _ => omega
    | bad _ _ hb => rw [hb] at hgg; cases hgg
  have hk : k = k' := by
    have := hlt h h'
    have := hlt h' h
    omega
  subst hk
  refine ⟨rfl, ?_⟩
  cases h with
  | all _ h1 _ => cases h' with
    | all => rfl
    | bad _ h2 _ => omega
  | bad _ h1 _ => cases h' with
    | all _ h2 _ => omega
    | bad => rfl

/-! ### all that is written -/
def allOk (l : List OpD) : Bool := l.all opOkB
def wrTo (l : List OpD) (k : Nat) : List Nat := (l.take k).flatMap seven
def OkTo (l : List OpD) (k : Nat) : Prop := ∀ j, j < k → opOkB (ix l j) = true
theorem OkTo.zero (l : List OpD) : OkTo l 0 := fun j hj => by omega
theorem OkTo.succ {l : List OpD} {k : Nat} (h : OkTo l k) (hk : opOkB (ix l k) = true) : OkTo l (k + 1) := fun j hj => by
  rcases Nat.lt_or_ge j k with h1 | h1
  · exact h j h1
  · obtain rfl : j = k := by omega
    exact hk
theorem OkTo.all {l : List OpD} (h : OkTo l l.length) : allOk l = true := by
  unfold allOk
  rw [List.all_eq_true]
  intro o ho
  obtain ⟨i, hi, rfl⟩ := List.getElem_of_mem ho
  rw [← ix_lt hi]; exact h i hi
theorem allOk_no {l : List OpD} {k : Nat} (hk : k < l.length) (h : opOkB (ix l k) = false) : allOk l = false := by
  cases hb : allOk l
  · rfl
  · rw [allOk, List.all_eq_true] at hb
    rw [hb _ (ix_mem hk)] at h; cases h
theorem allOk_ix {l : List OpD} (h : allOk l = true) {k : Nat} (hk : k < l.length) : opOkB (ix l k) = true := List.all_eq_true.1 h _ (ix_mem hk)
theorem wrTo_zero (l : List OpD) : wrTo l 0 = [] := by simp [wrTo]
theorem wrTo_succ {l : List OpD} {k : Nat} (h : k < l.length) : wrTo l (k + 1) = wrTo l k ++ seven (ix l k) := by
  simp [wrTo, take_ix h]
theorem wrTo_len {l : List OpD} {k : Nat} (h : k ≤ l.length) : (wrTo l k).length = 7 * k := by
  induction k with
  | zero => simp [wrTo]
  | succ k ih => rw [wrTo_succ h, List.length_append, ih (by omega), seven_len]; omega
def wrL (l : List OpD) : List Nat := wrTo l l.length
theorem wrL_def (l : List OpD) : wrL l = wrTo l l.length := rfl
theorem wrL_len (l : List OpD) : (wrL l).length = 7 * l.length := wrTo_len (Nat.le_refl _)
theorem wrL_cons (o : OpD) (l : List OpD) : wrL (o :: l) = seven o ++ wrL l := by simp [wrL, wrTo]
theorem wrL_bytes {l : List OpD} (h : allOk l = true) : Bytes (wrL l) := by
  induction l with
  | nil => intro x hx; simp [wrL, wrTo] at hx
  | cons o l ih =>
    rw [allOk, List.all_cons, Bool.and_eq_true] at h
    rw [wrL_cons]
    intro x hx
    rcases List.mem_append.1 hx with h1 | h1
    · exact seven_bytes h.1 x h1
    · exact ih h.2 x h1
theorem grp_wrL {l : List OpD} {j : Nat} (hj : j < l.length) : grp (wrL l) j = seven (ix l j) := by
  induction l generalizing j with
  | nil => simp at hj
  | cons o l ih =>
    rw [wrL_cons]
    cases j with
    | zero =>
      unfold grp
      rw [Nat.mul_zero, List.drop_zero, List.take_append_of_le_length (by rw [seven_len]; omega), List.take_of_length_le (by rw [seven_len]; omega), ix_zero]
    | succ j =>
      have : grp (seven o ++ wrL l) (j + 1) = grp (wrL l) j := by
        unfold grp
        rw [show 7 * (j + 1) = (seven o).length + 7 * j by rw [seven_len]; omega, List.drop_append]
        congr 1
        rw [List.drop_of_length_le (by omega), List.nil_append, Nat.add_sub_cancel_left]
      rw [this, ih (by simpa using hj), ix_succ]

/-- what was written is read; torn, all that was whole is -/
theorem journal_back {l : List OpD} {n : Nat} (h : allOk l = true) (hn : n ≤ 7 * l.length) : ReadsTo ((wrL l).take n) (n / 7) 0 ∧ opsTo ((wrL l).take n) (n / 7) = l.take (n / 7) := by
  have hlen : ((wrL l).take n).length = n := by rw [List.length_take, wrL_len]; omega
  have hg : ∀ j, j < n / 7 → grp ((wrL l).take n) j = seven (ix l j) := by
    intro j hj
    rw [← grp_wrL (show j < l.length by omega)]
    unfold grp
    rw [List.drop_take, List.take_take]
    congr 1; omega
  refine ⟨.all _ (fun j hj => by rw [hg j hj]; exact good_seven _) (by omega) (by omega), ?_⟩
  refine ext_ix (by rw [opsTo_len, List.length_take]; omega) fun i hi => ?_
  rw [opsTo_len] at hi
  rw [opsTo_ix _ hi, hg i hi, opOf_seven (allOk_ix h (by omega)), ix_take hi]
/-- a byte that was spoilt is seen -/
theorem journal_spoilt {l : List OpD} {at_ c : Nat} (h : allOk l = true) (ha : at_ < 7 * l.length) (hc : c < 256) (hne : ix (wrL l) at_ ≠ c) : ReadsTo ((wrL l).set at_ c) (at_ / 7) 8 ∧ opsTo ((wrL l).set at_ c) (at_ / 7) = l.take (at_ / 7) := by
  have hL := wrL_len l
  have hg : ∀ j, j < at_ / 7 → grp ((wrL l).set at_ c) j = seven (ix l j) := by
    intro j hj
    rw [← grp_wrL (show j < l.length by omega)]
    refine ext_ix (by rw [grp_len (by rw [List.length_set]; omega), grp_len (by omega)]) fun i hi => ?_
    rw [grp_len (by rw [List.length_set]; omega)] at hi
    rw [grp_ix (by rw [List.length_set]; omega) hi, grp_ix (by omega) hi, ix_set _ _ _ _ (by omega), if_neg (by omega)]
  have hj : at_ / 7 < l.length := by omega
  have hb := seven_bytes (allOk_ix h hj)
  have h0 : grp ((wrL l).set at_ c) (at_ / 7) = (seven (ix l (at_ / 7))).set (at_ % 7) c := by
    rw [← grp_wrL hj]
    refine ext_ix (by rw [List.length_set, grp_len (by rw [List.length_set]; omega), grp_len (by omega)]) fun i hi => ?_
    rw [grp_len (by rw [List.length_set]; omega)] at hi
    rw [grp_ix (by rw [List.length_set]; omega) hi, ix_set _ _ _ _ (by omega), ix_set _ _ _ _ (by rw [grp_len (by omega)]; exact hi), grp_ix (by omega) hi]
    by_cases h1 : at_ = 7 * (at_ / 7) + i
    · rw [if_pos h1, if_pos (by omega)]
    · rw [if_neg h1, if_neg (by omega)]
  have hne' : ix (seven (ix l (at_ / 7))) (at_ % 7) ≠ c := by
    rw [← grp_wrL hj, grp_ix (by omega) (by omega)]
    rw [show 7 * (at_ / 7) + at_ % 7 = at_ by omega]; exact hne
  have hbad : goodB (grp ((wrL l).set at_ c) (at_ / 7)) = false := by
    rw [h0]
    generalize ix l (at_ / 7) = o at *
    cases hgd : goodB ((seven o).set (at_ % 7) c)
    · rfl
    · have h1 : sumN (((seven o).set (at_ % 7) c).take 6) = ix ((seven o).set (at_ % 7) c) 6 := beq_iff_eq.1 hgd
      rw [List.take_set, show (seven o).take 6 = six o from rfl, ix_set _ _ _ _ (by rw [seven_len]; omega)] at h1
      have hsx : ∀ i, i < 6 → ix (seven o) i = ix (six o) i := by
        intro i hi
        rw [ix_lt (by rw [seven_len]; omega), ix_lt (by rw [six_len]; omega)]
        simp only [seven]
        rw [List.getElem_append_left]
      have hs6 : ix (seven o) 6 = sumN (six o) := seven_six o
      by_cases h6 : at_ % 7 = 6
      · rw [if_pos h6, h6, List.set_eq_of_length_le (by rw [six_len]; omega)] at h1
        rw [h6, hs6] at hne'
        exact absurd h1 hne'
      · rw [if_neg h6, hs6] at h1
        exfalso
        refine sum_spoilt (b := six o) (fun x hx => hb x (by unfold seven; exact List.mem_append_left _ hx)) (by rw [six_len]; omega) (by rw [six_len]; omega) hc ?_ h1
        rw [← hsx _ (by omega)]; exact hne'
  refine ⟨.bad _ (fun j hj => by rw [hg j hj]; exact good_seven _) (by rw [List.length_set]; omega) hbad, ?_⟩
  refine ext_ix (by rw [opsTo_len, List.length_take]; omega) fun i hi => ?_
  rw [opsTo_len] at hi
  rw [opsTo_ix _ hi, hg i hi, opOf_seven (allOk_ix h (by omega)), ix_take hi]
/-- nothing is read that was not written -/
theorem journal_only {b : List Nat} {k : Nat} {e : Int} (hb : Bytes b) (h : ReadsTo b k e) : allOk (opsTo b k) = true ∧ wrL (opsTo b k) = b.take (7 * k) := by
  have hle := h.le
  have hg := h.good
  have hs : ∀ j, j < k → opOkB (opOf (grp b j)) = true ∧ seven (opOf (grp b j)) = grp b j := fun j hj => seven_opOf (grp_len (by omega)) (grp_bytes hb j) (hg j hj)
  have hok : allOk (opsTo b k) = true := by
    refine OkTo.all fun j hj => ?_
    rw [opsTo_len] at hj
    rw [opsTo_ix _ hj]; exact (hs j hj).1
  refine ⟨hok, ?_⟩
  have key : ∀ n, n ≤ k → wrTo (opsTo b k) n = b.take (7 * n) := by
    intro n
    induction n with
    | zero => intro _; simp [wrTo]
    | succ n ih =>
      intro hn
      rw [wrTo_succ (by rw [opsTo_len]; omega), ih (by omega), opsTo_ix _ (by omega), (hs n (by omega)).2]
      unfold grp
      rw [show 7 * (n + 1) = 7 * n + 7 by omega, List.take_add]
  rw [wrL_def, opsTo_len]
  exact key k (Nat.le_refl _)
theorem six_def (o : OpD) : six o = [o.kind.toNat, o.user.toNat, o.tran.toNat, o.to.toNat, o.item.toNat / 256, o.item.toNat % 256] := rfl
theorem seven_def (o : OpD) : seven o = six o ++ [sumN (six o)] := rfl
theorem six_cells {o : OpD} (h : opOkB o = true) : (#[.int .u8 (o.kind % 256), .int .u8 (o.user % 256), .int .u8 (o.tran % 256), .int .u8 (o.to % 256), .int .u8 (o.item / 256), .int .u8 (o.item % 256)] : Array Value).toList = (six o).map fun (x : Nat) => Value.int .u8 (x : Int) := by
  have := (opOkB_iff o).1 h
  simp only [six, List.map_cons, List.map_nil, List.cons.injEq, Value.int.injEq, true_and, and_true]
  omega
theorem one_cell {w : World} {ad : Addr} {v : Value} (h : w.cell? ad = some v) : ∀ j u, [v][j]? = some u → w.cell? (ad.add j) = some u := by
  intro j u hj
  cases j with
  | zero => simp at hj; subst hj; rw [show ad.add 0 = ad by unfold Addr.add; split <;> simp_all]; exact h
  | succ j => simp at hj
theorem grp_def (b : List Nat) (j : Nat) : grp b j = (b.drop (7 * j)).take 7 := rfl
theorem or_i64 {x y : Nat} (hx : x < 256) (hy : y < 256) : bits .or .i64 ((x : Int) * 256) (y : Int) = (x : Int) * 256 + (y : Int) := by
  have h : ∀ x, x < 256 → ∀ y, y < 256 → (x * 256 ||| y) = x * 256 + y := by
    intro x hx y hy
    have := Nat.two_pow_add_eq_or_of_lt (i := 8) (b := y) (by omega) x
    rw [Nat.mul_comm x 256, show (256 : Nat) = 2 ^ 8 from rfl, ← this]
  have h2 : (x : Int) * 256 = ((x * 256 : Nat) : Int) := by simp
  rw [h2]
  show IntKind.i64.wrap ((BitVec.ofInt 64 ((x * 256 : Nat) : Int) ||| BitVec.ofInt 64 (y : Int)).toNat : Int) = _
  have e1 : (BitVec.ofInt 64 ((x * 256 : Nat) : Int)).toNat = x * 256 := by simp [BitVec.toNat_ofInt]; omega
  have e2 : (BitVec.ofInt 64 (y : Int)).toNat = y := by simp; omega
  rw [BitVec.toNat_or, e1, e2, h x hx y hy]
  simp [IntKind.wrap, IntKind.bits, IntKind.signed]
  omega
theorem block_news {w : World} {H : Nat} {e : TypeId} {cs : Array Value} (hH : w.heap.size = H) : ∀ j u, cs.toList[j]? = some u → (w.alloc (.cells cs e)).cell? ((⟨H, 0, none⟩ : Addr).add j) = some u := by
  intro j u hj
  subst hH
  have : (⟨w.heap.size, 0, none⟩ : Addr).add j = ⟨w.heap.size, j, none⟩ := by unfold Addr.add; split <;> simp_all
  rw [this]
  exact box_cell (Gr.refl _) (by simpa using hj)
theorem opOf_cells (g : List Nat) : opCells (opOf g) = (#[.int .i64 ((ix g 0 : Nat) : Int), .int .i64 ((ix g 1 : Nat) : Int), .int .i64 ((ix g 2 : Nat) : Int), .int .i64 (((ix g 4 : Nat) : Int) * 256 + ((ix g 5 : Nat) : Int)), .int .i64 ((ix g 3 : Nat) : Int)] : Array Value).toList := by
  simp [opCells, opOf]
theorem opOf_I {g : List Nat} (h : Bytes g) : opI (opOf g) := by
  have h0 := h.ix 0
  have h1 := h.ix 1
  have h2 := h.ix 2
  have h3 := h.ix 3
  have h4 := h.ix 4
  have h5 := h.ix 5
  unfold opI I64 opOf
  simp only []
  omega
attribute [irreducible] smallB six seven rotN sumTo8 sumN opOkB opOf goodB grp opsTo wrTo wrL allOk OkTo GoodTo Bytes
end Go.Tok

/- Bytes turned into a string. No program is in sight here. -/
namespace Go.Tok
open Go.RowKit
set_option linter.unusedVariables false

/-- the string of bytes -/
def strOf (xs : List Nat) : ByteArray := strOfNums (xs.map fun (x : Nat) => (x : Int))
theorem Rd.str {P : Program} {w : World} {a : Option Addr} {n cap : Nat} {xs : List Nat} (h : Rd byteK w (.slice a n cap) xs) {src e : TypeId} (hs : P.underlying src = some (.slice e)) (he : P.underlying e = some (.int .u8)) {dst : TypeId} (hd : P.underlying dst = some .string) :
    (convert src dst (.slice a n cap)).run P w = .ok (.string (strOf xs)) w := by
  rcases h.form with ⟨h1, rfl⟩ | ⟨ad, cap', h1, _, _⟩
  · simp only [Value.slice.injEq] at h1
    obtain ⟨rfl, rfl, rfl⟩ := h1
    exact run_convert_bytes_nil w src e hs he 0 0 dst hd
  · simp only [Value.slice.injEq] at h1
    obtain ⟨rfl, rfl, rfl⟩ := h1
    by_cases h0 : 0 < xs.length
    · obtain ⟨b, o, hb, _⟩ := h.byte h0
      cases hb
      refine run_convert_bytes_arg w src e hs he b o xs.length cap (xs.map fun (x : Nat) => (x : Int)) (by simp) (fun i hi => ?_) dst hd
      obtain ⟨b', o', hb', hc, _⟩ := h.byte hi
      cases hb'
      rw [hc, ix_lt hi]
      simp [hi]
    · have hx : xs = [] := List.eq_nil_of_length_eq_zero (by omega)
      subst hx
      obtain ⟨b, o, s⟩ := ad
      rw [run_convert_bytes_string w src dst e _ _ cap hs he hd]
      simp [Conv.bytesToString, strOf, strOfNums]
      rfl
theorem strOf_size (xs : List Nat) : (strOf xs).size = xs.length := by unfold strOf; rw [strOfNums_size, List.length_map]
theorem strOf_inj {xs ys : List Nat} (hx : ∀ x ∈ xs, x < 256) (hy : ∀ y ∈ ys, y < 256) (h : strOf xs = strOf ys) : xs = ys := by
  have h1 : (strOf xs).data.toList = (strOf ys).data.toList := by rw [h]
  unfold strOf at h1
  rw [strOfNums_data, strOfNums_data, List.map_map, List.map_map] at h1
  clear h
  induction xs generalizing ys with
  | nil => cases ys with
    | nil => rfl
    | cons y r => simp at h1
  | cons x r ih =>
    cases ys with
    | nil => simp at h1
    | cons y r' =>
      simp only [List.map_cons, List.cons.injEq, Function.comp_def, Int.toNat_natCast] at h1
      have hxy : x = y := by
        have h2 := congrArg UInt8.toNat h1.1
        have := hx x (by simp)
        have := hy y (by simp)
        simp [UInt8.toNat_ofNat'] at h2
        omega
      rw [hxy, ih (ys := r') (fun z hz => hx z (by simp [hz])) (fun z hz => hy z (by simp [hz])) (by simpa [Function.comp_def] using h1.2)]
attribute [irreducible] strOf
end Go.Tok

/- A mark as a text: three bytes a place; two marks of one net have different texts. No program is in sight here. -/
namespace Go.Tok
open Go.RowKit
set_option linter.unusedVariables false
def bytes3 (n : Int) : List Nat := [(n % 256).toNat, (n / 256 % 256).toNat, (n / 65536 % 256).toNat]
def nameB (m : List Int) : List Nat := m.flatMap bytes3
def nameTo (m : List Int) (k : Nat) : List Nat := nameB (m.take k)
def nameS (m : List Int) : ByteArray := strOf (nameB m)
theorem nameTo_zero (m : List Int) : nameTo m 0 = [] := rfl
theorem nameTo_succ {m : List Int} {k : Nat} (h : k < m.length) : nameTo m (k + 1) = nameTo m k ++ bytes3 (nth m k) := by
  unfold nameTo nameB
  rw [List.take_succ_eq_append_getElem h, List.flatMap_append, nth_lt h]
  simp
theorem nameTo_all (m : List Int) : nameTo m m.length = nameB m := by unfold nameTo; rw [List.take_length]
theorem nameB_len (m : List Int) : (nameB m).length = m.length * 3 := by
  unfold nameB
  induction m with
  | nil => rfl
  | cons a r ih => rw [List.flatMap_cons, List.length_append, ih, List.length_cons]; simp [bytes3]; omega
theorem nameTo_len {m : List Int} {k : Nat} (h : k ≤ m.length) : (nameTo m k).length = k * 3 := by
  unfold nameTo; rw [nameB_len, List.length_take, Nat.min_eq_left h]
theorem bytes3_lt (n : Int) : ∀ x ∈ bytes3 n, x < 256 := by
  intro x hx
  simp only [bytes3, List.mem_cons, List.not_mem_nil, or_false] at hx
  omega
theorem bytes3_inj {a b : Int} (ha : 0 ≤ a ∧ a ≤ 1000000) (hb : 0 ≤ b ∧ b ≤ 1000000) (h : bytes3 a = bytes3 b) : a = b := by
  simp only [bytes3, List.cons.injEq, and_true] at h
  omega
theorem nameB_inj : ∀ {xs ys : List Int}, (∀ x ∈ xs, 0 ≤ x ∧ x ≤ 1000000) → (∀ x ∈ ys, 0 ≤ x ∧ x ≤ 1000000) → nameB xs = nameB ys → xs = ys
  | [], [], _, _, _ => rfl
  | [], y :: ys, _, _, h => by simp [nameB, bytes3] at h
  | x :: xs, [], _, _, h => by simp [nameB, bytes3] at h
  | x :: xs, y :: ys, hx, hy, h => by
    unfold nameB at h
    rw [List.flatMap_cons, List.flatMap_cons] at h
    obtain ⟨h1, h2⟩ := List.append_inj h rfl
    rw [bytes3_inj (hx x (by simp)) (hy y (by simp)) h1, nameB_inj (fun z hz => hx z (by simp [hz])) (fun z hz => hy z (by simp [hz])) h2]
theorem nameB_lt (m : List Int) : ∀ x ∈ nameB m, x < 256 := by
  intro x hx
  obtain ⟨n, _, h⟩ := List.mem_flatMap.1 hx
  exact bytes3_lt n x h
theorem nameS_size (m : List Int) : (nameS m).size = m.length * 3 := by unfold nameS; rw [strOf_size, nameB_len]
theorem nameS_inj {xs ys : List Int} (hx : ∀ x ∈ xs, 0 ≤ x ∧ x ≤ 1000000) (hy : ∀ x ∈ ys, 0 ≤ x ∧ x ≤ 1000000) (h : nameS xs = nameS ys) : xs = ys :=
  nameB_inj hx hy (strOf_inj (nameB_lt xs) (nameB_lt ys) h)
theorem nameS_def (m : List Int) : nameS m = strOf (nameB m) := rfl
attribute [irreducible] nameS nameB nameTo
end Go.Tok
