/- The search through all marks of a net, as plain functions on lists; what it finds. No program is in sight here. -/
import Derived.Test.YtelfbfjegmncaaaNetLaw
import Derived.Test.YtelfbfjegmncaaaGen
namespace Go.Tok
set_option linter.unusedVariables false

structure ArcD where
  src : Int
  tran : Int
  dst : Int
deriving DecidableEq
instance : Inhabited ArcD := ⟨⟨0, 0, 0⟩⟩
structure SpaceD where
  marks : List (List Int)
  arcs : List ArcD
deriving DecidableEq
def zeroS : SpaceD := ⟨[], []⟩
/-- what the search has found -/
structure FinD where
  marks : List (List Int)
  arcs : List ArcD
  first : List Int
def FinD.space (s : FinD) : SpaceD := ⟨s.marks, s.arcs⟩

def findF (most : Nat) (s : FinD) (m : List Int) (arc : Int) : Option (Nat × FinD) :=
  if m ∈ s.marks then some (s.marks.idxOf m, s)
  else if s.marks.length = most then none
  else some (s.marks.length, ⟨s.marks ++ [m], s.arcs, s.first ++ [arc]⟩)
def addArc (src : Nat) (t : Int) (r : Option (Nat × FinD)) (s : FinD) : FinD × Int :=
  match r with
  | none => (s, 4)
  | some (k, s') => (⟨s'.marks, s'.arcs ++ [⟨src, t, k⟩], s'.first⟩, 0)
def stepF (N : NetD) (most : Nat) (m : List Int) (src : Nat) (s : FinD) (t : Int) : FinD × Int :=
  if (fireF N m t).2 = 0 then addArc src t (findF most s (fireF N m t).1 s.arcs.length) s else (s, (fireF N m t).2)
def stepsF (N : NetD) (most : Nat) (m : List Int) (src : Nat) : FinD → List Int → FinD × Int
  | s, [] => (s, 0)
  | s, t :: l => if (stepF N most m src s t).2 = 0 then stepsF N most m src (stepF N most m src s t).1 l else stepF N most m src s t
def explF (N : NetD) (most : Nat) : Nat → Nat → FinD → FinD × Int
  | 0, _, s => (s, 0)
  | f + 1, i, s =>
    if i < s.marks.length then
      (if (stepsF N most (ix s.marks i) i s (enabledL N (ix s.marks i))).2 = 0 then explF N most f (i + 1) (stepsF N most (ix s.marks i) i s (enabledL N (ix s.marks i))).1
       else stepsF N most (ix s.marks i) i s (enabledL N (ix s.marks i)))
    else (s, 0)
def fin0 (m : List Int) : FinD := ⟨[m], [], [-1]⟩
def searchF (N : NetD) (m : List Int) (most : Int) : FinD × Int :=
  if most < 1 ∨ 300 < most then (⟨[], [], []⟩, 2)
  else if fitsB N m = false then (⟨[], [], []⟩, 2)
  else explF N most.toNat 301 0 (fin0 m)
def graphF (N : NetD) (m : List Int) (most : Int) : SpaceD × Int :=
  if (searchF N m most).2 = 0 then ((searchF N m most).1.space, 0) else (zeroS, (searchF N m most).2)

/-! ### what holds while it goes on: all ahead of mark i is done, and of mark i the transitions pre -/
structure FoundS (N : NetD) (m0 : List Int) (most : Nat) (s : FinD) (i : Nat) (pre : List Int) : Prop where
  nodup : s.marks.Nodup
  head : ∃ r, s.marks = m0 :: r
  le : s.marks.length ≤ most
  fit : ∀ x ∈ s.marks, fitsB N x = true
  flen : s.first.length = s.marks.length
  arc : ∀ a ∈ s.arcs, ∃ i' k j : Nat, a = ⟨i', k, j⟩ ∧ i' ≤ i ∧ i' < s.marks.length ∧ j < s.marks.length ∧ Fires N (ix s.marks i') k (ix s.marks j)
  sorted : s.arcs.Pairwise (fun a b => a.src ≤ b.src)
  first : ∀ j : Nat, 0 < j → j < s.marks.length → ∃ q : Nat, nth s.first j = q ∧ q < s.arcs.length ∧ (ix s.arcs q).dst = j ∧ (ix s.arcs q).src < j ∧ ∀ q', q' < s.arcs.length → (ix s.arcs q').dst = j → q ≤ q'
  rise : ∀ j j' : Nat, 0 < j → j < j' → j' < s.marks.length → nth s.first j < nth s.first j'
  done : ∀ i', i' < i → ∀ t ∈ enabledL N (ix s.marks i'), ∃ a ∈ s.arcs, a.src = i' ∧ a.tran = t
  part : ∀ t ∈ pre, ∃ a ∈ s.arcs, a.src = i ∧ a.tran = t

theorem ix_append_left {α : Type} [Inhabited α] {xs ys : List α} {i : Nat} (h : i < xs.length) : ix (xs ++ ys) i = ix xs i := by
  rw [ix_lt h, ix_lt (by rw [List.length_append]; omega), List.getElem_append_left h]
theorem ix_append_one {α : Type} [Inhabited α] (xs : List α) (y : α) : ix (xs ++ [y]) xs.length = y := by
  rw [ix_lt (by simp)]; simp
theorem nth_append_left {xs ys : List Int} {i : Nat} (h : i < xs.length) : nth (xs ++ ys) i = nth xs i := by
  rw [nth_lt h, nth_lt (by rw [List.length_append]; omega), List.getElem_append_left h]
theorem nth_append_one (xs : List Int) (y : Int) : nth (xs ++ [y]) xs.length = y := by
  rw [nth_lt (by simp)]; simp

theorem fin0_found {N : NetD} {m : List Int} {most : Nat} (h1 : 1 ≤ most) (hf : fitsB N m = true) : FoundS N m most (fin0 m) 0 [] := by
  refine ⟨by simp [fin0], ⟨[], rfl⟩, by simpa [fin0] using h1, ?_, rfl, ?_, by simp [fin0], ?_, ?_, fun i' h => absurd h (Nat.not_lt_zero _), ?_⟩
  · intro x hx; simp [fin0] at hx; rw [hx]; exact hf
  · intro a ha; simp [fin0] at ha
  · intro j h1 h2; simp [fin0] at h2; omega
  · intro j j' h1 h2 h3; simp [fin0] at h3; omega
  · intro t ht; simp at ht

theorem mem_idx {ms : List (List Int)} {x : List Int} (h : x ∈ ms) : ms.idxOf x < ms.length ∧ ix ms (ms.idxOf x) = x := by
  have h1 := List.idxOf_lt_length_of_mem h
  exact ⟨h1, by rw [ix_lt h1]; exact List.getElem_idxOf h1⟩

/-- one arc more -/
theorem step_found {N : NetD} {m0 : List Int} {most : Nat} {s s' : FinD} {i : Nat} {pre : List Int} {t : Int} (h : FoundS N m0 most s i pre) (hi : i < s.marks.length) (hst : stepF N most (ix s.marks i) i s t = (s', 0)) :
    FoundS N m0 most s' i (pre ++ [t]) ∧ (∃ r, s'.marks = s.marks ++ r) ∧ s'.arcs.length = s.arcs.length + 1 := by
  have hfi := h.fit _ (ix_mem hi)
  unfold stepF at hst
  rcases hf : fireF N (ix s.marks i) t with ⟨x, e⟩
  rw [hf] at hst
  by_cases he : e ≠ 0
  · simp only [if_neg he] at hst; cases hst; exact absurd rfl he
  have he : e = 0 := by omega
  subst he
  simp only [if_true] at hst
  obtain ⟨k, rfl, hF⟩ := fire_ok hfi hf
  have hxf := hF.fits hfi
  unfold findF at hst
  by_cases hx : x ∈ s.marks
  · rw [if_pos hx] at hst
    simp only [addArc] at hst
    obtain ⟨h1, h2⟩ := mem_idx hx
    obtain rfl := (Prod.mk.inj hst).1.symm
    have hal : ∀ q, q < s.arcs.length → ix (s.arcs ++ [(⟨i, k, (s.marks.idxOf x : Nat)⟩ : ArcD)]) q = ix s.arcs q := fun q hq => ix_append_left hq
    refine ⟨⟨h.nodup, h.head, h.le, h.fit, h.flen, ?_, ?_, ?_, h.rise, ?_, ?_⟩, ⟨[], by simp⟩, by simp⟩
    · intro a ha
      rcases List.mem_append.1 ha with ha | ha
      · exact h.arc a ha
      · rw [List.mem_singleton.1 ha]
        exact ⟨i, k, _, rfl, Nat.le_refl _, hi, h1, by simp only [h2]; exact hF⟩
    · refine List.pairwise_append.2 ⟨h.sorted, by simp, fun a ha b hb => ?_⟩
      rw [List.mem_singleton.1 hb]
      obtain ⟨i', k', j', rfl, h3, _⟩ := h.arc a ha
      simp only []; omega
    · intro j h3 h4
      obtain ⟨q, q1, q2, q3, q4, q5⟩ := h.first j h3 h4
      refine ⟨q, q1, by simp only [List.length_append, List.length_singleton]; omega, by simp only []; rw [hal q q2]; exact q3, by simp only []; rw [hal q q2]; exact q4, fun q' h5 h6 => ?_⟩
      simp only [List.length_append, List.length_singleton] at h5
      by_cases h7 : q' < s.arcs.length
      · simp only [] at h6; rw [hal q' h7] at h6; exact q5 q' h7 h6
      · omega
    · intro i' h3 t ht
      obtain ⟨a, h4, h5⟩ := h.done i' h3 t ht
      exact ⟨a, List.mem_append_left _ h4, h5⟩
    · intro t ht
      rcases List.mem_append.1 ht with ht | ht
      · obtain ⟨a, h4, h5⟩ := h.part t ht
        exact ⟨a, List.mem_append_left _ h4, h5⟩
      · rw [List.mem_singleton.1 ht]
        exact ⟨_, List.mem_append_right _ (List.mem_singleton.2 rfl), rfl, rfl⟩
  · rw [if_neg hx] at hst
    by_cases hm : s.marks.length = most
    · rw [if_pos hm] at hst; simp [addArc] at hst
    rw [if_neg hm] at hst
    simp only [addArc] at hst
    obtain rfl := (Prod.mk.inj hst).1.symm
    have hal : ∀ q, q < s.arcs.length → ix (s.arcs ++ [(⟨i, k, (s.marks.length : Nat)⟩ : ArcD)]) q = ix s.arcs q := fun q hq => ix_append_left hq
    have hml : ∀ q, q < s.marks.length → ix (s.marks ++ [x]) q = ix s.marks q := fun q hq => ix_append_left hq
    have hle := h.le
    have hfl := h.flen
    refine ⟨⟨?_, ?_, by simp only [List.length_append, List.length_singleton]; omega, ?_, by simp [h.flen], ?_, ?_, ?_, ?_, ?_, ?_⟩, ⟨[x], rfl⟩, by simp⟩
    · refine List.nodup_append.2 ⟨h.nodup, by simp, fun a ha b hb e => ?_⟩
      rw [List.mem_singleton.1 hb] at e; subst e; exact hx ha
    · obtain ⟨r, hr⟩ := h.head
      exact ⟨r ++ [x], by simp only [hr]; rfl⟩
    · intro y hy
      rcases List.mem_append.1 hy with hy | hy
      · exact h.fit y hy
      · rw [List.mem_singleton.1 hy]; exact hxf
    · intro a ha
      simp only [List.length_append, List.length_singleton]
      rcases List.mem_append.1 ha with ha | ha
      · obtain ⟨i', k', j', h1, h2, h3, h4, h5⟩ := h.arc a ha
        exact ⟨i', k', j', h1, h2, by omega, by omega, by rw [hml i' h3, hml j' h4]; exact h5⟩
      · rw [List.mem_singleton.1 ha]
        exact ⟨i, k, _, rfl, Nat.le_refl _, by omega, Nat.lt_succ_self _, by rw [hml i hi, ix_append_one]; exact hF⟩
    · refine List.pairwise_append.2 ⟨h.sorted, by simp, fun a ha b hb => ?_⟩
      rw [List.mem_singleton.1 hb]
      obtain ⟨i', k', j', rfl, h3, _⟩ := h.arc a ha
      simp only []; omega
    · intro j h3 h4
      simp only [List.length_append, List.length_singleton] at h4 ⊢
      by_cases h5 : j < s.marks.length
      · obtain ⟨q, q1, q2, q3, q4, q5⟩ := h.first j h3 h5
        refine ⟨q, by rw [nth_append_left (by omega)]; exact q1, by omega, by rw [hal q q2]; exact q3, by rw [hal q q2]; exact q4, fun q' h6 h7 => ?_⟩
        by_cases h8 : q' < s.arcs.length
        · rw [hal q' h8] at h7; exact q5 q' h8 h7
        · omega
      · obtain rfl : j = s.marks.length := by omega
        refine ⟨s.arcs.length, by rw [← hfl, nth_append_one], by omega, by rw [ix_append_one], by rw [ix_append_one]; simp only []; omega, fun q' h6 h7 => ?_⟩
        by_cases h8 : q' < s.arcs.length
        · rw [hal q' h8] at h7
          obtain ⟨i', k', j', h9, _, _, h10, _⟩ := h.arc _ (ix_mem h8)
          rw [h9] at h7
          simp only [] at h7
          omega
        · omega
    · intro j j' h3 h4 h5
      simp only [List.length_append, List.length_singleton] at h5 ⊢
      by_cases h6 : j' < s.marks.length
      · rw [nth_append_left (by omega), nth_append_left (by omega)]
        exact h.rise j j' h3 h4 h6
      · obtain rfl : j' = s.marks.length := by omega
        obtain ⟨q, q1, q2, _⟩ := h.first j h3 h4
        rw [nth_append_left (by omega), q1, ← hfl, nth_append_one]
        omega
    · intro i' h3 t ht
      simp only [] at ht
      rw [hml i' (by omega)] at ht
      obtain ⟨a, h4, h5⟩ := h.done i' h3 t ht
      exact ⟨a, List.mem_append_left _ h4, h5⟩
    · intro t ht
      rcases List.mem_append.1 ht with ht | ht
      · obtain ⟨a, h4, h5⟩ := h.part t ht
        exact ⟨a, List.mem_append_left _ h4, h5⟩
      · rw [List.mem_singleton.1 ht]
        exact ⟨_, List.mem_append_right _ (List.mem_singleton.2 rfl), rfl, rfl⟩

theorem steps_nil (N : NetD) (most : Nat) (m : List Int) (i : Nat) (s : FinD) : stepsF N most m i s [] = (s, 0) := rfl
theorem steps_cons (N : NetD) (most : Nat) (m : List Int) (i : Nat) (s : FinD) (t : Int) (l : List Int) : stepsF N most m i s (t :: l) = if (stepF N most m i s t).2 = 0 then stepsF N most m i (stepF N most m i s t).1 l else stepF N most m i s t := rfl
theorem expl_succ (N : NetD) (most f i : Nat) (s : FinD) : explF N most (f + 1) i s =
    if i < s.marks.length then
      (if (stepsF N most (ix s.marks i) i s (enabledL N (ix s.marks i))).2 = 0 then explF N most f (i + 1) (stepsF N most (ix s.marks i) i s (enabledL N (ix s.marks i))).1
       else stepsF N most (ix s.marks i) i s (enabledL N (ix s.marks i)))
    else (s, 0) := rfl
theorem expl_end {N : NetD} {most f i : Nat} {s : FinD} (h : s.marks.length ≤ i) : explF N most f i s = (s, 0) := by
  cases f with
  | zero => rfl
  | succ f => rw [expl_succ, if_neg (by omega)]

theorem steps_found {N : NetD} {m0 : List Int} {most : Nat} {i : Nat} : ∀ {l pre : List Int} {s s' : FinD}, FoundS N m0 most s i pre → i < s.marks.length → stepsF N most (ix s.marks i) i s l = (s', 0) →
    FoundS N m0 most s' i (pre ++ l) ∧ (∃ r, s'.marks = s.marks ++ r) ∧ s'.arcs.length = s.arcs.length + l.length := by
  intro l
  induction l with
  | nil => intro pre s s' h hi hst; rw [steps_nil] at hst; cases hst; exact ⟨by simpa using h, ⟨[], by simp⟩, by simp⟩
  | cons t l ih =>
    intro pre s s' h hi hst
    rw [steps_cons] at hst
    rcases hs : stepF N most (ix s.marks i) i s t with ⟨s1, e⟩
    rw [hs] at hst
    by_cases he : e = 0
    · subst he
      simp only [if_true] at hst
      obtain ⟨h1, ⟨r, hr⟩, h2⟩ := step_found h hi hs
      have hx : ix s1.marks i = ix s.marks i := by rw [hr, ix_append_left hi]
      rw [← hx] at hst
      obtain ⟨h3, ⟨r', hr'⟩, h4⟩ := ih h1 (by rw [hr, List.length_append]; omega) hst
      exact ⟨by simpa using h3, ⟨r ++ r', by rw [hr', hr, List.append_assoc]⟩, by rw [h4, h2, List.length_cons]; omega⟩
    · simp only [if_neg he] at hst
      cases hst; exact absurd rfl he
theorem found_next {N : NetD} {m0 : List Int} {most : Nat} {i : Nat} {s : FinD} (h : FoundS N m0 most s i (enabledL N (ix s.marks i))) : FoundS N m0 most s (i + 1) [] := by
  refine ⟨h.nodup, h.head, h.le, h.fit, h.flen, fun a ha => ?_, h.sorted, h.first, h.rise, fun i' hi' t ht => ?_, by simp⟩
  · obtain ⟨i', k, j, h1, h2, h3⟩ := h.arc a ha
    exact ⟨i', k, j, h1, by omega, h3⟩
  · by_cases h1 : i' < i
    · exact h.done i' h1 t ht
    · obtain rfl : i' = i := by omega
      exact h.part t ht
theorem expl_found {N : NetD} {m0 : List Int} {most : Nat} : ∀ {f i : Nat} {s s' : FinD}, FoundS N m0 most s i [] → most + 1 ≤ f + i → explF N most f i s = (s', 0) → ∃ i', FoundS N m0 most s' i' [] ∧ s'.marks.length ≤ i' := by
  intro f
  induction f with
  | zero => intro i s s' h hf he; cases he; exact ⟨i, h, by have := h.le; omega⟩
  | succ f ih =>
    intro i s s' h hf he
    rw [expl_succ] at he
    by_cases hi : i < s.marks.length
    · rw [if_pos hi] at he
      rcases hs : stepsF N most (ix s.marks i) i s (enabledL N (ix s.marks i)) with ⟨s1, e⟩
      rw [hs] at he
      by_cases h0 : e = 0
      · subst h0
        simp only [if_true] at he
        obtain ⟨h1, ⟨r, hr⟩, _⟩ := steps_found h hi hs
        have hx : ix s1.marks i = ix s.marks i := by rw [hr, ix_append_left hi]
        rw [List.nil_append, ← hx] at h1
        exact ih (found_next h1) (by omega) he
      · simp only [if_neg h0] at he
        cases he; exact absurd rfl h0
    · rw [if_neg hi] at he
      cases he; exact ⟨i, h, by omega⟩

/-! ### what a search that comes to its end has found -/
structure Whole (N : NetD) (m0 : List Int) (most : Nat) (s : FinD) : Prop where
  nodup : s.marks.Nodup
  head : ∃ r, s.marks = m0 :: r
  le : s.marks.length ≤ most
  fit : ∀ x ∈ s.marks, fitsB N x = true
  flen : s.first.length = s.marks.length
  arc : ∀ a ∈ s.arcs, ∃ i k j : Nat, a = ⟨i, k, j⟩ ∧ i < s.marks.length ∧ j < s.marks.length ∧ Fires N (ix s.marks i) k (ix s.marks j)
  sorted : s.arcs.Pairwise (fun a b => a.src ≤ b.src)
  first : ∀ j : Nat, 0 < j → j < s.marks.length → ∃ q : Nat, nth s.first j = q ∧ q < s.arcs.length ∧ (ix s.arcs q).dst = j ∧ (ix s.arcs q).src < j ∧ ∀ q', q' < s.arcs.length → (ix s.arcs q').dst = j → q ≤ q'
  rise : ∀ j j' : Nat, 0 < j → j < j' → j' < s.marks.length → nth s.first j < nth s.first j'
  done : ∀ i, i < s.marks.length → ∀ t ∈ enabledL N (ix s.marks i), ∃ a ∈ s.arcs, a.src = i ∧ a.tran = t
theorem search_ok {N : NetD} {m : List Int} {most : Int} {s : FinD} (h : searchF N m most = (s, 0)) : 1 ≤ most ∧ most ≤ 300 ∧ fitsB N m = true ∧ Whole N m most.toNat s := by
  unfold searchF at h
  by_cases h1 : most < 1 ∨ 300 < most
  · rw [if_pos h1] at h; cases h
  rw [if_neg h1] at h
  cases hf : fitsB N m
  · rw [if_pos hf] at h; cases h
  rw [if_neg (by rw [hf]; decide)] at h
  obtain ⟨i, F, hi⟩ := expl_found (fin0_found (by omega) hf) (by omega) h
  refine ⟨by omega, by omega, rfl, F.nodup, F.head, F.le, F.fit, F.flen, fun a ha => ?_, F.sorted, F.first, F.rise, fun i' hi' => F.done i' (by omega)⟩
  obtain ⟨i', k, j, h2, _, h3⟩ := F.arc a ha
  exact ⟨i', k, j, h2, h3⟩
/-- a search fails in three ways -/
theorem fire_err {N : NetD} {m : List Int} {t : Int} (hf : fitsB N m = true) (ht : t ∈ enabledL N m) : (fireF N m t).2 = 0 ∨ (fireF N m t).2 = 4 := by
  obtain ⟨y, h⟩ := fire_enabled hf t
  have hb : hasB (enabledL N m) t = true := (hasB_iff _ _).2 ht
  rcases h with ⟨h, _⟩ | ⟨h, _⟩ | ⟨h, h'⟩
  · rw [h]; exact .inl rfl
  · rw [h]; exact .inr rfl
  · rw [hb] at h'; cases h'
theorem step_err {N : NetD} {most : Nat} {m : List Int} {i : Nat} {s : FinD} {t : Int} (hf : fitsB N m = true) (ht : t ∈ enabledL N m) : (stepF N most m i s t).2 = 0 ∨ (stepF N most m i s t).2 = 4 := by
  unfold stepF
  rcases fire_err hf ht with h | h
  · rw [if_pos h]
    unfold addArc
    split
    · exact .inr rfl
    · exact .inl rfl
  · rw [if_neg (by omega)]; exact .inr h
theorem steps_err {N : NetD} {most : Nat} {m : List Int} {i : Nat} (hf : fitsB N m = true) : ∀ (l : List Int) (s : FinD), (∀ t ∈ l, t ∈ enabledL N m) → (stepsF N most m i s l).2 = 0 ∨ (stepsF N most m i s l).2 = 4
  | [], s, _ => .inl rfl
  | t :: l, s, h => by
    rw [steps_cons]
    rcases step_err (most := most) (i := i) (s := s) hf (h t (by simp)) with h1 | h1
    · rw [if_pos h1]; exact steps_err hf l _ fun t ht => h t (by simp [ht])
    · rw [if_neg (by omega)]; exact .inr h1
theorem expl_err {N : NetD} {m0 : List Int} {most : Nat} : ∀ {f i : Nat} {s : FinD}, FoundS N m0 most s i [] → (explF N most f i s).2 = 0 ∨ (explF N most f i s).2 = 4 := by
  intro f
  induction f with
  | zero => intro i s h; exact .inl rfl
  | succ f ih =>
    intro i s h
    rw [expl_succ]
    by_cases hi : i < s.marks.length
    · rw [if_pos hi]
      have he := steps_err (most := most) (i := i) (h.fit _ (ix_mem hi)) (enabledL N (ix s.marks i)) s (fun _ h => h)
      rcases hs : stepsF N most (ix s.marks i) i s (enabledL N (ix s.marks i)) with ⟨s1, e⟩
      rw [hs] at he
      by_cases h0 : e = 0
      · subst h0
        simp only [if_true]
        obtain ⟨h1, ⟨r, hr⟩, _⟩ := steps_found h hi hs
        have hx : ix s1.marks i = ix s.marks i := by rw [hr, ix_append_left hi]
        rw [List.nil_append, ← hx] at h1
        exact ih (found_next h1)
      · simp only [if_neg h0]
        rcases he with h | h
        · exact absurd h h0
        · exact .inr h
    · rw [if_neg hi]; exact .inl rfl
theorem search_bad {N : NetD} {m : List Int} {most : Int} : (searchF N m most).2 = 0 ∨ ((searchF N m most).2 = 4 ∧ 1 ≤ most ∧ most ≤ 300 ∧ fitsB N m = true) ∨ ((searchF N m most).2 = 2 ∧ ¬ (1 ≤ most ∧ most ≤ 300 ∧ fitsB N m = true)) := by
  unfold searchF
  by_cases h1 : most < 1 ∨ 300 < most
  · rw [if_pos h1]; exact .inr (.inr ⟨rfl, by omega⟩)
  rw [if_neg h1]
  cases hf : fitsB N m
  · rw [if_pos rfl]; exact .inr (.inr ⟨rfl, by simp⟩)
  rw [if_neg (by decide)]
  rcases expl_err (f := 301) (fin0_found (N := N) (m := m) (most := most.toNat) (by omega) hf) with h | h
  · exact .inl h
  · exact .inr (.inl ⟨h, by omega, by omega, rfl⟩)

/-! ### a run stays among the marks -/
theorem Whole.next {N : NetD} {m0 : List Int} {most : Nat} {s : FinD} (h : Whole N m0 most s) {x y : List Int} {k : Nat} (hx : x ∈ s.marks) (hF : Fires N x k y) : y ∈ s.marks := by
  obtain ⟨i, hi, rfl⟩ := List.getElem_of_mem hx
  rw [← ix_lt hi] at hF hx
  obtain ⟨a, h1, h2, h3⟩ := h.done i hi k ((hasB_iff _ _).1 ((enabled_has (k : Int)).2 ⟨k, rfl, hF.lt, hF.pre⟩))
  obtain ⟨i', k', j, rfl, h4, h5, h6⟩ := h.arc a h1
  simp only [] at h2 h3
  have e1 : i' = i := by omega
  have e2 : k' = k := by omega
  subst e1 e2
  rw [hF.unique h6]
  exact ix_mem h5
theorem Whole.fires {N : NetD} {m0 : List Int} {most : Nat} {s : FinD} (h : Whole N m0 most s) {x : List Int} {k : Nat} (hx : x ∈ s.marks) (hk : k < N.trans.length) (hp : ∀ p, nth (N.tr k).pre p ≤ nth x p) : ∃ y, Fires N x k y ∧ y ∈ s.marks := by
  obtain ⟨i, hi, rfl⟩ := List.getElem_of_mem hx
  rw [← ix_lt hi] at hp hx ⊢
  obtain ⟨a, h1, h2, h3⟩ := h.done i hi k ((hasB_iff _ _).1 ((enabled_has (k : Int)).2 ⟨k, rfl, hk, hp⟩))
  obtain ⟨i', k', j, rfl, h4, h5, h6⟩ := h.arc a h1
  simp only [] at h2 h3
  have e1 : i' = i := by omega
  have e2 : k' = k := by omega
  subst e1 e2
  exact ⟨_, h6, ix_mem h5⟩
theorem Whole.runs {N : NetD} {m0 : List Int} {most : Nat} {s : FinD} (h : Whole N m0 most s) {x q y : List Int} (hr : Runs N x q y) (hx : x ∈ s.marks) : y ∈ s.marks := by
  induction hr with
  | nil x => exact hx
  | cons hF _ ih => exact ih (h.next hx hF)
theorem Whole.start {N : NetD} {m0 : List Int} {most : Nat} {s : FinD} (h : Whole N m0 most s) : m0 ∈ s.marks := by
  obtain ⟨r, hr⟩ := h.head; rw [hr]; simp
/-- a run from a mark ends at a mark, or at a transition that is not enabled -/
theorem Whole.runL {N : NetD} {m0 : List Int} {most : Nat} {s : FinD} (h : Whole N m0 most s) : ∀ (q : List Int) (x : List Int), x ∈ s.marks → (∃ y, runL N x q = (y, 0) ∧ y ∈ s.marks) ∨ runL N x q = ([], 3)
  | [], x, hx => .inl ⟨x, runL_nil N x, hx⟩
  | t :: q, x, hx => by
    rw [runL_cons]
    rcases fire_cases t (h.fit x hx) with ⟨k, y, h1, h2, h3⟩ | ⟨h1, _⟩ | ⟨h1, k, rfl, h2, h3, p, h4⟩
    · rw [h3]; simp only [if_true]; exact h.runL q y (h.next hx h2)
    · rw [h1]; exact .inr rfl
    · obtain ⟨y, h5, _⟩ := h.fires hx h2 h3
      have := h5.le p; have := h5.eq p; omega
theorem Whole.runF {N : NetD} {m0 : List Int} {most : Nat} {s : FinD} (h : Whole N m0 most s) (q : List Int) : (∃ y, runF N m0 q = (y, 0) ∧ y ∈ s.marks) ∨ runF N m0 q = ([], 3) := by
  rw [runF_fit (h.fit _ h.start)]
  exact h.runL q m0 h.start
end Go.Tok
