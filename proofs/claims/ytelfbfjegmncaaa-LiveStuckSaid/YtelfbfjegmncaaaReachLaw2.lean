/- Paths in what the search has found: each leads to its mark, none is shorter; more room changes nothing. No program is in sight here. -/
import Derived.Test.YtelfbfjegmncaaaReachLaw
import Derived.Test.YtelfbfjegmncaaaBackLaw
namespace Go.Tok
set_option linter.unusedVariables false

/-! ### back from a mark, by the arcs by which marks were found -/
def trailF (s : FinD) : Nat → Nat → List Int
  | 0, _ => []
  | f + 1, k => if 0 < k then (ix s.arcs (nth s.first k).toNat).tran :: trailF s f (ix s.arcs (nth s.first k).toNat).src.toNat else []
def trail (s : FinD) (k : Nat) : List Int := trailF s k k
def pathF (N : NetD) (m goal : List Int) (most : Int) : List Int × Int :=
  if (searchF N m most).2 = 0 then
    (if goal ∈ (searchF N m most).1.marks then ((trail (searchF N m most).1 ((searchF N m most).1.marks.idxOf goal)).reverse, 0) else ([], 3))
  else ([], (searchF N m most).2)

section
variable {N : NetD} {m0 : List Int} {most : Nat} {s : FinD}
/-- the arc by which mark k was found -/
theorem Whole.arcAt (h : Whole N m0 most s) {k : Nat} (h0 : 0 < k) (hk : k < s.marks.length) : ∃ q i u : Nat, nth s.first k = q ∧ q < s.arcs.length ∧ ix s.arcs q = ⟨i, u, k⟩ ∧ i < k ∧ Fires N (ix s.marks i) u (ix s.marks k) := by
  obtain ⟨q, h1, h2, h3, h4, _⟩ := h.first k h0 hk
  obtain ⟨i, u, j, h5, h6, h7, h8⟩ := h.arc _ (ix_mem h2)
  rw [h5] at h3 h4
  simp only [] at h3 h4
  have : j = k := by omega
  subst this
  exact ⟨q, i, u, h1, h2, h5, by omega, h8⟩
theorem trail_fuel (h : Whole N m0 most s) : ∀ (f g k : Nat), k < s.marks.length → k ≤ f → k ≤ g → trailF s f k = trailF s g k := by
  intro f
  induction f with
  | zero =>
    intro g k hk h1 h2
    have : k = 0 := by omega
    subst this
    cases g with
    | zero => rfl
    | succ g => simp [trailF]
  | succ f ih =>
    intro g k hk h1 h2
    cases g with
    | zero =>
      have : k = 0 := by omega
      subst this
      simp [trailF]
    | succ g =>
      simp only [trailF]
      by_cases h0 : 0 < k
      · rw [if_pos h0, if_pos h0]
        obtain ⟨q, i, u, e1, e2, e3, e4, _⟩ := h.arcAt h0 hk
        rw [e1, Int.toNat_natCast, e3]
        simp only [Int.toNat_natCast]
        rw [ih g i (by omega) (by omega) (by omega)]
      · rw [if_neg h0, if_neg h0]
theorem trail_zero (s : FinD) : trail s 0 = [] := rfl
theorem trail_pos (h : Whole N m0 most s) {k : Nat} (h0 : 0 < k) (hk : k < s.marks.length) : trail s k = (ix s.arcs (nth s.first k).toNat).tran :: trail s (ix s.arcs (nth s.first k).toNat).src.toNat := by
  obtain ⟨q, i, u, e1, e2, e3, e4, _⟩ := h.arcAt h0 hk
  unfold trail
  cases k with
  | zero => omega
  | succ k =>
    rw [trailF, if_pos h0]
    congr 1
    rw [e1, Int.toNat_natCast, e3]
    simp only [Int.toNat_natCast]
    exact trail_fuel h _ _ _ (by omega) (by omega) (Nat.le_refl _)
theorem trail_arc (h : Whole N m0 most s) {k : Nat} (h0 : 0 < k) (hk : k < s.marks.length) : ∃ i u q : Nat, nth s.first k = q ∧ q < s.arcs.length ∧ ix s.arcs q = ⟨i, u, k⟩ ∧ trail s k = (u : Int) :: trail s i ∧ i < k ∧ Fires N (ix s.marks i) u (ix s.marks k) := by
  obtain ⟨q, i, u, e1, e2, e3, e4, e5⟩ := h.arcAt h0 hk
  refine ⟨i, u, q, e1, e2, e3, ?_, e4, e5⟩
  rw [trail_pos h h0 hk, e1, Int.toNat_natCast, e3]
  simp only [Int.toNat_natCast]
theorem Whole.first_mark (h : Whole N m0 most s) : ix s.marks 0 = m0 := by
  obtain ⟨r, hr⟩ := h.head; rw [hr, ix_zero]
/-- the way to a mark leads there -/
theorem trail_runs (h : Whole N m0 most s) : ∀ (k : Nat), k < s.marks.length → Runs N m0 (trail s k).reverse (ix s.marks k) := by
  intro k
  induction k using Nat.strongRecOn with
  | ind k ih =>
    intro hk
    by_cases h0 : 0 < k
    · obtain ⟨i, u, q, _, _, _, e1, e2, e3⟩ := trail_arc h h0 hk
      rw [e1, List.reverse_cons]
      exact (ih i e2 (by omega)).snoc e3
    · have : k = 0 := by omega
      subst this
      rw [trail_zero, h.first_mark]
      exact .nil _
theorem Whole.srcs (h : Whole N m0 most s) {q q' : Nat} (hq : q ≤ q') (hq' : q' < s.arcs.length) : (ix s.arcs q).src ≤ (ix s.arcs q').src := by
  by_cases he : q = q'
  · rw [he]; exact Int.le_refl _
  · have := List.pairwise_iff_getElem.1 h.sorted q q' (by omega) hq' (by omega)
    rwa [ix_lt (by omega), ix_lt hq']
theorem trail_mono (h : Whole N m0 most s) : ∀ (k' k : Nat), k ≤ k' → k' < s.marks.length → (trail s k).length ≤ (trail s k').length := by
  intro k'
  induction k' using Nat.strongRecOn with
  | ind k' ih =>
    intro k hk hk'
    by_cases h0 : 0 < k
    · by_cases he : k = k'
      · rw [he]; exact Nat.le_refl _
      · obtain ⟨i, u, q, e1, e2, e3, e4, e5, _⟩ := trail_arc h h0 (by omega)
        obtain ⟨i', u', q', f1, f2, f3, f4, f5, _⟩ := trail_arc h (k := k') (by omega) hk'
        have hr := h.rise k k' h0 (by omega) hk'
        have hs := h.srcs (q := q) (q' := q') (by omega) f2
        rw [e3, f3] at hs
        simp only [] at hs
        rw [e4, f4]
        have := ih i' f5 i (by omega) (by omega)
        simp only [List.length_cons]; omega
    · have : k = 0 := by omega
      subst this
      rw [trail_zero]; exact Nat.zero_le _
theorem trail_next (h : Whole N m0 most s) {a : ArcD} (ha : a ∈ s.arcs) {i u j : Nat} (he : a = ⟨i, u, j⟩) (hi : i < s.marks.length) (hj : j < s.marks.length) : (trail s j).length ≤ (trail s i).length + 1 := by
  subst he
  by_cases h0 : 0 < j
  · obtain ⟨q', hq', hqe⟩ := List.getElem_of_mem ha
    obtain ⟨q, f1, f2, f3, f4, f5⟩ := h.first j h0 hj
    have h1 := f5 q' hq' (by rw [ix_lt hq', hqe])
    obtain ⟨i', u', q2, e1, e2, e3, e4, e5, _⟩ := trail_arc h h0 hj
    have : q2 = q := by omega
    subst this
    have hs := h.srcs h1 hq'
    rw [e3, ix_lt hq', hqe] at hs
    simp only [] at hs
    have := trail_mono h i i' (by omega) hi
    rw [e4, List.length_cons]; omega
  · have : j = 0 := by omega
    subst this
    rw [trail_zero]; exact Nat.zero_le _
theorem Whole.inj (h : Whole N m0 most s) {i j : Nat} (hi : i < s.marks.length) (hj : j < s.marks.length) (he : ix s.marks i = ix s.marks j) : i = j := by
  rw [ix_lt hi, ix_lt hj] at he
  exact (List.getElem_inj h.nodup).1 he
theorem trail_short (h : Whole N m0 most s) {x q y : List Int} (hr : Runs N x q y) : ∀ i, i < s.marks.length → x = ix s.marks i → ∃ j, j < s.marks.length ∧ y = ix s.marks j ∧ (trail s j).length ≤ (trail s i).length + q.length := by
  induction hr with
  | nil x => intro i hi hx; exact ⟨i, hi, hx, by simp⟩
  | @cons x y z q k hF _ ih =>
    intro i hi hx
    subst hx
    obtain ⟨a, h1, h2, h3⟩ := h.done i hi k ((hasB_iff _ _).1 ((enabled_has (k : Int)).2 ⟨k, rfl, hF.lt, hF.pre⟩))
    obtain ⟨i', k', j, he, h4, h5, h6⟩ := h.arc a h1
    have he' := he
    rw [he] at h2 h3
    simp only [] at h2 h3
    have e1 : i' = i := by omega
    have e2 : k' = k := by omega
    subst e1 e2
    obtain ⟨j2, g1, g2, g3⟩ := ih j h5 (hF.unique h6)
    have := trail_next h h1 he' hi h5
    exact ⟨j2, g1, g2, by rw [List.length_cons]; omega⟩
/-- no run that is shorter leads to a mark -/
theorem trail_least (h : Whole N m0 most s) {q : List Int} {k : Nat} (hk : k < s.marks.length) (hr : Runs N m0 q (ix s.marks k)) : (trail s k).length ≤ q.length := by
  obtain ⟨r, hh⟩ := h.head
  have h0 : 0 < s.marks.length := by rw [hh]; simp
  obtain ⟨j, h1, h2, h3⟩ := trail_short h hr 0 h0 h.first_mark.symm
  have := h.inj hk h1 h2
  subst this
  rw [trail_zero] at h3
  simpa using h3
end

/-! ### more room -/
section
variable {N : NetD} {most more : Nat}
theorem find_len {s s' : FinD} {x : List Int} {c : Int} {k : Nat} (h : findF most s x c = some (k, s')) : s.marks.length ≤ s'.marks.length := by
  unfold findF at h
  split at h
  · cases h; exact Nat.le_refl _
  · split at h
    · cases h
    · cases h; simp
theorem find_more {s s' : FinD} {x : List Int} {c : Int} {k : Nat} (h : findF most s x c = some (k, s')) (hl : s'.marks.length ≤ more) : findF more s x c = some (k, s') := by
  unfold findF at *
  split at h
  · rename_i hx; rw [if_pos hx]; exact h
  · rename_i hx
    rw [if_neg hx]
    split at h
    · cases h
    · cases h
      simp at hl
      rw [if_neg (by omega)]
theorem find_less {s s' : FinD} {x : List Int} {c : Int} {k : Nat} (h : findF most s x c = some (k, s')) (h0 : s.marks.length ≤ more) (hl : more < s'.marks.length) : findF more s x c = none := by
  unfold findF at *
  split at h
  · cases h; omega
  · rename_i hx
    rw [if_neg hx]
    split at h
    · cases h
    · cases h
      simp at hl
      rw [if_pos (by omega)]
theorem step_cases {m : List Int} {i : Nat} {s s' : FinD} {t : Int} (h : stepF N most m i s t = (s', 0)) : (fireF N m t).2 = 0 ∧ ∃ k s1, findF most s (fireF N m t).1 s.arcs.length = some (k, s1) ∧ s' = ⟨s1.marks, s1.arcs ++ [⟨i, t, k⟩], s1.first⟩ := by
  unfold stepF at h
  split at h
  · rename_i h0
    refine ⟨h0, ?_⟩
    cases hf : findF most s (fireF N m t).1 s.arcs.length with
    | none => rw [hf] at h; cases h
    | some r => rw [hf] at h; obtain ⟨k, s1⟩ := r; exact ⟨k, s1, rfl, (Prod.mk.inj h).1.symm⟩
  · rename_i h0; exact absurd (Prod.mk.inj h).2 h0
theorem step_len {m : List Int} {i : Nat} {s s' : FinD} {t : Int} (h : stepF N most m i s t = (s', 0)) : s.marks.length ≤ s'.marks.length := by
  obtain ⟨_, k, s1, h1, rfl⟩ := step_cases h
  have := find_len h1
  exact this
theorem step_more {m : List Int} {i : Nat} {s s' : FinD} {t : Int} (h : stepF N most m i s t = (s', 0)) (hl : s'.marks.length ≤ more) : stepF N more m i s t = (s', 0) := by
  obtain ⟨h0, k, s1, h1, rfl⟩ := step_cases h
  unfold stepF
  rw [if_pos h0, find_more h1 hl]; rfl
theorem step_less {m : List Int} {i : Nat} {s s' : FinD} {t : Int} (h : stepF N most m i s t = (s', 0)) (h0 : s.marks.length ≤ more) (hl : more < s'.marks.length) : (stepF N more m i s t).2 = 4 := by
  obtain ⟨h2, k, s1, h1, rfl⟩ := step_cases h
  unfold stepF
  rw [if_pos h2, find_less h1 h0 hl]; rfl
theorem steps_cases {m : List Int} {i : Nat} {s s' : FinD} {t : Int} {l : List Int} (h : stepsF N most m i s (t :: l) = (s', 0)) : ∃ s1, stepF N most m i s t = (s1, 0) ∧ stepsF N most m i s1 l = (s', 0) := by
  rw [steps_cons] at h
  split at h
  · rename_i h0; exact ⟨_, Prod.ext rfl h0, h⟩
  · rename_i h0; rw [h] at h0; exact absurd rfl h0
theorem steps_len {m : List Int} {i : Nat} : ∀ {l : List Int} {s s' : FinD}, stepsF N most m i s l = (s', 0) → s.marks.length ≤ s'.marks.length
  | [], s, s', h => by cases h; exact Nat.le_refl _
  | t :: l, s, s', h => by
    obtain ⟨s1, h1, h2⟩ := steps_cases h
    exact Nat.le_trans (step_len h1) (steps_len h2)
theorem steps_more {m : List Int} {i : Nat} : ∀ {l : List Int} {s s' : FinD}, stepsF N most m i s l = (s', 0) → s'.marks.length ≤ more → stepsF N more m i s l = (s', 0)
  | [], s, s', h, _ => h
  | t :: l, s, s', h, hl => by
    obtain ⟨s1, h1, h2⟩ := steps_cases h
    rw [steps_cons, step_more h1 (Nat.le_trans (steps_len h2) hl)]
    exact steps_more h2 hl
theorem steps_less {m : List Int} {i : Nat} : ∀ {l : List Int} {s s' : FinD}, stepsF N most m i s l = (s', 0) → s.marks.length ≤ more → more < s'.marks.length → (stepsF N more m i s l).2 = 4
  | [], s, s', h, h0, hl => by cases h; omega
  | t :: l, s, s', h, h0, hl => by
    obtain ⟨s1, h1, h2⟩ := steps_cases h
    rw [steps_cons]
    by_cases h3 : s1.marks.length ≤ more
    · rw [step_more h1 h3]
      exact steps_less h2 h3 hl
    · have := step_less (more := more) h1 h0 (by omega)
      rw [if_neg (by omega)]; exact this
theorem expl_len : ∀ {f i : Nat} {s s' : FinD}, explF N most f i s = (s', 0) → s.marks.length ≤ s'.marks.length
  | 0, i, s, s', h => by cases h; exact Nat.le_refl _
  | f + 1, i, s, s', h => by
    rw [expl_succ] at h
    split at h
    · rcases hs : stepsF N most (ix s.marks i) i s (enabledL N (ix s.marks i)) with ⟨s1, e⟩
      rw [hs] at h
      by_cases he : e = 0
      · subst he
        simp only [if_true] at h
        exact Nat.le_trans (steps_len hs) (expl_len h)
      · simp only [if_neg he] at h; cases h; exact absurd rfl he
    · cases h; exact Nat.le_refl _
theorem expl_more : ∀ {f i : Nat} {s s' : FinD}, explF N most f i s = (s', 0) → s'.marks.length ≤ more → explF N more f i s = (s', 0)
  | 0, i, s, s', h, _ => h
  | f + 1, i, s, s', h, hl => by
    rw [expl_succ] at h ⊢
    split at h
    · rename_i hi
      rw [if_pos hi]
      rcases hs : stepsF N most (ix s.marks i) i s (enabledL N (ix s.marks i)) with ⟨s1, e⟩
      rw [hs] at h
      by_cases he : e = 0
      · subst he
        simp only [if_true] at h
        rw [steps_more hs (Nat.le_trans (expl_len h) hl)]
        simp only [if_true]
        exact expl_more h hl
      · simp only [if_neg he] at h; cases h; exact absurd rfl he
    · rename_i hi; rw [if_neg hi]; exact h
theorem expl_less : ∀ {f i : Nat} {s s' : FinD}, explF N most f i s = (s', 0) → s.marks.length ≤ more → more < s'.marks.length → (explF N more f i s).2 = 4
  | 0, i, s, s', h, h0, hl => by cases h; omega
  | f + 1, i, s, s', h, h0, hl => by
    rw [expl_succ] at h ⊢
    split at h
    · rename_i hi
      rw [if_pos hi]
      rcases hs : stepsF N most (ix s.marks i) i s (enabledL N (ix s.marks i)) with ⟨s1, e⟩
      rw [hs] at h
      by_cases he : e = 0
      · subst he
        simp only [if_true] at h
        by_cases h3 : s1.marks.length ≤ more
        · rw [steps_more hs h3]
          simp only [if_true]
          exact expl_less h h3 hl
        · have := steps_less (more := more) hs h0 (by omega)
          rw [if_neg (by omega)]; exact this
      · simp only [if_neg he] at h; cases h; exact absurd rfl he
    · cases h; omega
end
theorem graph_more {N : NetD} {m : List Int} {most more : Int} {a : SpaceD} (h : graphF N m most = (a, 0)) (h1 : 1 ≤ more) (h2 : more ≤ 300) (h3 : (a.marks.length : Int) ≤ more) : graphF N m more = (a, 0) := by
  unfold graphF at h
  split at h
  · rename_i h0
    rcases hs : searchF N m most with ⟨s, e⟩
    rw [hs] at h h0
    simp only [] at h0
    subst h0
    obtain ⟨g1, g2, hf, _⟩ := search_ok hs
    cases h
    have hs' := hs
    unfold searchF at hs'
    rw [if_neg (by omega), if_neg (by rw [hf]; decide)] at hs'
    have hm := expl_more (more := more.toNat) hs' (by simp only [FinD.space] at h3; omega)
    have hse : searchF N m more = (s, 0) := by
      unfold searchF
      rw [if_neg (by omega), if_neg (by rw [hf]; decide)]; exact hm
    unfold graphF
    rw [hse]; rfl
  · rename_i h0; exact absurd (Prod.mk.inj h).2 h0
theorem graph_less {N : NetD} {m : List Int} {most more : Int} {a : SpaceD} (h : graphF N m most = (a, 0)) (h1 : 1 ≤ more) (h2 : more ≤ 300) (h3 : more < (a.marks.length : Int)) : graphF N m more = (zeroS, 4) := by
  unfold graphF at h
  split at h
  · rename_i h0
    rcases hs : searchF N m most with ⟨s, e⟩
    rw [hs] at h h0
    simp only [] at h0
    subst h0
    obtain ⟨g1, g2, hf, _⟩ := search_ok hs
    cases h
    have hs' := hs
    unfold searchF at hs'
    rw [if_neg (by omega), if_neg (by rw [hf]; decide)] at hs'
    have hm := expl_less (more := more.toNat) hs' (by simp [fin0]; omega) (by simp only [FinD.space] at h3; omega)
    have hse : (searchF N m more).2 = 4 := by
      unfold searchF
      rw [if_neg (by omega), if_neg (by rw [hf]; decide)]; exact hm
    unfold graphF
    rw [hse]; rfl
  · rename_i h0; exact absurd (Prod.mk.inj h).2 h0
end Go.Tok
