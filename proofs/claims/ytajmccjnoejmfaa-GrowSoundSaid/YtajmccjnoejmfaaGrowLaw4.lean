/- Of what grows of a block: one token comes in, one token goes out, whatever is done in between; all of it can be done. No program is in sight here. -/
import Derived.Test.YtajmccjnoejmfaaGrowLaw3
namespace Go.Tok
open Go.RowKit
set_option linter.unusedVariables false
abbrev Mk := Int → Int
def oneM (p : Int) : Mk := fun q => if q = p then 1 else 0
def useM (l : List Int) : Mk := fun q => if q ∈ l then 1 else 0
def addM (M R : Mk) : Mk := fun q => M q + R q
theorem oneM_self (p : Int) : oneM p p = 1 := by simp [oneM]
theorem oneM_ge {p q : Int} (h : 1 ≤ oneM p q) : q = p := by
  unfold oneM at h
  split at h
  · assumption
  · omega
theorem oneM_nn (p q : Int) : 0 ≤ oneM p q := by unfold oneM; split <;> omega
theorem useM_nn (l : List Int) (q : Int) : 0 ≤ useM l q := by unfold useM; split <;> omega
theorem useM_one (p : Int) : useM [p] = oneM p := by funext q; simp [useM, oneM]
theorem useM_in {l : List Int} {q : Int} (h : q ∈ l) : useM l q = 1 := by simp [useM, h]
theorem useM_out {l : List Int} {q : Int} (h : q ∉ l) : useM l q = 0 := by simp [useM, h]
theorem oneM_ne {p q : Int} (h : q ≠ p) : oneM p q = 0 := by simp [oneM, h]
def afterM (l : TranD) (M : Mk) : Mk := fun q => M q - useM l.pre q + useM l.post q
def CanM (l : TranD) (M : Mk) : Prop := ∀ p ∈ l.pre, 1 ≤ M p
inductive RunM (L : List TranD) : Mk → Mk → Prop
  | nil (M : Mk) : RunM L M M
  | cons {l : TranD} {M M' : Mk} (hl : l ∈ L) (hc : CanM l M) (h : RunM L (afterM l M) M') : RunM L M M'
theorem RunM.trans {L : List TranD} {a b c : Mk} (h : RunM L a b) (k : RunM L b c) : RunM L a c := by
  induction h with
  | nil => exact k
  | cons hl hc _ ih => exact .cons hl hc (ih k)
theorem RunM.mono {L L' : List TranD} {a b : Mk} (h : RunM L a b) (hs : ∀ l ∈ L, l ∈ L') : RunM L' a b := by
  induction h with
  | nil => exact .nil _
  | cons hl hc _ ih => exact .cons (hs _ hl) hc ih
theorem after_add (l : TranD) (M R : Mk) : afterM l (addM M R) = addM (afterM l M) R := by funext q; simp only [afterM, addM]; omega
theorem add_comm_M (M R : Mk) : addM M R = addM R M := by funext q; simp only [addM]; omega
theorem RunM.frame {L : List TranD} {a b : Mk} (h : RunM L a b) {R : Mk} (hR : ∀ q, 0 ≤ R q) : RunM L (addM a R) (addM b R) := by
  induction h with
  | nil => exact .nil _
  | cons hl hc _ ih => exact .cons hl (fun p hp => by have := hc p hp; have := hR p; simp only [addM]; omega) (by rw [after_add]; exact ih)
theorem RunM.frame' {L : List TranD} {a b : Mk} (h : RunM L a b) {R : Mk} (hR : ∀ q, 0 ≤ R q) : RunM L (addM R a) (addM R b) := by rw [add_comm_M R a, add_comm_M R b]; exact h.frame hR
theorem after_one {a b lab : Int} : afterM ⟨lab, [a], [b]⟩ (oneM a) = oneM b := by
  funext q
  simp only [afterM, useM_one]; omega
theorem after_nn {l : TranD} {M : Mk} (h : ∀ q, 0 ≤ M q) (hc : CanM l M) : ∀ q, 0 ≤ afterM l M q := fun q => by
  have := h q
  have h2 := useM_nn l.post q
  unfold afterM
  by_cases hq : q ∈ l.pre
  · have := hc q hq
    rw [useM_in hq]; omega
  · rw [useM_out hq]; omega
theorem after_post {l : TranD} {M : Mk} (h : ∀ q, 0 ≤ M q) (hc : CanM l M) {q : Int} (hq : q ∈ l.post) : 1 ≤ afterM l M q := by
  have := h q
  unfold afterM
  rw [useM_in hq]
  by_cases hq : q ∈ l.pre
  · have := hc q hq
    rw [useM_in hq]; omega
  · rw [useM_out hq]; omega

/-- what is closed under steps is closed under runs -/
theorem stays_in {L : List TranD} {A : Mk → Prop} (hs : ∀ M l, A M → l ∈ L → CanM l M → A (afterM l M)) {a b : Mk} (h : RunM L a b) : A a → A b := by
  induction h with
  | nil => exact id
  | cons hl hc _ ih => exact fun ha => ih (hs _ _ ha hl hc)
/-- what grew between f and t behaves as one step -/
structure SoundA (f t lo hi : Int) (L : List TranD) (A : Mk → Prop) : Prop where
  nn : ∀ M, A M → ∀ q, 0 ≤ M q
  supp : ∀ M, A M → ∀ q, 1 ≤ M q → q = f ∨ q = t ∨ lo ≤ q ∧ q < hi
  pre : ∀ l ∈ L, l.pre = [f] ∨ l.pre ≠ [] ∧ ∀ p ∈ l.pre, lo ≤ p ∧ p < hi
  post : ∀ l ∈ L, l.post = [t] ∨ l.post ≠ [] ∧ ∀ p ∈ l.post, lo ≤ p ∧ p < hi
  inPre : ∀ q, q = f ∨ lo ≤ q ∧ q < hi → ∃ l ∈ L, q ∈ l.pre
  inPost : ∀ q, q = t ∨ lo ≤ q ∧ q < hi → ∃ l ∈ L, q ∈ l.post
  start : A (oneM f)
  fin : A (oneM t)
  step : ∀ M l, A M → l ∈ L → CanM l M → A (afterM l M)
  ends : ∀ M, A M → RunM L M (oneM t)
  onlyT : ∀ M, A M → 1 ≤ M t → M = oneM t
  onlyF : ∀ M, A M → 1 ≤ M f → M = oneM f
  live : ∀ l ∈ L, ∃ M, RunM L (oneM f) M ∧ A M ∧ CanM l M
def SoundG (f t : Int) (s s' : GS) : Prop := s.places ≤ s'.places ∧ ∃ L, s'.links = s.links ++ L ∧ ∃ A, SoundA f t s.places s'.places L A
def SoundF (f : GF) (P : BlockD → Prop) : Prop := ∀ b x y s s', P b → x < s.places → y < s.places → x ≠ y → f b x y s = some s' → SoundG x y s s'
theorem sound_link {x y lab : Int} (hne : x ≠ y) {s s' : GS} (e : linkF ⟨lab, [x], [y]⟩ s = some s') : SoundG x y s s' := by
  obtain ⟨rfl, _⟩ := link_some e
  refine ⟨Int.le_refl _, [⟨lab, [x], [y]⟩], rfl, fun M => M = oneM x ∨ M = oneM y, ?_⟩
  constructor
  · rintro M (rfl | rfl) q <;> exact oneM_nn _ _
  · rintro M (rfl | rfl) q h
    · exact .inl (oneM_ge h)
    · exact .inr (.inl (oneM_ge h))
  · intro l hl; rw [List.mem_singleton.1 hl]; exact .inl rfl
  · intro l hl; rw [List.mem_singleton.1 hl]; exact .inl rfl
  · intro q hq
    simp only [] at hq
    have : q = x := by omega
    exact ⟨⟨lab, [x], [y]⟩, List.mem_singleton.2 rfl, by rw [this]; simp⟩
  · intro q hq
    simp only [] at hq
    have : q = y := by omega
    exact ⟨⟨lab, [x], [y]⟩, List.mem_singleton.2 rfl, by rw [this]; simp⟩
  · exact .inl rfl
  · exact .inr rfl
  · rintro M l (rfl | rfl) hl hc
    · rw [List.mem_singleton.1 hl, after_one]; exact .inr rfl
    · rw [List.mem_singleton.1 hl] at hc
      exact absurd (oneM_ge (hc x (by simp))) hne
  · rintro M (rfl | rfl)
    · refine .cons (l := ⟨lab, [x], [y]⟩) (by simp) (fun p hp => ?_) (by rw [after_one]; exact .nil _)
      rw [List.mem_singleton.1 hp, oneM_self]; omega
    · exact .nil _
  · rintro M (rfl | rfl) h
    · exact absurd (oneM_ge h).symm hne
    · rfl
  · rintro M (rfl | rfl) h
    · rfl
    · exact absurd (oneM_ge h) hne
  · intro l hl
    rw [List.mem_singleton.1 hl]
    exact ⟨oneM x, .nil _, .inl rfl, fun p hp => by rw [List.mem_singleton.1 hp, oneM_self]; omega⟩
/-- a row that can be taken lies where tokens are -/
theorem SoundA.can {f t lo hi : Int} {L : List TranD} {A : Mk → Prop} (h : SoundA f t lo hi L A) {l : TranD} (hl : l ∈ L) {M : Mk} (hc : CanM l M) : (1 ≤ M f ∧ l.pre = [f]) ∨ ∃ q, lo ≤ q ∧ q < hi ∧ 1 ≤ M q := by
  rcases h.pre l hl with e | ⟨hne, hall⟩
  · exact .inl ⟨hc f (by rw [e]; simp), e⟩
  · obtain ⟨q, hq⟩ := List.exists_mem_of_ne_nil _ hne
    exact .inr ⟨q, (hall q hq).1, (hall q hq).2, hc q hq⟩
theorem seq_comp {x y : Int} {s s2 s3 : GS} (hx : x < s.places) (hy : y < s.places) (hne : x ≠ y) (h1 : SoundG x s.places ⟨s.places + 1, s.links⟩ s2) (h2 : SoundG s.places y s2 s3) : SoundG x y s s3 := by
  obtain ⟨l1, L1, e1, A1, a⟩ := h1
  obtain ⟨l2, L2, e2, A2, b⟩ := h2
  simp only [] at l1 e1 a
  refine ⟨by omega, L1 ++ L2, by rw [e2, e1, List.append_assoc], fun M => A1 M ∨ A2 M, ?_⟩
  have m1 : ∀ l ∈ L1, l ∈ L1 ++ L2 := fun l h => List.mem_append_left _ h
  have m2 : ∀ l ∈ L2, l ∈ L1 ++ L2 := fun l h => List.mem_append_right _ h
  constructor
  · rintro M (h | h)
    · exact a.nn M h
    · exact b.nn M h
  · rintro M (h | h) q hq
    · have := a.supp M h q hq; omega
    · have := b.supp M h q hq; omega
  · intro l hl
    rcases List.mem_append.1 hl with h | h
    · rcases a.pre l h with e | ⟨e, k⟩
      · exact .inl e
      · exact .inr ⟨e, fun p hp => by have := k p hp; omega⟩
    · rcases b.pre l h with e | ⟨e, k⟩
      · refine .inr ⟨by rw [e]; simp, fun p hp => ?_⟩
        rw [e] at hp; have := List.mem_singleton.1 hp; omega
      · exact .inr ⟨e, fun p hp => by have := k p hp; omega⟩
  · intro l hl
    rcases List.mem_append.1 hl with h | h
    · rcases a.post l h with e | ⟨e, k⟩
      · refine .inr ⟨by rw [e]; simp, fun p hp => ?_⟩
        rw [e] at hp; have := List.mem_singleton.1 hp; omega
      · exact .inr ⟨e, fun p hp => by have := k p hp; omega⟩
    · rcases b.post l h with e | ⟨e, k⟩
      · exact .inl e
      · exact .inr ⟨e, fun p hp => by have := k p hp; omega⟩
  · intro q hq
    by_cases c1 : q = x ∨ s.places + 1 ≤ q ∧ q < s2.places
    · obtain ⟨l, hl, hp⟩ := a.inPre q c1
      exact ⟨l, m1 l hl, hp⟩
    · obtain ⟨l, hl, hp⟩ := b.inPre q (by omega)
      exact ⟨l, m2 l hl, hp⟩
  · intro q hq
    by_cases c1 : q = s.places ∨ s.places + 1 ≤ q ∧ q < s2.places
    · obtain ⟨l, hl, hp⟩ := a.inPost q c1
      exact ⟨l, m1 l hl, hp⟩
    · obtain ⟨l, hl, hp⟩ := b.inPost q (by omega)
      exact ⟨l, m2 l hl, hp⟩
  · exact .inl a.start
  · exact .inr b.fin
  · rintro M l (h | h) hl hc
    · rcases List.mem_append.1 hl with k | k
      · exact .inl (a.step M l h k hc)
      · rcases b.can k hc with ⟨h1, _⟩ | ⟨q, h1, h2, h3⟩
        · rw [a.onlyT M h h1] at hc ⊢
          exact .inr (b.step _ l b.start k hc)
        · have := a.supp M h q h3; omega
    · rcases List.mem_append.1 hl with k | k
      · rcases a.can k hc with ⟨h1, _⟩ | ⟨q, h1, h2, h3⟩
        · have := b.supp M h x h1; omega
        · have := b.supp M h q h3; omega
      · exact .inr (b.step M l h k hc)
  · rintro M (h | h)
    · exact ((a.ends M h).mono m1).trans ((b.ends _ b.start).mono m2)
    · exact (b.ends M h).mono m2
  · rintro M (h | h) hy'
    · have := a.supp M h y hy'; omega
    · exact b.onlyT M h hy'
  · rintro M (h | h) hx'
    · exact a.onlyF M h hx'
    · have := b.supp M h x hx'; omega
  · intro l hl
    rcases List.mem_append.1 hl with k | k
    · obtain ⟨M, h1, h2, h3⟩ := a.live l k
      exact ⟨M, h1.mono m1, .inl h2, h3⟩
    · obtain ⟨M, h1, h2, h3⟩ := b.live l k
      exact ⟨M, ((a.ends _ a.start).mono m1).trans (h1.mono m2), .inr h2, h3⟩
theorem choice_comp {x y : Int} {s s2 s3 : GS} (hx : x < s.places) (hy : y < s.places) (hne : x ≠ y) (h1 : SoundG x y s s2) (h2 : SoundG x y s2 s3) : SoundG x y s s3 := by
  obtain ⟨l1, L1, e1, A1, a⟩ := h1
  obtain ⟨l2, L2, e2, A2, b⟩ := h2
  refine ⟨by omega, L1 ++ L2, by rw [e2, e1, List.append_assoc], fun M => A1 M ∨ A2 M, ?_⟩
  have m1 : ∀ l ∈ L1, l ∈ L1 ++ L2 := fun l h => List.mem_append_left _ h
  have m2 : ∀ l ∈ L2, l ∈ L1 ++ L2 := fun l h => List.mem_append_right _ h
  constructor
  · rintro M (h | h)
    · exact a.nn M h
    · exact b.nn M h
  · rintro M (h | h) q hq
    · have := a.supp M h q hq; omega
    · have := b.supp M h q hq; omega
  · intro l hl
    rcases List.mem_append.1 hl with h | h
    · exact (a.pre l h).imp id fun ⟨e, k⟩ => ⟨e, fun p hp => by have := k p hp; omega⟩
    · exact (b.pre l h).imp id fun ⟨e, k⟩ => ⟨e, fun p hp => by have := k p hp; omega⟩
  · intro l hl
    rcases List.mem_append.1 hl with h | h
    · exact (a.post l h).imp id fun ⟨e, k⟩ => ⟨e, fun p hp => by have := k p hp; omega⟩
    · exact (b.post l h).imp id fun ⟨e, k⟩ => ⟨e, fun p hp => by have := k p hp; omega⟩
  · intro q hq
    by_cases c1 : q = x ∨ s.places ≤ q ∧ q < s2.places
    · obtain ⟨l, hl, hp⟩ := a.inPre q c1
      exact ⟨l, m1 l hl, hp⟩
    · obtain ⟨l, hl, hp⟩ := b.inPre q (by omega)
      exact ⟨l, m2 l hl, hp⟩
  · intro q hq
    by_cases c1 : q = y ∨ s.places ≤ q ∧ q < s2.places
    · obtain ⟨l, hl, hp⟩ := a.inPost q c1
      exact ⟨l, m1 l hl, hp⟩
    · obtain ⟨l, hl, hp⟩ := b.inPost q (by omega)
      exact ⟨l, m2 l hl, hp⟩
  · exact .inl a.start
  · exact .inr b.fin
  · rintro M l (h | h) hl hc
    · rcases List.mem_append.1 hl with k | k
      · exact .inl (a.step M l h k hc)
      · rcases b.can k hc with ⟨h1, _⟩ | ⟨q, h1, h2, h3⟩
        · rw [a.onlyF M h h1] at hc ⊢
          exact .inr (b.step _ l b.start k hc)
        · have := a.supp M h q h3; omega
    · rcases List.mem_append.1 hl with k | k
      · rcases a.can k hc with ⟨h1, _⟩ | ⟨q, h1, h2, h3⟩
        · rw [b.onlyF M h h1] at hc ⊢
          exact .inl (a.step _ l a.start k hc)
        · have := b.supp M h q h3; omega
      · exact .inr (b.step M l h k hc)
  · rintro M (h | h)
    · exact (a.ends M h).mono m1
    · exact (b.ends M h).mono m2
  · rintro M (h | h) hy'
    · exact a.onlyT M h hy'
    · exact b.onlyT M h hy'
  · rintro M (h | h) hx'
    · exact a.onlyF M h hx'
    · exact b.onlyF M h hx'
  · intro l hl
    rcases List.mem_append.1 hl with k | k
    · obtain ⟨M, h1, h2, h3⟩ := a.live l k
      exact ⟨M, h1.mono m1, .inl h2, h3⟩
    · obtain ⟨M, h1, h2, h3⟩ := b.live l k
      exact ⟨M, h1.mono m2, .inr h2, h3⟩
theorem can_one {a b lab : Int} {M : Mk} : CanM ⟨lab, [a], [b]⟩ M ↔ 1 ≤ M a := ⟨fun h => h a (by simp), fun h p hp => by rw [List.mem_singleton.1 hp]; exact h⟩
theorem loop_comp {x y : Int} {s s4 s5 : GS} (hx : x < s.places) (hy : y < s.places) (hne : x ≠ y) (h1 : SoundG s.places (s.places + 1) ⟨s.places + 1 + 1, s.links ++ [⟨0, [x], [s.places]⟩]⟩ s4) (h2 : SoundG (s.places + 1) s.places s4 s5) : SoundG x y s ⟨s5.places, s5.links ++ [⟨0, [s.places + 1], [y]⟩]⟩ := by
  obtain ⟨l1, L1, e1, A1, a⟩ := h1
  obtain ⟨l2, L2, e2, A2, b⟩ := h2
  simp only [] at l1 e1 a
  generalize hp : s.places = P at *
  refine ⟨by simp only []; omega, [⟨0, [x], [P]⟩] ++ (L1 ++ L2) ++ [⟨0, [P + 1], [y]⟩], by simp [e2, e1], fun M => M = oneM x ∨ M = oneM y ∨ A1 M ∨ A2 M, ?_⟩
  have mx : (⟨0, [x], [P]⟩ : TranD) ∈ [⟨0, [x], [P]⟩] ++ (L1 ++ L2) ++ [⟨0, [P + 1], [y]⟩] := by simp
  have my : (⟨0, [P + 1], [y]⟩ : TranD) ∈ [⟨0, [x], [P]⟩] ++ (L1 ++ L2) ++ [⟨0, [P + 1], [y]⟩] := by simp
  have m1 : ∀ l ∈ L1, l ∈ [⟨0, [x], [P]⟩] ++ (L1 ++ L2) ++ [⟨0, [P + 1], [y]⟩] := fun l h => by simp [h]
  have m2 : ∀ l ∈ L2, l ∈ [⟨0, [x], [P]⟩] ++ (L1 ++ L2) ++ [⟨0, [P + 1], [y]⟩] := fun l h => by simp [h]
  have hm : ∀ l, l ∈ [⟨0, [x], [P]⟩] ++ (L1 ++ L2) ++ [⟨0, [P + 1], [y]⟩] → l = ⟨0, [x], [P]⟩ ∨ l ∈ L1 ∨ l ∈ L2 ∨ l = ⟨0, [P + 1], [y]⟩ := fun l h => by
    simp only [List.mem_append, List.mem_cons, List.not_mem_nil, or_false] at h
    rcases h with (h | h | h) | h
    · exact .inl h
    · exact .inr (.inl h)
    · exact .inr (.inr (.inl h))
    · exact .inr (.inr (.inr h))
  generalize [⟨0, [x], [P]⟩] ++ (L1 ++ L2) ++ [⟨0, [P + 1], [y]⟩] = LL at mx my m1 m2 hm ⊢
  have rx : RunM LL (oneM x) (oneM P) := .cons mx (can_one.2 (by rw [oneM_self]; omega)) (by rw [after_one]; exact .nil _)
  have ry : RunM LL (oneM (P + 1)) (oneM y) := .cons my (can_one.2 (by rw [oneM_self]; omega)) (by rw [after_one]; exact .nil _)
  have r1 : RunM LL (oneM P) (oneM (P + 1)) := (a.ends _ a.start).mono m1
  have r2 : RunM LL (oneM (P + 1)) (oneM P) := (b.ends _ b.start).mono m2
  constructor
  · rintro M (rfl | rfl | h | h)
    · exact oneM_nn _
    · exact oneM_nn _
    · exact a.nn M h
    · exact b.nn M h
  · rintro M (rfl | rfl | h | h) q hq
    · exact .inl (oneM_ge hq)
    · exact .inr (.inl (oneM_ge hq))
    · have := a.supp M h q hq; simp only []; omega
    · have := b.supp M h q hq; simp only []; omega
  · intro l hl
    try simp only []
    rcases hm l hl with rfl | h | h | rfl
    · exact .inl rfl
    · refine .inr ?_
      rcases a.pre l h with e | ⟨e, k⟩
      · rw [e]; exact ⟨by simp, fun p hp => by have := List.mem_singleton.1 hp; omega⟩
      · exact ⟨e, fun p hp => by have := k p hp; omega⟩
    · refine .inr ?_
      rcases b.pre l h with e | ⟨e, k⟩
      · rw [e]; exact ⟨by simp, fun p hp => by have := List.mem_singleton.1 hp; omega⟩
      · exact ⟨e, fun p hp => by have := k p hp; omega⟩
    · exact .inr ⟨by simp, fun p hp => by have := List.mem_singleton.1 hp; omega⟩
  · intro l hl
    try simp only []
    rcases hm l hl with rfl | h | h | rfl
    · exact .inr ⟨by simp, fun p hp => by have := List.mem_singleton.1 hp; omega⟩
    · refine .inr ?_
      rcases a.post l h with e | ⟨e, k⟩
      · rw [e]; exact ⟨by simp, fun p hp => by have := List.mem_singleton.1 hp; omega⟩
      · exact ⟨e, fun p hp => by have := k p hp; omega⟩
    · refine .inr ?_
      rcases b.post l h with e | ⟨e, k⟩
      · rw [e]; exact ⟨by simp, fun p hp => by have := List.mem_singleton.1 hp; omega⟩
      · exact ⟨e, fun p hp => by have := k p hp; omega⟩
    · exact .inl rfl
  · intro q hq
    simp only [] at hq
    by_cases c0 : q = x
    · exact ⟨_, mx, by simp [c0]⟩
    · by_cases c1 : q = P ∨ P + 1 + 1 ≤ q ∧ q < s4.places
      · obtain ⟨l, hl, hp⟩ := a.inPre q c1
        exact ⟨l, m1 l hl, hp⟩
      · obtain ⟨l, hl, hp⟩ := b.inPre q (by omega)
        exact ⟨l, m2 l hl, hp⟩
  · intro q hq
    simp only [] at hq
    by_cases c0 : q = y
    · exact ⟨_, my, by simp [c0]⟩
    · by_cases c1 : q = P + 1 ∨ P + 1 + 1 ≤ q ∧ q < s4.places
      · obtain ⟨l, hl, hp⟩ := a.inPost q c1
        exact ⟨l, m1 l hl, hp⟩
      · obtain ⟨l, hl, hp⟩ := b.inPost q (by omega)
        exact ⟨l, m2 l hl, hp⟩
  · exact .inl rfl
  · exact .inr (.inl rfl)
  · intro M l hM hl hc
    rcases hm l hl with rfl | k | k | rfl
    · have h1 := can_one.1 hc
      rcases hM with rfl | rfl | h | h
      · rw [after_one]; exact .inr (.inr (.inl a.start))
      · exact absurd (oneM_ge h1) hne
      · have := a.supp M h x h1; omega
      · have := b.supp M h x h1; omega
    · rcases hM with rfl | rfl | h | h
      · rcases a.can k hc with ⟨h1, _⟩ | ⟨q, h1, h2, h3⟩
        · have := oneM_ge h1; omega
        · have := oneM_ge h3; omega
      · rcases a.can k hc with ⟨h1, _⟩ | ⟨q, h1, h2, h3⟩
        · have := oneM_ge h1; omega
        · have := oneM_ge h3; omega
      · exact .inr (.inr (.inl (a.step M l h k hc)))
      · rcases a.can k hc with ⟨h1, _⟩ | ⟨q, h1, h2, h3⟩
        · rw [b.onlyT M h h1] at hc ⊢
          exact .inr (.inr (.inl (a.step _ l a.start k hc)))
        · have := b.supp M h q h3; omega
    · rcases hM with rfl | rfl | h | h
      · rcases b.can k hc with ⟨h1, _⟩ | ⟨q, h1, h2, h3⟩
        · have := oneM_ge h1; omega
        · have := oneM_ge h3; omega
      · rcases b.can k hc with ⟨h1, _⟩ | ⟨q, h1, h2, h3⟩
        · have := oneM_ge h1; omega
        · have := oneM_ge h3; omega
      · rcases b.can k hc with ⟨h1, _⟩ | ⟨q, h1, h2, h3⟩
        · rw [a.onlyT M h h1] at hc ⊢
          exact .inr (.inr (.inr (b.step _ l b.start k hc)))
        · have := a.supp M h q h3; omega
      · exact .inr (.inr (.inr (b.step M l h k hc)))
    · have h1 := can_one.1 hc
      rcases hM with rfl | rfl | h | h
      · have := oneM_ge h1; omega
      · have := oneM_ge h1; omega
      · rw [a.onlyT M h h1, after_one]; exact .inr (.inl rfl)
      · rw [b.onlyF M h h1, after_one]; exact .inr (.inl rfl)
  · rintro M (rfl | rfl | h | h)
    · exact (rx.trans r1).trans ry
    · exact .nil _
    · exact ((a.ends M h).mono m1).trans ry
    · exact (((b.ends M h).mono m2).trans r1).trans ry
  · rintro M (rfl | rfl | h | h) hy'
    · exact absurd (oneM_ge hy').symm hne
    · rfl
    · have := a.supp M h y hy'; omega
    · have := b.supp M h y hy'; omega
  · rintro M (rfl | rfl | h | h) hx'
    · rfl
    · exact absurd (oneM_ge hx') hne
    · have := a.supp M h x hx'; omega
    · have := b.supp M h x hx'; omega
  · intro l hl
    rcases hm l hl with rfl | k | k | rfl
    · exact ⟨oneM x, .nil _, .inl rfl, can_one.2 (by rw [oneM_self]; omega)⟩
    · obtain ⟨M, h1, h2, h3⟩ := a.live l k
      exact ⟨M, rx.trans (h1.mono m1), .inr (.inr (.inl h2)), h3⟩
    · obtain ⟨M, h1, h2, h3⟩ := b.live l k
      exact ⟨M, (rx.trans r1).trans (h1.mono m2), .inr (.inr (.inr h2)), h3⟩
    · exact ⟨oneM (P + 1), rx.trans r1, .inr (.inr (.inl a.fin)), can_one.2 (by rw [oneM_self]; omega)⟩

/-! ### side by side -/
structure BothA (p : Int) (n : Nat) (lo hi : Int) (L : List TranD) (A : Mk → Prop) : Prop where
  nn : ∀ M, A M → ∀ q, 0 ≤ M q
  supp : ∀ M, A M → ∀ q, 1 ≤ M q → p ≤ q ∧ q < p + 2 * (n : Int) ∨ lo ≤ q ∧ q < hi
  pre : ∀ l ∈ L, l.pre ≠ [] ∧ ∀ q ∈ l.pre, p ≤ q ∧ q < p + 2 * (n : Int) ∨ lo ≤ q ∧ q < hi
  post : ∀ l ∈ L, l.post ≠ [] ∧ ∀ q ∈ l.post, p ≤ q ∧ q < p + 2 * (n : Int) ∨ lo ≤ q ∧ q < hi
  inPre : ∀ q, q ∈ insL p n ∨ lo ≤ q ∧ q < hi → ∃ l ∈ L, q ∈ l.pre
  inPost : ∀ q, q ∈ outsL p n ∨ lo ≤ q ∧ q < hi → ∃ l ∈ L, q ∈ l.post
  start : A (useM (insL p n))
  step : ∀ M l, A M → l ∈ L → CanM l M → A (afterM l M)
  ends : ∀ M, A M → RunM L M (useM (outsL p n))
  only : ∀ M, A M → (∀ q ∈ outsL p n, 1 ≤ M q) → M = useM (outsL p n)
  live : ∀ l ∈ L, ∃ M, RunM L (useM (insL p n)) M ∧ A M ∧ CanM l M
theorem useM_cons {a : Int} {l : List Int} (h : a ∉ l) : useM (a :: l) = addM (oneM a) (useM l) := by
  funext q
  simp only [useM, addM, oneM, List.mem_cons]
  by_cases h1 : q = a
  · subst h1; simp [h]
  · simp [h1]
theorem zero_of {M : Mk} (hn : ∀ q, 0 ≤ M q) {q : Int} (h : ¬ 1 ≤ M q) : M q = 0 := by have := hn q; omega
theorem both_sound {f : GF} {P : BlockD → Prop} (hf : SoundF f P) : ∀ {ks : List BlockD} {p : Int} {s s' : GS}, (∀ k ∈ ks, P k) → p + 2 * (ks.length : Int) ≤ s.places → bothF f ks p s = some s' →
    s.places ≤ s'.places ∧ ∃ L, s'.links = s.links ++ L ∧ ∃ A, BothA p ks.length s.places s'.places L A := by
  intro ks
  induction ks with
  | nil =>
    intro p s s' _ _ e
    cases e
    refine ⟨Int.le_refl _, [], by simp, fun M => M = fun _ => 0, ?_⟩
    have e1 : useM (insL p 0) = fun _ => 0 := by funext q; simp [useM, insL]
    have e2 : useM (outsL p 0) = fun _ => 0 := by funext q; simp [useM, outsL]
    constructor
    · rintro M rfl q; exact Int.le_refl _
    · rintro M rfl q h; have h : (1 : Int) ≤ 0 := h; omega
    · intro l hl; cases hl
    · intro l hl; cases hl
    · intro q hq; simp [insL] at hq; omega
    · intro q hq; simp [outsL] at hq; omega
    · exact e1
    · intro M l _ hl; cases hl
    · rintro M rfl; rw [List.length_nil, e2]; exact .nil _
    · rintro M rfl _; exact e2.symm
    · intro l hl; cases hl
  | cons k r ih =>
    intro p s s' hP hx e
    unfold bothF at e
    rw [List.length_cons] at hx
    replace e := Option.bind_eq_some_iff.1 e
    obtain ⟨s1, e1, e⟩ := e
    obtain ⟨l1, L1, hL1, A1, a⟩ := hf k p (p + 1) s s1 (hP k (by simp)) (by omega) (by omega) (by omega) e1
    obtain ⟨l2, L2, hL2, A2, b⟩ := ih (fun k hk => hP k (List.mem_cons_of_mem _ hk)) (show p + 2 + 2 * (r.length : Int) ≤ s1.places by omega) e
    have m1 : ∀ l ∈ L1, l ∈ L1 ++ L2 := fun l h => List.mem_append_left _ h
    have m2 : ∀ l ∈ L2, l ∈ L1 ++ L2 := fun l h => List.mem_append_right _ h
    have ei : useM (insL p (r.length + 1)) = addM (oneM p) (useM (insL (p + 2) r.length)) := by
      rw [insL_cons]; exact useM_cons fun h => by obtain ⟨i, h1, h2, h3⟩ := mem_ins h; omega
    have eo : useM (outsL p (r.length + 1)) = addM (oneM (p + 1)) (useM (outsL (p + 2) r.length)) := by
      rw [outsL_cons]; exact useM_cons fun h => by obtain ⟨i, h1, h2, h3⟩ := mem_outs h; omega
    -- where one has tokens the other has none
    have z2 : ∀ M, A2 M → ∀ q, q = p ∨ q = p + 1 ∨ s.places ≤ q ∧ q < s1.places → M q = 0 := fun M h q hq => zero_of (b.nn M h) fun h1 => by have := b.supp M h q h1; omega
    have z1 : ∀ M, A1 M → ∀ q, p + 2 ≤ q ∧ q < p + 2 + 2 * (r.length : Int) ∨ s1.places ≤ q → M q = 0 := fun M h q hq => zero_of (a.nn M h) fun h1 => by have := a.supp M h q h1; omega
    refine ⟨by omega, L1 ++ L2, by rw [hL2, hL1, List.append_assoc], fun M => ∃ M1 M2, A1 M1 ∧ A2 M2 ∧ M = addM M1 M2, ?_⟩
    rw [List.length_cons]
    constructor
    · rintro M ⟨M1, M2, h1, h2, rfl⟩ q
      have := a.nn M1 h1 q
      have := b.nn M2 h2 q
      simp only [addM]; omega
    · rintro M ⟨M1, M2, h1, h2, rfl⟩ q hq
      simp only [addM] at hq
      have k1 := a.nn M1 h1 q
      have k2 := b.nn M2 h2 q
      by_cases c : 1 ≤ M1 q
      · have := a.supp M1 h1 q c; omega
      · have := b.supp M2 h2 q (by omega); omega
    · intro l hl
      rcases List.mem_append.1 hl with h | h
      · rcases a.pre l h with e | ⟨e, k⟩
        · rw [e]; exact ⟨by simp, fun q hq => by have := List.mem_singleton.1 hq; omega⟩
        · exact ⟨e, fun q hq => by have := k q hq; omega⟩
      · obtain ⟨e, k⟩ := b.pre l h
        exact ⟨e, fun q hq => by have := k q hq; omega⟩
    · intro l hl
      rcases List.mem_append.1 hl with h | h
      · rcases a.post l h with e | ⟨e, k⟩
        · rw [e]; exact ⟨by simp, fun q hq => by have := List.mem_singleton.1 hq; omega⟩
        · exact ⟨e, fun q hq => by have := k q hq; omega⟩
      · obtain ⟨e, k⟩ := b.post l h
        exact ⟨e, fun q hq => by have := k q hq; omega⟩
    · intro q hq
      rw [insL_cons, List.mem_cons] at hq
      by_cases c1 : q = p ∨ s.places ≤ q ∧ q < s1.places
      · obtain ⟨l, hl, hp⟩ := a.inPre q c1
        exact ⟨l, m1 l hl, hp⟩
      · obtain ⟨l, hl, hp⟩ := b.inPre q (by rcases hq with (h | h) | h <;> first | (exact .inl h) | omega)
        exact ⟨l, m2 l hl, hp⟩
    · intro q hq
      rw [outsL_cons, List.mem_cons] at hq
      by_cases c1 : q = p + 1 ∨ s.places ≤ q ∧ q < s1.places
      · obtain ⟨l, hl, hp⟩ := a.inPost q c1
        exact ⟨l, m1 l hl, hp⟩
      · obtain ⟨l, hl, hp⟩ := b.inPost q (by rcases hq with (h | h) | h <;> first | (exact .inl h) | omega)
        exact ⟨l, m2 l hl, hp⟩
    · exact ⟨_, _, a.start, b.start, ei⟩
    · rintro M l ⟨M1, M2, h1, h2, rfl⟩ hl hc
      rcases List.mem_append.1 hl with h | h
      · refine ⟨afterM l M1, M2, a.step M1 l h1 h fun q hq => ?_, h2, after_add _ _ _⟩
        have h3 := hc q hq
        simp only [addM] at h3
        have : M2 q = 0 := z2 M2 h2 q (by rcases a.pre l h with e | ⟨e, k⟩
                                          · rw [e] at hq; have := List.mem_singleton.1 hq; omega
                                          · have := k q hq; omega)
        omega
      · refine ⟨M1, afterM l M2, h1, b.step M2 l h2 h fun q hq => ?_, by rw [add_comm_M M1 M2, after_add, add_comm_M]⟩
        have h3 := hc q hq
        simp only [addM] at h3
        have : M1 q = 0 := z1 M1 h1 q (by obtain ⟨e, k⟩ := b.pre l h; have := k q hq; omega)
        omega
    · rintro M ⟨M1, M2, h1, h2, rfl⟩
      rw [eo]
      exact (((a.ends M1 h1).mono m1).frame (b.nn M2 h2)).trans (((b.ends M2 h2).mono m2).frame' (oneM_nn _))
    · rintro M ⟨M1, M2, h1, h2, rfl⟩ hall
      rw [eo]
      have k1 := hall (p + 1) (by rw [outsL_cons]; simp)
      simp only [addM] at k1
      rw [z2 M2 h2 (p + 1) (by omega)] at k1
      rw [a.onlyT M1 h1 (by omega), b.only M2 h2 fun q hq => ?_]
      have k2 := hall q (by rw [outsL_cons]; simp [hq])
      simp only [addM] at k2
      obtain ⟨i, i1, i2, i3⟩ := mem_outs hq
      rw [z1 M1 h1 q (by omega)] at k2
      omega
    · intro l hl
      rw [ei]
      rcases List.mem_append.1 hl with h | h
      · obtain ⟨M, h1, h2, h3⟩ := a.live l h
        refine ⟨addM M (useM (insL (p + 2) r.length)), (h1.mono m1).frame (useM_nn _), ⟨M, _, h2, b.start, rfl⟩, fun q hq => ?_⟩
        have := h3 q hq
        have := useM_nn (insL (p + 2) r.length) q
        simp only [addM]; omega
      · obtain ⟨M, h1, h2, h3⟩ := b.live l h
        refine ⟨addM (oneM p) M, (h1.mono m2).frame' (oneM_nn _), ⟨_, M, a.start, h2, rfl⟩, fun q hq => ?_⟩
        have := h3 q hq
        have := oneM_nn p q
        simp only [addM]; omega
theorem both_comp {x y : Int} {n : Nat} {s s3 : GS} {L : List TranD} {A : Mk → Prop} (hx : x < s.places) (hy : y < s.places) (hne : x ≠ y) (hn : 0 < n) (hl : s.places + 2 * (n : Int) ≤ s3.places) (hL : s3.links = (s.links ++ [⟨0, [x], insL s.places n⟩]) ++ L)
    (b : BothA s.places n (s.places + 2 * (n : Int)) s3.places L A) : SoundG x y s ⟨s3.places, s3.links ++ [⟨0, outsL s.places n, [y]⟩]⟩ := by
  generalize hp : s.places = P at *
  obtain ⟨n, rfl⟩ : ∃ k, n = k + 1 := ⟨n - 1, by omega⟩
  refine ⟨by simp only []; omega, [⟨0, [x], insL P (n + 1)⟩] ++ L ++ [⟨0, outsL P (n + 1), [y]⟩], by simp [hL], fun M => M = oneM x ∨ M = oneM y ∨ A M, ?_⟩
  have mx : (⟨0, [x], insL P (n + 1)⟩ : TranD) ∈ [⟨0, [x], insL P (n + 1)⟩] ++ L ++ [⟨0, outsL P (n + 1), [y]⟩] := by simp
  have my : (⟨0, outsL P (n + 1), [y]⟩ : TranD) ∈ [⟨0, [x], insL P (n + 1)⟩] ++ L ++ [⟨0, outsL P (n + 1), [y]⟩] := by simp
  have m1 : ∀ l ∈ L, l ∈ [⟨0, [x], insL P (n + 1)⟩] ++ L ++ [⟨0, outsL P (n + 1), [y]⟩] := fun l h => by simp [h]
  have hm : ∀ l, l ∈ [⟨0, [x], insL P (n + 1)⟩] ++ L ++ [⟨0, outsL P (n + 1), [y]⟩] → l = ⟨0, [x], insL P (n + 1)⟩ ∨ l ∈ L ∨ l = ⟨0, outsL P (n + 1), [y]⟩ := fun l h => by
    simp only [List.mem_append, List.mem_cons, List.not_mem_nil, or_false] at h
    rcases h with (h | h) | h
    · exact .inl h
    · exact .inr (.inl h)
    · exact .inr (.inr h)
  generalize [⟨0, [x], insL P (n + 1)⟩] ++ L ++ [⟨0, outsL P (n + 1), [y]⟩] = LL at mx my m1 hm ⊢
  have ax : afterM ⟨0, [x], insL P (n + 1)⟩ (oneM x) = useM (insL P (n + 1)) := by
    funext q; simp only [afterM, useM_one]; omega
  have ay : afterM ⟨0, outsL P (n + 1), [y]⟩ (useM (outsL P (n + 1))) = oneM y := by
    funext q; simp only [afterM, useM_one]; omega
  have cy : CanM ⟨0, outsL P (n + 1), [y]⟩ (useM (outsL P (n + 1))) := fun q hq => by
    simp only [] at hq
    rw [useM_in hq]; omega
  have hin : ∀ q ∈ insL P (n + 1), P ≤ q ∧ q < P + 2 * ((n + 1 : Nat) : Int) := fun q hq => by obtain ⟨i, h1, h2, h3⟩ := mem_ins hq; omega
  have hout : ∀ q ∈ outsL P (n + 1), P ≤ q ∧ q < P + 2 * ((n + 1 : Nat) : Int) := fun q hq => by obtain ⟨i, h1, h2, h3⟩ := mem_outs hq; omega
  have o1 : P + 1 ∈ outsL P (n + 1) := by rw [outsL_cons]; simp
  have rx : RunM LL (oneM x) (useM (insL P (n + 1))) := .cons mx (fun p hp => by simp only [] at hp; rw [List.mem_singleton.1 hp, oneM_self]; omega) (by rw [ax]; exact .nil _)
  have ry : RunM LL (useM (outsL P (n + 1))) (oneM y) := .cons my cy (by rw [ay]; exact .nil _)
  have r1 : RunM LL (useM (insL P (n + 1))) (useM (outsL P (n + 1))) := (b.ends _ b.start).mono m1
  constructor
  · rintro M (rfl | rfl | h)
    · exact oneM_nn _
    · exact oneM_nn _
    · exact b.nn M h
  · rintro M (rfl | rfl | h) q hq
    · exact .inl (oneM_ge hq)
    · exact .inr (.inl (oneM_ge hq))
    · have := b.supp M h q hq; simp only []; omega
  · intro l hl
    try simp only []
    rcases hm l hl with rfl | h | rfl
    · exact .inl rfl
    · obtain ⟨e, k⟩ := b.pre l h
      exact .inr ⟨e, fun q hq => by have := k q hq; omega⟩
    · exact .inr ⟨(fun e => by simp only [] at e; rw [e] at o1; cases o1), fun q hq => by have := hout q hq; omega⟩
  · intro l hl
    try simp only []
    rcases hm l hl with rfl | h | rfl
    · exact .inr ⟨(fun e => by simp only [insL_cons] at e; cases e), fun q hq => by have := hin q hq; omega⟩
    · obtain ⟨e, k⟩ := b.post l h
      exact .inr ⟨e, fun q hq => by have := k q hq; omega⟩
    · exact .inl rfl
  · intro q hq
    simp only [] at hq
    by_cases c0 : q = x
    · exact ⟨_, mx, by simp [c0]⟩
    · by_cases c1 : q ∈ outsL P (n + 1)
      · exact ⟨_, my, c1⟩
      · have : q ∈ insL P (n + 1) ∨ P + 2 * ((n + 1 : Nat) : Int) ≤ q ∧ q < s3.places := by
          by_cases c2 : P + 2 * ((n + 1 : Nat) : Int) ≤ q
          · exact .inr ⟨c2, by omega⟩
          · left
            unfold insL
            rw [List.mem_map]
            have hnot : ∀ i : Nat, i < n + 1 → q ≠ P + 2 * (i : Int) + 1 := fun i hi e => c1 (by unfold outsL; rw [List.mem_map]; exact ⟨i, List.mem_range.2 hi, e.symm⟩)
            refine ⟨((q - P) / 2).toNat, List.mem_range.2 (by omega), ?_⟩
            have := hnot ((q - P) / 2).toNat (by omega)
            omega
        obtain ⟨l, hl, hp⟩ := b.inPre q this
        exact ⟨l, m1 l hl, hp⟩
  · intro q hq
    simp only [] at hq
    by_cases c0 : q = y
    · exact ⟨_, my, by simp [c0]⟩
    · by_cases c1 : q ∈ insL P (n + 1)
      · exact ⟨_, mx, c1⟩
      · have : q ∈ outsL P (n + 1) ∨ P + 2 * ((n + 1 : Nat) : Int) ≤ q ∧ q < s3.places := by
          by_cases c2 : P + 2 * ((n + 1 : Nat) : Int) ≤ q
          · exact .inr ⟨c2, by omega⟩
          · left
            unfold outsL
            rw [List.mem_map]
            have hnot : ∀ i : Nat, i < n + 1 → q ≠ P + 2 * (i : Int) := fun i hi e => c1 (by unfold insL; rw [List.mem_map]; exact ⟨i, List.mem_range.2 hi, e.symm⟩)
            refine ⟨((q - P) / 2).toNat, List.mem_range.2 (by omega), ?_⟩
            have := hnot ((q - P) / 2).toNat (by omega)
            omega
        obtain ⟨l, hl, hp⟩ := b.inPost q this
        exact ⟨l, m1 l hl, hp⟩
  · exact .inl rfl
  · exact .inr (.inl rfl)
  · intro M l hM hl hc
    rcases hm l hl with rfl | k | rfl
    · have h1 := hc x (by simp)
      rcases hM with rfl | rfl | h
      · rw [ax]; exact .inr (.inr b.start)
      · exact absurd (oneM_ge h1) hne
      · have := b.supp M h x h1; omega
    · rcases hM with rfl | rfl | h
      · obtain ⟨e, k'⟩ := b.pre l k
        obtain ⟨q, hq⟩ := List.exists_mem_of_ne_nil _ e
        have := k' q hq
        have := oneM_ge (hc q hq); omega
      · obtain ⟨e, k'⟩ := b.pre l k
        obtain ⟨q, hq⟩ := List.exists_mem_of_ne_nil _ e
        have := k' q hq
        have := oneM_ge (hc q hq); omega
      · exact .inr (.inr (b.step M l h k hc))
    · rcases hM with rfl | rfl | h
      · have := oneM_ge (hc (P + 1) o1); omega
      · have := oneM_ge (hc (P + 1) o1); omega
      · rw [b.only M h hc, ay]; exact .inr (.inl rfl)
  · rintro M (rfl | rfl | h)
    · exact (rx.trans r1).trans ry
    · exact .nil _
    · exact ((b.ends M h).mono m1).trans ry
  · rintro M (rfl | rfl | h) hy'
    · exact absurd (oneM_ge hy').symm hne
    · rfl
    · have := b.supp M h y hy'; omega
  · rintro M (rfl | rfl | h) hx'
    · rfl
    · exact absurd (oneM_ge hx') hne
    · have := b.supp M h x hx'; omega
  · intro l hl
    rcases hm l hl with rfl | k | rfl
    · exact ⟨oneM x, .nil _, .inl rfl, fun p hp => by simp only [] at hp; rw [List.mem_singleton.1 hp, oneM_self]; omega⟩
    · obtain ⟨M, h1, h2, h3⟩ := b.live l k
      exact ⟨M, rx.trans (h1.mono m1), .inr (.inr h2), h3⟩
    · exact ⟨useM (outsL P (n + 1)), rx.trans r1, .inr (.inr (by have := b.ends _ b.start; exact (stays_in b.step this b.start))), cy⟩
end Go.Tok
