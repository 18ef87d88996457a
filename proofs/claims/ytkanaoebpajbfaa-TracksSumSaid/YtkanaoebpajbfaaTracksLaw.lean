/- What logs show, as plain functions: labels, first ones, last ones, and which ones stand behind which; restrictions of logs. No program is in sight here. -/
import Derived.Test.YtkanaoebpajbfaaChoiceLaw
namespace Go.Tok
set_option linter.unusedVariables false

/-- x among l, once -/
def ins {α : Type} [DecidableEq α] (l : List α) (x : α) : List α := if x ∈ l then l else l ++ [x]
section
variable {α : Type} [DecidableEq α]
theorem mem_ins {l : List α} {x y : α} : y ∈ ins l x ↔ y ∈ l ∨ y = x := by
  unfold ins
  by_cases h : x ∈ l
  · rw [if_pos h]
    constructor
    · exact .inl
    · rintro (h1 | rfl)
      · exact h1
      · exact h
  · rw [if_neg h, List.mem_append, List.mem_singleton]
theorem nodup_ins {l : List α} {x : α} (h : l.Nodup) : (ins l x).Nodup := by
  unfold ins
  by_cases hx : x ∈ l
  · rw [if_pos hx]; exact h
  · rw [if_neg hx]
    refine List.nodup_append.2 ⟨h, by simp, fun a ha b hb e => ?_⟩
    rw [List.mem_singleton.1 hb] at e
    exact hx (e ▸ ha)
theorem ins_yes {l : List α} {x : α} (h : x ∈ l) : ins l x = l := by unfold ins; rw [if_pos h]
theorem ins_no {l : List α} {x : α} (h : ¬ x ∈ l) : ins l x = l ++ [x] := by unfold ins; rw [if_neg h]
theorem ins_len (l : List α) (x : α) : (ins l x).length ≤ l.length + 1 := by
  unfold ins
  split <;> simp
end

structure TrkD where
  all : List Int
  first : List Int
  last : List Int
  behind : List (Int × Int)
def trkStep (t : List Int) (s : TrkD) (j : Nat) : TrkD :=
  { all := ins s.all (nth t j), first := if j = 0 then ins s.first (nth t j) else s.first, behind := if j = 0 then s.behind else ins s.behind (nth t (j - 1), nth t j), last := if j + 1 = t.length then ins s.last (nth t j) else s.last }
def trkTo (t : List Int) (s : TrkD) (j : Nat) : TrkD := (List.range j).foldl (trkStep t) s
def trkLog (log : List (List Int)) : TrkD := log.foldl (fun s t => trkTo t s t.length) ⟨[], [], [], []⟩
theorem trkTo_zero (t : List Int) (s : TrkD) : trkTo t s 0 = s := rfl
theorem trkTo_succ (t : List Int) (s : TrkD) (j : Nat) : trkTo t s (j + 1) = trkStep t (trkTo t s j) j := by simp [trkTo, List.range_succ]
theorem trkLog_succ {log : List (List Int)} {k : Nat} (h : k < log.length) : trkLog (log.take (k + 1)) = trkTo (ix log k) (trkLog (log.take k)) (ix log k).length := by
  unfold trkLog
  rw [take_ix h, List.foldl_append]; rfl
/-- in w's answer: some label is none, or a trace too long -/
def traceBad (t : List Int) : Bool := decide (60 < t.length) || t.any fun a => decide (a < 1) || decide (26 < a)
def wrongT (log : List (List Int)) : Int := if 60 < log.length then 4 else if log.any traceBad then 2 else 0

def sortP (l : List (Int × Int)) : List (Int × Int) := l.mergeSort fun a b => decide (a.1 < b.1) || (decide (a.1 = b.1) && decide (a.2 ≤ b.2))
structure PrintD where
  labels : List Int
  first : List Int
  last : List Int
  behind : List (Int × Int)
def ofT (log : List (List Int)) : PrintD × Int := if wrongT log = 0 then (⟨sortI (trkLog log).all, sortI (trkLog log).first, sortI (trkLog log).last, sortP (trkLog log).behind⟩, 0) else (⟨[], [], [], []⟩, wrongT log)

/-! ### what is in them -/
def Shows (log : List (List Int)) (s : TrkD) : Prop :=
  (∀ x, x ∈ s.all ↔ ∃ t ∈ log, ∃ j, j < t.length ∧ nth t j = x) ∧ (∀ x, x ∈ s.first ↔ ∃ t ∈ log, 0 < t.length ∧ nth t 0 = x) ∧
  (∀ x, x ∈ s.last ↔ ∃ t ∈ log, ∃ j, j + 1 = t.length ∧ nth t j = x) ∧ (∀ x, x ∈ s.behind ↔ ∃ t ∈ log, ∃ j, j + 1 < t.length ∧ (nth t j, nth t (j + 1)) = x)
def ShowsTo (log : List (List Int)) (t : List Int) (k : Nat) (s : TrkD) : Prop :=
  (∀ x, x ∈ s.all ↔ (∃ t ∈ log, ∃ j, j < t.length ∧ nth t j = x) ∨ ∃ j, j < k ∧ nth t j = x) ∧ (∀ x, x ∈ s.first ↔ (∃ t ∈ log, 0 < t.length ∧ nth t 0 = x) ∨ (0 < k ∧ nth t 0 = x)) ∧
  (∀ x, x ∈ s.last ↔ (∃ t ∈ log, ∃ j, j + 1 = t.length ∧ nth t j = x) ∨ ∃ j, j < k ∧ j + 1 = t.length ∧ nth t j = x) ∧
  (∀ x, x ∈ s.behind ↔ (∃ t ∈ log, ∃ j, j + 1 < t.length ∧ (nth t j, nth t (j + 1)) = x) ∨ ∃ j, j + 1 < k ∧ (nth t j, nth t (j + 1)) = x)
theorem shows_zero {log : List (List Int)} {t : List Int} {s : TrkD} (h : Shows log s) : ShowsTo log t 0 s := by
  obtain ⟨h1, h2, h3, h4⟩ := h
  refine ⟨fun x => ?_, fun x => ?_, fun x => ?_, fun x => ?_⟩
  · rw [h1]; simp
  · rw [h2]; simp
  · rw [h3]; simp
  · rw [h4]; simp
theorem shows_succ {log : List (List Int)} {t : List Int} {k : Nat} {s : TrkD} (h : ShowsTo log t k s) : ShowsTo log t (k + 1) (trkStep t s k) := by
  obtain ⟨h1, h2, h3, h4⟩ := h
  refine ⟨fun x => ?_, fun x => ?_, fun x => ?_, fun x => ?_⟩
  · show x ∈ ins s.all (nth t k) ↔ _
    rw [mem_ins, h1]
    constructor
    · rintro ((h | ⟨j, hj, h⟩) | rfl)
      · exact .inl h
      · exact .inr ⟨j, by omega, h⟩
      · exact .inr ⟨k, by omega, rfl⟩
    · rintro (h | ⟨j, hj, h⟩)
      · exact .inl (.inl h)
      · by_cases e : j = k
        · subst e; exact .inr h.symm
        · exact .inl (.inr ⟨j, by omega, h⟩)
  · show x ∈ (if k = 0 then ins s.first (nth t k) else s.first) ↔ _
    by_cases e : k = 0
    · subst e
      rw [if_pos rfl, mem_ins, h2]
      simp
      constructor
      · rintro (h | rfl)
        · exact .inl h
        · exact .inr rfl
      · rintro (h | rfl)
        · exact .inl h
        · exact .inr rfl
    · rw [if_neg e, h2]
      have : 0 < k := by omega
      simp [this]
  · show x ∈ (if k + 1 = t.length then ins s.last (nth t k) else s.last) ↔ _
    by_cases e : k + 1 = t.length
    · rw [if_pos e, mem_ins, h3]
      constructor
      · rintro ((h | ⟨j, hj, h⟩) | rfl)
        · exact .inl h
        · exact .inr ⟨j, by omega, h⟩
        · exact .inr ⟨k, by omega, e, rfl⟩
      · rintro (h | ⟨j, hj, h5, h⟩)
        · exact .inl (.inl h)
        · have : j = k := by omega
          subst this; exact .inr h.symm
    · rw [if_neg e, h3]
      constructor
      · rintro (h | ⟨j, hj, h⟩)
        · exact .inl h
        · exact .inr ⟨j, by omega, h⟩
      · rintro (h | ⟨j, hj, h5, h⟩)
        · exact .inl h
        · exact .inr ⟨j, by omega, h5, h⟩
  · show x ∈ (if k = 0 then s.behind else ins s.behind (nth t (k - 1), nth t k)) ↔ _
    by_cases e : k = 0
    · subst e
      rw [if_pos rfl, h4]; simp
    · obtain ⟨q, rfl⟩ : ∃ q, k = q + 1 := ⟨k - 1, by omega⟩
      rw [if_neg e, mem_ins, h4, Nat.add_sub_cancel]
      constructor
      · rintro ((h | ⟨j, hj, h⟩) | rfl)
        · exact .inl h
        · exact .inr ⟨j, by omega, h⟩
        · exact .inr ⟨q, by omega, rfl⟩
      · rintro (h | ⟨j, hj, h⟩)
        · exact .inl (.inl h)
        · by_cases e : j = q
          · subst e; exact .inr h.symm
          · exact .inl (.inr ⟨j, by omega, h⟩)
theorem shows_upto {log : List (List Int)} {t : List Int} {s : TrkD} (h : Shows log s) : ∀ k, ShowsTo log t k (trkTo t s k)
  | 0 => shows_zero h
  | k + 1 => by rw [trkTo_succ]; exact shows_succ (shows_upto h k)
theorem shows_more {log : List (List Int)} {t : List Int} {s : TrkD} (h : Shows log s) : Shows (log ++ [t]) (trkTo t s t.length) := by
  obtain ⟨h1, h2, h3, h4⟩ := shows_upto (t := t) h t.length
  refine ⟨fun x => ?_, fun x => ?_, fun x => ?_, fun x => ?_⟩
  · rw [h1]; simp [or_and_right, exists_or]
  · rw [h2]; simp [or_and_right, exists_or]
  · rw [h3]
    constructor
    · rintro (⟨t', h1, h2⟩ | ⟨j, h1, h2, h3⟩)
      · exact ⟨t', by simp [h1], h2⟩
      · exact ⟨t, by simp, j, h2, h3⟩
    · rintro ⟨t', h1, j, h2, h3⟩
      rcases List.mem_append.1 h1 with h | h
      · exact .inl ⟨t', h, j, h2, h3⟩
      · rw [List.mem_singleton.1 h] at h2 h3
        exact .inr ⟨j, by omega, h2, h3⟩
  · rw [h4]; simp [or_and_right, exists_or]
theorem shows_log (log : List (List Int)) : Shows log (trkLog log) := by
  have key : ∀ (l2 l1 : List (List Int)) (s : TrkD), Shows l1 s → Shows (l1 ++ l2) (l2.foldl (fun s t => trkTo t s t.length) s) := by
    intro l2
    induction l2 with
    | nil => intro l1 s h; simpa using h
    | cons t l2 ih =>
      intro l1 s h
      have := ih (l1 ++ [t]) _ (shows_more (t := t) h)
      rwa [List.append_assoc, List.singleton_append] at this
  have := key log [] ⟨[], [], [], []⟩ ⟨by simp, by simp, by simp, by simp⟩
  rw [List.nil_append] at this
  exact this
/-- each stands once -/
def Onces (s : TrkD) : Prop := s.all.Nodup ∧ s.first.Nodup ∧ s.last.Nodup ∧ s.behind.Nodup
theorem onces_step {t : List Int} {s : TrkD} {k : Nat} (h : Onces s) : Onces (trkStep t s k) := by
  obtain ⟨h1, h2, h3, h4⟩ := h
  unfold trkStep
  refine ⟨nodup_ins h1, ?_, ?_, ?_⟩
  · show (if k = 0 then ins s.first (nth t k) else s.first).Nodup
    split
    · exact nodup_ins h2
    · exact h2
  · show (if k + 1 = t.length then ins s.last (nth t k) else s.last).Nodup
    split
    · exact nodup_ins h3
    · exact h3
  · show (if k = 0 then s.behind else ins s.behind (nth t (k - 1), nth t k)).Nodup
    split
    · exact h4
    · exact nodup_ins h4
theorem onces_upto {t : List Int} {s : TrkD} (h : Onces s) : ∀ k, Onces (trkTo t s k)
  | 0 => h
  | k + 1 => by rw [trkTo_succ]; exact onces_step (onces_upto h k)
theorem onces_log (log : List (List Int)) : Onces (trkLog log) := by
  have key : ∀ (l2 : List (List Int)) (s : TrkD), Onces s → Onces (l2.foldl (fun s t => trkTo t s t.length) s) := by
    intro l2
    induction l2 with
    | nil => intro s h; exact h
    | cons t l2 ih => intro s h; exact ih _ (onces_upto h _)
  exact key log _ ⟨by simp, by simp, by simp, by simp⟩

/-! ### the order of pairs, and of rows that rise -/
theorem mem_sortP {x : Int × Int} {l : List (Int × Int)} : x ∈ sortP l ↔ x ∈ l := List.mem_mergeSort
theorem sortP_perm (l : List (Int × Int)) : (sortP l).Perm l := List.mergeSort_perm l _
def leP (a b : Int × Int) : Prop := a.1 < b.1 ∨ (a.1 = b.1 ∧ a.2 ≤ b.2)
theorem sortP_sorted (l : List (Int × Int)) : (sortP l).Pairwise leP := by
  have h := List.pairwise_mergeSort (le := fun a b : Int × Int => decide (a.1 < b.1) || (decide (a.1 = b.1) && decide (a.2 ≤ b.2))) (by intro a b c; simp; omega) (by intro a b; simp; omega) l
  exact h.imp fun h => by simpa [leP] using h
/-- two rows of the same that rise are one -/
theorem rise_one {α : Type} {R : α → α → Prop} (anti : ∀ a b, R a b → R b a → a = b) : ∀ {l1 l2 : List α}, l1.Perm l2 → l1.Pairwise R → l2.Pairwise R → l1 = l2
  | [], l2, hp, _, _ => (List.nil_perm.1 hp).symm
  | a :: l1, l2, hp, h1, h2 => by
    cases l2 with
    | nil => exact absurd hp.length_eq (by simp)
    | cons b l2 =>
      have hab : a = b := by
        rcases List.mem_cons.1 (hp.mem_iff.1 (List.mem_cons_self ..)) with e | ha
        · exact e
        · rcases List.mem_cons.1 (hp.mem_iff.2 (List.mem_cons_self ..)) with e | hb
          · exact e.symm
          · exact anti a b (List.rel_of_pairwise_cons h1 hb) (List.rel_of_pairwise_cons h2 ha)
      subst hab
      rw [rise_one anti (List.Perm.cons_inv hp) (List.Pairwise.of_cons h1) (List.Pairwise.of_cons h2)]
theorem anti_le (a b : Int) (h1 : a ≤ b) (h2 : b ≤ a) : a = b := by omega
theorem anti_leP (a b : Int × Int) (h1 : leP a b) (h2 : leP b a) : a = b := by
  unfold leP at *
  have : a.1 = b.1 ∧ a.2 = b.2 := by omega
  exact Prod.ext this.1 this.2
theorem sortI_is {l out : List Int} (hp : out.Perm l) (hs : out.Pairwise (· ≤ ·)) : sortI l = out := rise_one anti_le ((sortI_perm l).trans hp.symm) (sortI_sorted l) hs
theorem sortP_is {l out : List (Int × Int)} (hp : out.Perm l) (hs : out.Pairwise leP) : sortP l = out := rise_one anti_leP ((sortP_perm l).trans hp.symm) (sortP_sorted l) hs
theorem sortI_same {l m : List Int} (h1 : l.Nodup) (h2 : m.Nodup) (h : ∀ x, x ∈ l ↔ x ∈ m) : sortI l = sortI m := sortI_is ((sortI_perm m).trans ((List.perm_ext_iff_of_nodup h1 h2).2 h).symm) (sortI_sorted m)
theorem sortP_same {l m : List (Int × Int)} (h1 : l.Nodup) (h2 : m.Nodup) (h : ∀ x, x ∈ l ↔ x ∈ m) : sortP l = sortP m := sortP_is ((sortP_perm m).trans ((List.perm_ext_iff_of_nodup h1 h2).2 h).symm) (sortP_sorted m)

/-! ### restrictions -/
def ontoT (log : List (List Int)) (labels : List Int) : List (List Int) := log.map fun t => t.filter fun a => hasB labels a
theorem onto_twice (log : List (List Int)) (a b : List Int) : ontoT (ontoT log a) b = ontoT log (a.filter fun x => hasB b x) := by
  unfold ontoT
  rw [List.map_map]
  apply List.map_congr_left
  intro t _
  show List.filter _ (List.filter _ t) = _
  rw [List.filter_filter]
  apply List.filter_congr
  intro x _
  rw [Bool.eq_iff_iff, Bool.and_eq_true, hasB_iff, hasB_iff, hasB_iff, List.mem_filter, hasB_iff]
  exact And.comm
theorem onto_swap (log : List (List Int)) (a b : List Int) : ontoT (ontoT log a) b = ontoT (ontoT log b) a := by
  unfold ontoT
  rw [List.map_map, List.map_map]
  apply List.map_congr_left
  intro t _
  show List.filter _ (List.filter _ t) = List.filter _ (List.filter _ t)
  rw [List.filter_filter, List.filter_filter]
  apply List.filter_congr
  intro x _
  rw [Bool.and_comm]
end Go.Tok
