/- Clusters of transitions that share places, as plain functions; what they say. No program is in sight here. -/
import Derived.Test.YtkanaoebpajbfaaPA
namespace Go.Tok
set_option linter.unusedVariables false
def sharesB (a b : TranD) : Bool := (List.range a.pre.length).any fun p => decide (0 < nth a.pre p) && decide (0 < nth b.pre p)
theorem shares_iff {a b : TranD} : sharesB a b = true ↔ ∃ p, p < a.pre.length ∧ 0 < nth a.pre p ∧ 0 < nth b.pre p := by
  unfold sharesB
  rw [List.any_eq_true]
  constructor
  · rintro ⟨p, hp, h⟩
    simp only [Bool.and_eq_true, decide_eq_true_eq] at h
    exact ⟨p, by simpa using hp, h⟩
  · rintro ⟨p, hp, h1, h2⟩
    exact ⟨p, by simpa using hp, by simp [h1, h2]⟩
theorem shares_comm {a b : TranD} (hl : a.pre.length = b.pre.length) (h : sharesB a b = true) : sharesB b a = true := by
  obtain ⟨p, hp, h1, h2⟩ := shares_iff.1 h
  exact shares_iff.2 ⟨p, by omega, h2, h1⟩
/-- does transition k share a place with one of l? -/
def touchB (N : NetD) (k : Nat) (l : List Int) : Bool := l.any fun j => sharesB (N.tr k) (N.tr j.toNat)
def sortI (l : List Int) : List Int := l.mergeSort fun a b => decide (a ≤ b)
theorem mem_sortI {x : Int} {l : List Int} : x ∈ sortI l ↔ x ∈ l := List.mem_mergeSort
theorem sortI_perm (l : List Int) : (sortI l).Perm l := List.mergeSort_perm l _
theorem sortI_sorted (l : List Int) : (sortI l).Pairwise (· ≤ ·) := by
  have h := List.pairwise_mergeSort (le := fun a b : Int => decide (a ≤ b)) (by intro a b c; simp; omega) (by intro a b; simp; omega) l
  exact h.imp fun h => by simpa using h
/-- what comes together with transition k, and what stands by itself, of the first j lists -/
def mineTo (N : NetD) (k : Nat) (out : List (List Int)) (j : Nat) : List Int := (k : Int) :: ((out.take j).filter (touchB N k)).flatten
def restTo (N : NetD) (k : Nat) (out : List (List Int)) (j : Nat) : List (List Int) := (out.take j).filter fun l => !touchB N k l
def clusN (N : NetD) : Nat → List (List Int)
  | 0 => []
  | k + 1 => restTo N k (clusN N k) (clusN N k).length ++ [sortI (mineTo N k (clusN N k) (clusN N k).length)]
theorem mineTo_yes {N : NetD} {k j : Nat} {out : List (List Int)} (hj : j < out.length) (h : touchB N k (ix out j) = true) : mineTo N k out (j + 1) = mineTo N k out j ++ ix out j := by
  unfold mineTo
  rw [take_ix hj, List.filter_append, List.filter_cons_of_pos h]; simp
theorem mineTo_no {N : NetD} {k j : Nat} {out : List (List Int)} (hj : j < out.length) (h : touchB N k (ix out j) = false) : mineTo N k out (j + 1) = mineTo N k out j := by
  unfold mineTo
  rw [take_ix hj, List.filter_append, List.filter_cons_of_neg (by rw [h]; decide)]; simp
theorem restTo_yes {N : NetD} {k j : Nat} {out : List (List Int)} (hj : j < out.length) (h : touchB N k (ix out j) = true) : restTo N k out (j + 1) = restTo N k out j := by
  unfold restTo
  rw [take_ix hj, List.filter_append, List.filter_cons_of_neg (by rw [h]; decide)]; simp
theorem restTo_no {N : NetD} {k j : Nat} {out : List (List Int)} (hj : j < out.length) (h : touchB N k (ix out j) = false) : restTo N k out (j + 1) = restTo N k out j ++ [ix out j] := by
  unfold restTo
  rw [take_ix hj, List.filter_append, List.filter_cons_of_pos (by rw [h]; decide)]; simp
theorem split_flat (p : List Int → Bool) : ∀ (l : List (List Int)), ((l.filter p).flatten ++ (l.filter fun x => !p x).flatten).Perm l.flatten := by
  intro l
  induction l with
  | nil => simp
  | cons a l ih =>
    by_cases h : p a = true
    · rw [List.filter_cons_of_pos h, List.filter_cons_of_neg (by rw [h]; decide), List.flatten_cons, List.flatten_cons, List.append_assoc]
      exact List.Perm.append_left _ ih
    · have h' : p a = false := by simpa using h
      rw [List.filter_cons_of_neg h, List.filter_cons_of_pos (by rw [h']; decide), List.flatten_cons, List.flatten_cons]
      exact (List.perm_append_comm_assoc _ _ _).trans (List.Perm.append_left _ ih)
/-- each is in one cluster -/
theorem clus_perm (N : NetD) : ∀ k, (clusN N k).flatten.Perm ((List.range k).map Int.ofNat) := by
  intro k
  induction k with
  | zero => simp [clusN]
  | succ k ih =>
    rw [clusN, List.flatten_append, List.flatten_singleton, List.range_succ, List.map_append, List.map_singleton]
    unfold restTo mineTo
    rw [List.take_length]
    refine (List.Perm.append_left _ (sortI_perm _)).trans ?_
    refine (List.perm_append_comm).trans ?_
    rw [List.cons_append]
    refine (List.Perm.cons _ ((split_flat (touchB N k) (clusN N k)).trans ih)).trans ?_
    exact (List.perm_append_singleton _ _).symm
theorem clus_mem {N : NetD} {k : Nat} {x : Int} : x ∈ (clusN N k).flatten ↔ ∃ i, i < k ∧ x = (i : Int) := by
  rw [(clus_perm N k).mem_iff, List.mem_map]
  constructor
  · rintro ⟨i, hi, rfl⟩; exact ⟨i, by simpa using hi, rfl⟩
  · rintro ⟨i, hi, rfl⟩; exact ⟨i, by simpa using hi, rfl⟩
/-- in one cluster -/
def Tog (N : NetD) (k i j : Nat) : Prop := ∃ l ∈ clusN N k, (i : Int) ∈ l ∧ (j : Int) ∈ l
theorem tog_next {N : NetD} {k i j : Nat} (h : Tog N k i j) : Tog N (k + 1) i j := by
  obtain ⟨l, hl, h1, h2⟩ := h
  by_cases ht : touchB N k l = true
  · refine ⟨sortI (mineTo N k (clusN N k) (clusN N k).length), by rw [clusN]; simp, ?_, ?_⟩
    all_goals
      rw [mem_sortI]
      unfold mineTo
      rw [List.take_length]
      refine List.mem_cons_of_mem _ (List.mem_flatten.2 ⟨l, List.mem_filter.2 ⟨hl, ht⟩, ?_⟩)
      assumption
  · refine ⟨l, ?_, h1, h2⟩
    rw [clusN]
    refine List.mem_append_left _ ?_
    unfold restTo
    rw [List.take_length]
    exact List.mem_filter.2 ⟨hl, by simpa using ht⟩
theorem tog_new {N : NetD} {k j : Nat} (hj : j < k) (h : sharesB (N.tr k) (N.tr j) = true) : Tog N (k + 1) k j := by
  obtain ⟨l, hl, hm⟩ := List.mem_flatten.1 (clus_mem.2 ⟨j, hj, rfl⟩ : (j : Int) ∈ (clusN N k).flatten)
  have ht : touchB N k l = true := List.any_eq_true.2 ⟨j, hm, by simpa using h⟩
  refine ⟨sortI (mineTo N k (clusN N k) (clusN N k).length), by rw [clusN]; simp, ?_, ?_⟩
  · rw [mem_sortI]; unfold mineTo; exact List.mem_cons_self
  · rw [mem_sortI]
    unfold mineTo
    rw [List.take_length]
    exact List.mem_cons_of_mem _ (List.mem_flatten.2 ⟨l, List.mem_filter.2 ⟨hl, ht⟩, hm⟩)
theorem tog_self {N : NetD} {k i : Nat} (hi : i < k) : Tog N k i i := by
  obtain ⟨l, hl, hm⟩ := List.mem_flatten.1 (clus_mem.2 ⟨i, hi, rfl⟩ : (i : Int) ∈ (clusN N k).flatten)
  exact ⟨l, hl, hm, hm⟩
theorem Tog.symm {N : NetD} {k i j : Nat} (h : Tog N k i j) : Tog N k j i := by
  obtain ⟨l, hl, h1, h2⟩ := h
  exact ⟨l, hl, h2, h1⟩
/-- who shares a place is in one cluster -/
theorem tog_shares {N : NetD} (hN : netOkB N = true) : ∀ k, k ≤ N.trans.length → ∀ i j, i < k → j < k → sharesB (N.tr i) (N.tr j) = true → Tog N k i j := by
  intro k
  induction k with
  | zero => intro _ i j hi; omega
  | succ k ih =>
    intro hk i j hi hj hs
    have hlen : ∀ a b, a < N.trans.length → b < N.trans.length → (N.tr a).pre.length = (N.tr b).pre.length := fun a b ha hb => by
      have h1 := (netOk_tr hN ha).pre
      have h2 := (netOk_tr hN hb).pre
      omega
    by_cases e1 : i = k
    · by_cases e2 : j = k
      · subst e1 e2; exact tog_self (by omega)
      · subst e1; exact tog_new (by omega) hs
    · by_cases e2 : j = k
      · subst e2
        exact (tog_new (by omega) (shares_comm (hlen i j (by omega) (by omega)) hs)).symm
      · exact tog_next (ih (by omega) i j (by omega) (by omega) hs)
/-- who shares a place takes the same -/
def freeB (N : NetD) : Bool := (List.range N.trans.length).all fun i => (List.range i).all fun j => !sharesB (N.tr i) (N.tr j) || decide ((N.tr i).pre = (N.tr j).pre)
theorem free_pre {N : NetD} (hN : netOkB N = true) (hf : freeB N = true) {i j : Nat} (hi : i < N.trans.length) (hj : j < N.trans.length) (hs : sharesB (N.tr i) (N.tr j) = true) : (N.tr i).pre = (N.tr j).pre := by
  have key : ∀ a b, a < N.trans.length → b < a → sharesB (N.tr a) (N.tr b) = true → (N.tr a).pre = (N.tr b).pre := fun a b ha hb h => by
    have h1 := List.all_eq_true.1 (List.all_eq_true.1 hf a (by simpa using ha)) b (by simpa using hb)
    rw [h] at h1
    simpa using h1
  rcases Nat.lt_trichotomy i j with h | h | h
  · have h1 := (netOk_tr hN hi).pre
    have h2 := (netOk_tr hN hj).pre
    exact (key j i hj h (shares_comm (by omega) hs)).symm
  · rw [h]
  · exact key i j hi h hs
/-- where choices are free, those of one cluster take the same -/
theorem free_same {N : NetD} (hN : netOkB N = true) (hf : freeB N = true) : ∀ k, k ≤ N.trans.length → ∀ l ∈ clusN N k, ∀ x ∈ l, ∀ y ∈ l, (N.tr x.toNat).pre = (N.tr y.toNat).pre := by
  intro k
  induction k with
  | zero => intro _ l hl; simp [clusN] at hl
  | succ k ih =>
    intro hk l hl x hx y hy
    rw [clusN] at hl
    rcases List.mem_append.1 hl with h | h
    · unfold restTo at h
      exact ih (by omega) l (List.mem_of_mem_take (List.mem_filter.1 h).1) x hx y hy
    · rw [List.mem_singleton.1 h, mem_sortI] at hx hy
      have key : ∀ z, z ∈ mineTo N k (clusN N k) (clusN N k).length → (N.tr z.toNat).pre = (N.tr k).pre := by
        intro z hz
        unfold mineTo at hz
        rw [List.take_length] at hz
        rcases List.mem_cons.1 hz with rfl | hz
        · simp
        · obtain ⟨l', hl', hz'⟩ := List.mem_flatten.1 hz
          obtain ⟨h1, h2⟩ := List.mem_filter.1 hl'
          obtain ⟨j, hj, hs⟩ := List.any_eq_true.1 h2
          obtain ⟨jn, hjn, rfl⟩ := clus_mem.1 (List.mem_flatten.2 ⟨l', h1, hj⟩)
          have := free_pre hN hf (show k < N.trans.length by omega) (show jn < N.trans.length by omega) (by simpa using hs)
          rw [this, ← ih (by omega) l' h1 _ hj z hz']; simp
      rw [key x hx, key y hy]
end Go.Tok
