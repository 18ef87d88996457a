/- Texts of one family, joined; what the claim does not need is left out. -/
import Derived.Sort.LotA
import Derived.Shelf.SlSortCmp.Insertion1
import Derived.Test.YtagdccgbcmnehaaGreatQMOa
import Derived.Test.YtagdccgbcmnehaaGreatProg
namespace Go.Stab
open Go.Sort
set_option linter.unusedVariables false
variable {α : Type} [Inhabited α] {lt : α → α → Bool}

def SwR (d d' : Array α) (p q n : Nat) : Prop := d'.size = d.size ∧ ∀ k, d'[k]! = if p ≤ k ∧ k < p + n then d[q + (k - p)]! else if q ≤ k ∧ k < q + n then d[p + (k - q)]! else d[k]!
theorem SwR.zero (d : Array α) (p q : Nat) : SwR d d p q 0 := ⟨rfl, fun k => by rw [if_neg (by omega), if_neg (by omega)]⟩
theorem get_eq (d : Array α) {i j : Nat} (h : i = j) : d[i]! = d[j]! := by rw [h]
theorem SwR.succ {d d1 : Array α} {p q n t : Nat} (h : SwR d d1 p q t) (ht : t < n) (hpq : p + n ≤ q) (hq : q + n ≤ d.size) : SwR d (swp d1 (p + t) (q + t)) p q (t + 1) := by
  refine ⟨by rw [swp_size, h.1], fun k => ?_⟩
  rw [swp_get d1 (by rw [h.1]; omega) (by rw [h.1]; omega), h.2, h.2, h.2]
  by_cases h1 : k = q + t
  · rw [if_pos h1, if_neg (by omega), if_neg (by omega), if_neg (by omega), if_pos (by omega)]
    exact get_eq d (by omega)
  · rw [if_neg h1]
    by_cases h2 : k = p + t
    · rw [if_pos h2, if_neg (by omega), if_neg (by omega), if_pos (by omega)]
      exact get_eq d (by omega)
    · rw [if_neg h2]
      by_cases h3 : p ≤ k ∧ k < p + t
      · rw [if_pos h3, if_pos (by omega)]
      · rw [if_neg h3, if_neg (show ¬ (p ≤ k ∧ k < p + (t + 1)) by omega)]
        by_cases h4 : q ≤ k ∧ k < q + t
        · rw [if_pos h4, if_pos (by omega)]
        · rw [if_neg h4, if_neg (by omega)]

def Rot (d d' : Array α) (lo m hi : Nat) : Prop := d'.size = d.size ∧ ∀ k, d'[k]! = if lo ≤ k ∧ k < lo + (hi - m) then d[m + (k - lo)]! else if lo + (hi - m) ≤ k ∧ k < hi then d[lo + (k - (lo + (hi - m)))]! else d[k]!
theorem Rot.none (d : Array α) {lo m hi : Nat} (h : lo = m ∨ m = hi) (h1 : lo ≤ m) (h2 : m ≤ hi) : Rot d d lo m hi := by
  refine ⟨rfl, fun k => ?_⟩
  by_cases h3 : lo ≤ k ∧ k < lo + (hi - m)
  · rw [if_pos h3]; exact get_eq d (by omega)
  · rw [if_neg h3]
    by_cases h4 : lo + (hi - m) ≤ k ∧ k < hi
    · rw [if_pos h4]; exact get_eq d (by omega)
    · rw [if_neg h4]
theorem Rot.same {d d' : Array α} {m i : Nat} (h : SwR d d' (m - i) m i) (hi : i ≤ m) : Rot d d' (m - i) m (m + i) := by
  refine ⟨h.1, fun k => ?_⟩
  rw [h.2]
  by_cases h1 : m - i ≤ k ∧ k < m - i + i
  · rw [if_pos h1, if_pos (by omega)]
  · rw [if_neg h1]
    by_cases h2 : m ≤ k ∧ k < m + i
    · rw [if_pos h2, if_neg (show ¬ (m - i ≤ k ∧ k < m - i + (m + i - m)) by omega), if_pos (by omega)]; exact get_eq d (by omega)
    · rw [if_neg h2, if_neg (show ¬ (m - i ≤ k ∧ k < m - i + (m + i - m)) by omega), if_neg (by omega)]
theorem Rot.left {d d1 d' : Array α} {m i j : Nat} (h : SwR d d1 (m - i) m j) (hr : Rot d1 d' (m - (i - j)) m (m + j)) (hi : i ≤ m) (hj : j < i) : Rot d d' (m - i) m (m + j) := by
  refine ⟨hr.1.trans h.1, fun k => ?_⟩
  rw [hr.2, h.2, h.2, h.2]
  by_cases c1 : m - (i - j) ≤ k ∧ k < m - (i - j) + (m + j - m)
  · rw [if_pos c1, if_neg (by omega), if_pos (by omega)]
    by_cases c2 : m - i ≤ k ∧ k < m - i + (m + j - m)
    · omega
    · rw [if_neg c2, if_pos (by omega)]; exact get_eq d (by omega)
  · rw [if_neg c1]
    by_cases c2 : m - (i - j) + (m + j - m) ≤ k ∧ k < m + j
    · rw [if_pos c2, if_neg (by omega)]
      rw [if_neg (show ¬ (m - i ≤ k ∧ k < m - i + (m + j - m)) by omega), if_pos (show m - i + (m + j - m) ≤ k ∧ k < m + j by omega)]
      by_cases c3 : m ≤ m - (i - j) + (k - (m - (i - j) + (m + j - m))) ∧ m - (i - j) + (k - (m - (i - j) + (m + j - m))) < m + j
      · omega
      · rw [if_neg c3]; exact get_eq d (by omega)
    · rw [if_neg c2]
      by_cases c3 : m - i ≤ k ∧ k < m - i + j
      · rw [if_pos c3, if_pos (by omega)]
      · rw [if_neg c3, if_neg (by omega), if_neg (by omega), if_neg (by omega)]
theorem Rot.right {d d1 d' : Array α} {m i j : Nat} (h : SwR d d1 (m - i) (m + j - i) i) (hr : Rot d1 d' (m - i) m (m + (j - i))) (hi : i ≤ m) (hj : i < j) : Rot d d' (m - i) m (m + j) := by
  refine ⟨hr.1.trans h.1, fun k => ?_⟩
  rw [hr.2, h.2, h.2, h.2]
  by_cases c1 : m - i ≤ k ∧ k < m - i + (m + (j - i) - m)
  · rw [if_pos c1, if_pos (show m - i ≤ k ∧ k < m - i + (m + j - m) by omega), if_neg (by omega)]
    by_cases c2 : m + j - i ≤ m + (k - (m - i)) ∧ m + (k - (m - i)) < m + j - i + i
    · omega
    · rw [if_neg c2]
  · rw [if_neg c1]
    by_cases c2 : m - i + (m + (j - i) - m) ≤ k ∧ k < m + (j - i)
    · rw [if_pos c2, if_pos (by omega), if_pos (show m - i ≤ k ∧ k < m - i + (m + j - m) by omega)]; exact get_eq d (by omega)
    · rw [if_neg c2]
      by_cases c3 : m + j - i ≤ k ∧ k < m + j - i + i
      · rw [if_neg (show ¬ (m - i ≤ k ∧ k < m - i + i) by omega), if_pos c3, if_neg (by omega), if_pos (by omega)]; exact get_eq d (by omega)
      · rw [if_neg (show ¬ (m - i ≤ k ∧ k < m - i + i) by omega), if_neg c3, if_neg (by omega), if_neg (by omega)]
/-- one more step of an insertion to the right -/
theorem Rot.push {d d1 : Array α} {a k : Nat} (h : Rot d d1 a (a + 1) (k + 1)) (hk : a ≤ k) (hs : k + 1 < d.size) : Rot d (swp d1 k (k + 1)) a (a + 1) (k + 2) := by
  refine ⟨by rw [swp_size, h.1], fun x => ?_⟩
  rw [swp_get d1 (by rw [h.1]; omega) (by rw [h.1]; omega), h.2, h.2, h.2]
  by_cases h1 : x = k + 1
  · rw [if_pos h1, if_neg (by omega), if_pos (by omega), if_neg (by omega), if_pos (by omega)]; exact get_eq d (by omega)
  · rw [if_neg h1]
    by_cases h2 : x = k
    · rw [if_pos h2, if_neg (by omega), if_neg (by omega), if_pos (by omega)]; exact get_eq d (by omega)
    · rw [if_neg h2]
      by_cases h3 : a ≤ x ∧ x < a + (k + 1 - (a + 1))
      · rw [if_pos h3, if_pos (by omega)]
      · rw [if_neg h3, if_neg (by omega), if_neg (by omega), if_neg (by omega)]
/-- one more step of an insertion to the left: what stood at m has come down to k -/
theorem Rot.pull {d d1 : Array α} {m k : Nat} (h : Rot d d1 k m (m + 1)) (h0 : 0 < k) (hk : k ≤ m) (hs : m < d.size) : Rot d (swp d1 k (k - 1)) (k - 1) m (m + 1) := by
  refine ⟨by rw [swp_size, h.1], fun x => ?_⟩
  rw [swp_get d1 (by rw [h.1]; omega) (by rw [h.1]; omega), h.2, h.2, h.2]
  by_cases h1 : x = k - 1
  · rw [if_pos h1, if_pos (by omega), if_pos (by omega)]; exact get_eq d (by omega)
  · rw [if_neg h1]
    by_cases h2 : x = k
    · rw [if_pos h2, if_neg (by omega), if_neg (by omega), if_neg (by omega), if_pos (by omega)]; exact get_eq d (by omega)
    · rw [if_neg h2]
      by_cases h3 : k ≤ x ∧ x < k + (m + 1 - m)
      · omega
      · rw [if_neg h3, if_neg (show ¬ (k - 1 ≤ x ∧ x < k - 1 + (m + 1 - m)) by omega)]
        by_cases h4 : k + (m + 1 - m) ≤ x ∧ x < m + 1
        · rw [if_pos h4, if_pos (by omega)]; exact get_eq d (by omega)
        · rw [if_neg h4, if_neg (by omega)]

/-- each of [a,b) is at most each of [c,e) -/
def LeR (lt : α → α → Bool) (d : Array α) (a b c e : Nat) : Prop := ∀ i j, a ≤ i → i < b → c ≤ j → j < e → lt d[j]! d[i]! = false
theorem Rot.get1 {d d' : Array α} {lo m hi : Nat} (h : Rot d d' lo m hi) {k : Nat} (h1 : lo ≤ k) (h2 : k < lo + (hi - m)) : d'[k]! = d[m + (k - lo)]! := by rw [h.2, if_pos ⟨h1, h2⟩]
theorem Rot.get2 {d d' : Array α} {lo m hi : Nat} (h : Rot d d' lo m hi) {k : Nat} (h1 : lo + (hi - m) ≤ k) (h2 : k < hi) : d'[k]! = d[lo + (k - (lo + (hi - m)))]! := by rw [h.2, if_neg (by omega), if_pos ⟨h1, h2⟩]
theorem Rot.get3 {d d' : Array α} {lo m hi : Nat} (h : Rot d d' lo m hi) (h0 : lo ≤ m) (h00 : m ≤ hi) {k : Nat} (h1 : k < lo ∨ hi ≤ k) : d'[k]! = d[k]! := by rw [h.2, if_neg (by omega), if_neg (by omega)]
section
variable {d d' : Array α} {a s m e b : Nat}
theorem rot_a1 (hr : Rot d d' s m e) (hA : SortedIn lt a m d) (h1 : a ≤ s) (h2 : s ≤ m) (h3 : m ≤ e) : SortedIn lt a s d' := by
  intro i j hi hij hj
  rw [hr.get3 h2 h3 (by omega), hr.get3 h2 h3 (by omega)]
  exact hA i j hi hij (by omega)
theorem rot_b1 (hr : Rot d d' s m e) (hB : SortedIn lt m b d) (h4 : e ≤ b) : SortedIn lt s (s + (e - m)) d' := by
  intro i j hi hij hj
  rw [hr.get1 (by omega) (by omega), hr.get1 (by omega) (by omega)]
  exact hB _ _ (by omega) (by omega) (by omega)
theorem rot_a2 (hr : Rot d d' s m e) (hA : SortedIn lt a m d) (h1 : a ≤ s) (h2 : s ≤ m) (h3 : m ≤ e) : SortedIn lt (s + (e - m)) e d' := by
  intro i j hi hij hj
  rw [hr.get2 (by omega) (by omega), hr.get2 (by omega) (by omega)]
  exact hA _ _ (by omega) (by omega) (by omega)
theorem rot_b2 (hr : Rot d d' s m e) (hB : SortedIn lt m b d) (h2 : s ≤ m) (h3 : m ≤ e) : SortedIn lt e b d' := by
  intro i j hi hij hj
  rw [hr.get3 h2 h3 (by omega), hr.get3 h2 h3 (by omega)]
  exact hB i j (by omega) hij hj
/-- behind the rotation the first half stands below the second one -/
theorem rot_le (hr : Rot d d' s m e) (hA : SortedIn lt a m d) (hB : SortedIn lt m b d) (h1 : a ≤ s) (h2 : s ≤ m) (h3 : m ≤ e) (h4 : e ≤ b) (hS : SWO lt)
    (hab : LeR lt d a s e b) (hba : LeR lt d m e s m) : LeR lt d' a (s + (e - m)) (s + (e - m)) b := by
  intro i j hi1 hi2 hj1 hj2
  by_cases c1 : i < s
  · rw [hr.get3 h2 h3 (k := i) (.inl c1)]
    by_cases c2 : j < e
    · rw [hr.get2 (k := j) (by omega) c2]
      exact hA _ _ (by omega) (by omega) (by omega)
    · rw [hr.get3 h2 h3 (k := j) (by omega)]
      exact hab _ _ (by omega) (by omega) (by omega) (by omega)
  · rw [hr.get1 (k := i) (by omega) (by omega)]
    by_cases c2 : j < e
    · rw [hr.get2 (k := j) (by omega) c2]
      exact hba _ _ (by omega) (by omega) (by omega) (by omega)
    · rw [hr.get3 h2 h3 (k := j) (by omega)]
      exact hB _ _ (by omega) (by omega) (by omega)
theorem sorted_join (h1 : SortedIn lt a m d) (h2 : SortedIn lt m b d) (h : LeR lt d a m m b) : SortedIn lt a b d := by
  intro i j hi hij hj
  by_cases c1 : j < m
  · exact h1 i j hi hij c1
  · by_cases c2 : i < m
    · exact h i j hi c2 (by omega) hj
    · exact h2 i j (by omega) hij hj
theorem le_perm {d1 d2 : Array α} (h : LeR lt d a m m b) (hm : m ≤ b) (hb : b ≤ d.size) (ha : a ≤ m) (h1 : PermIn a m d d1) (h2 : PermIn m b d1 d2) : LeR lt d2 a m m b := by
  have e1 : LeR lt d1 a m m b := by
    intro i j hi1 hi2 hj1 hj2
    rw [h1.2.1 j (.inr hj1)]
    exact permIn_all d d1 a m (fun x => lt d[j]! x = false) (by omega) h1 (fun i h3 h4 => h i j h3 h4 hj1 hj2) i hi1 hi2
  intro i j hi1 hi2 hj1 hj2
  rw [h2.2.1 i (.inl hi2)]
  exact permIn_all d1 d2 m b (fun x => lt x d1[i]! = false) (by rw [h1.1]; exact hb) h2 (fun j h3 h4 => e1 i j hi1 hi2 h3 h4) j hj1 hj2
theorem sorted_perm {d1 : Array α} (h : SortedIn lt a m d) (h1 : PermIn m b d d1) : SortedIn lt a m d1 := by
  intro i j hi hij hj
  rw [h1.2.1 i (.inl (by omega)), h1.2.1 j (.inl (by omega))]
  exact h i j hi hij hj
theorem sorted_perm' {d1 : Array α} (h : SortedIn lt m b d) (h1 : PermIn a m d d1) : SortedIn lt m b d1 := by
  intro i j hi hij hj
  rw [h1.2.1 i (.inr (by omega)), h1.2.1 j (.inr (by omega))]
  exact h i j hi hij hj
theorem sorted_none (h : b ≤ a + 1) : SortedIn lt a b d := fun i j h1 h2 h3 => by omega
end

/-- of [lo,hi) those below s are not more, those from r on are more than their partners -/
structure Seek (lt : α → α → Bool) (d : Array α) (p lo s r hi : Nat) : Prop where
  l1 : lo ≤ s
  l2 : s ≤ r
  l3 : r ≤ hi
  low : ∀ c, lo ≤ c → c < s → lt d[p - c]! d[c]! = false
  high : ∀ c, r ≤ c → c < hi → lt d[p - c]! d[c]! = true
section
variable {d : Array α} {a m b p lo s r hi : Nat}
theorem Seek.start (h : lo ≤ hi) : Seek lt d p lo lo hi hi := ⟨Nat.le_refl _, h, Nat.le_refl _, fun c _ _ => by omega, fun c _ _ => by omega⟩
/-- where its partners lie -/
structure Pairs (a m b p lo hi : Nat) : Prop where
  l1 : a ≤ lo
  l2 : hi ≤ m
  l3 : ∀ c, lo ≤ c → c < hi → m ≤ p - c ∧ p - c < b ∧ c ≤ p
theorem Seek.up (h : Seek lt d p lo s r hi) (hP : Pairs a m b p lo hi) (hS : SWO lt) (hA : SortedIn lt a m d) (hB : SortedIn lt m b d) {c : Nat} (h1 : s ≤ c) (h2 : c < r) (hc : lt d[p - c]! d[c]! = false) : Seek lt d p lo (c + 1) r hi := by
  refine ⟨by have := h.l1; omega, by omega, h.l3, fun x hx1 hx2 => ?_, h.high⟩
  by_cases e : x = c
  · rw [e]; exact hc
  · have hr := h.l3
    have h3 := hP.l3 c (by have := h.l1; omega) (by omega)
    have h4 := hP.l3 x hx1 (by omega)
    have h5 := hP.l1
    have h6 := hP.l2
    have e1 : lt d[c]! d[x]! = false := hA x c (by omega) (by omega) (by omega)
    have e2 : lt d[p - x]! d[p - c]! = false := hB (p - c) (p - x) (by omega) (by omega) (by omega)
    exact hS.ntrans _ _ _ (hS.ntrans _ _ _ e2 hc) e1
theorem Seek.down (h : Seek lt d p lo s r hi) (hP : Pairs a m b p lo hi) (hS : SWO lt) (hA : SortedIn lt a m d) (hB : SortedIn lt m b d) {c : Nat} (h1 : s ≤ c) (h2 : c < r) (hc : lt d[p - c]! d[c]! = true) : Seek lt d p lo s c hi := by
  refine ⟨h.l1, h1, by have := h.l3; omega, h.low, fun x hx1 hx2 => ?_⟩
  by_cases e : x = c
  · rw [e]; exact hc
  · cases hx : lt d[p - x]! d[x]! with
    | true => rfl
    | false =>
      have hr := h.l3
      have hl := h.l1
      have h3 := hP.l3 c (by omega) (by omega)
      have h4 := hP.l3 x (by omega) (by omega)
      have h5 := hP.l1
      have h6 := hP.l2
      have e1 : lt d[x]! d[c]! = false := hA c x (by omega) (by omega) (by omega)
      have e2 : lt d[p - c]! d[p - x]! = false := hB (p - x) (p - c) (by omega) (by omega) (by omega)
      have := hS.ntrans _ _ _ (hS.ntrans _ _ _ e2 hx) e1
      rw [hc] at this; cases this
end
theorem wle (hS : SWO lt) {d : Array α} {a m : Nat} (hA : SortedIn lt a m d) {i j : Nat} (h1 : a ≤ i) (h2 : i ≤ j) (h3 : j < m) : lt d[j]! d[i]! = false := by
  by_cases e : i = j
  · rw [e]; exact hS.irrefl _
  · exact hA i j h1 (by omega) h3
/-- what the search has found: [a,s) [m,e) stay below [s,m) [e,b) -/
theorem seek_le {d : Array α} {a m b p lo s hi e : Nat} (hS : SWO lt) (hA : SortedIn lt a m d) (hB : SortedIn lt m b d) (h : Seek lt d p lo s s hi) (hP : Pairs a m b p lo hi) (he : e + s = p + 1)
    (h1 : lo = a ∨ b + lo = p + 1) (h2 : hi = m ∨ m + hi = p + 1) : LeR lt d a s e b ∧ LeR lt d m e s m := by
  have l1 := h.l1
  have l3 := h.l3
  have p1 := hP.l1
  have p2 := hP.l2
  constructor
  · intro i j hi1 hi2 hj1 hj2
    have hlo : lo < s := by
      rcases h1 with h1 | h1 <;> omega
    have h3 := hP.l3 (s - 1) (by omega) (by omega)
    have h4 := h.low (s - 1) (by omega) (by omega)
    have e1 : p - (s - 1) = e := by omega
    rw [e1] at h3 h4
    exact hS.ntrans _ _ _ (hS.ntrans _ _ _ (wle hS hB h3.1 hj1 hj2) h4) (wle hS hA hi1 (by omega) (by omega))
  · intro i j hi1 hi2 hj1 hj2
    have hhi : s < hi := by
      rcases h2 with h2 | h2 <;> omega
    have h3 := hP.l3 s (by omega) (by omega)
    have h4 := h.high s (by omega) (by omega)
    have e1 : p - s = e - 1 := by omega
    rw [e1] at h3 h4
    have h5 : lt d[s]! d[e - 1]! = false := hS.asymmA h4
    exact hS.ntrans _ _ _ (hS.ntrans _ _ _ (wle hS hA (by omega) hj1 hj2) h5) (wle hS hB hi1 (by omega) (by omega))
theorem half_none {d : Array α} {a i b : Nat} (h1 : SortedIn lt a i d) (h2 : SortedIn lt i b d) (h : i ≤ a ∨ b ≤ i) : SortedIn lt a b d := by
  intro x y hx hxy hy
  rcases h with h | h
  · exact h2 x y (by omega) hxy hy
  · exact h1 x y hx hxy (by omega)
theorem sorted_out {d d1 : Array α} {a m e b : Nat} (h : SortedIn lt e b d) (h1 : PermIn a m d d1) (hm : m ≤ e) : SortedIn lt e b d1 := by
  intro i j hi hij hj
  rw [h1.2.1 i (.inr (by omega)), h1.2.1 j (.inr (by omega))]
  exact h i j hi hij hj
/-- both halves sorted, the first below the second -/
theorem merge_done {d d1 d2 d3 : Array α} {a mid b : Nat} (h1 : a ≤ mid) (h2 : mid ≤ b) (hb : b ≤ d.size) (hs : d1.size = d.size) (hp : PermIn a b d d1) (p2 : PermIn a mid d1 d2) (s2 : SortedIn lt a mid d2) (p3 : PermIn mid b d2 d3) (s3 : SortedIn lt mid b d3) (hl : LeR lt d1 a mid mid b) :
    PermIn a b d d3 ∧ SortedIn lt a b d3 := by
  have hs2 := p2.1
  refine ⟨permIn_trans _ _ _ _ _ hp (permIn_trans _ _ _ _ _ (permIn_mono _ _ _ _ _ _ (Nat.le_refl _) h2 (by omega) p2) (permIn_mono _ _ _ _ _ _ h1 (Nat.le_refl _) (by omega) p3)), ?_⟩
  exact sorted_join (sorted_perm s2 p3) s3 (le_perm hl h2 (by omega) h1 p2 p3)
theorem ins_right {d d' : Array α} {a i b : Nat} (hS : SWO lt) (hB : SortedIn lt (a + 1) b d) (h1 : ∀ x, a + 1 ≤ x → x < i → lt d[x]! d[a]! = true) (h2 : ∀ x, i ≤ x → x < b → lt d[x]! d[a]! = false) (hr : Rot d d' a (a + 1) i) (l1 : a + 1 ≤ i) (l2 : i ≤ b) : SortedIn lt a b d' := by
  have hA : SortedIn lt a (a + 1) d := sorted_none (by omega)
  refine sorted_join (m := a + (i - (a + 1))) (rot_b1 hr hB l2) (sorted_join (m := i) (rot_a2 hr hA (Nat.le_refl _) (by omega) l1) (rot_b2 hr hB (by omega) l1) ?_) ?_
  · intro x y hx1 hx2 hy1 hy2
    rw [hr.get2 (k := x) (by omega) hx2, hr.get3 (by omega) l1 (k := y) (by omega), show a + (x - (a + (i - (a + 1)))) = a by omega]
    exact h2 y hy1 hy2
  · refine rot_le hr hA hB (Nat.le_refl _) (by omega) l1 l2 hS (fun x y hx1 hx2 => by omega) ?_
    intro x y hx1 hx2 hy1 hy2
    rw [show y = a by omega]
    exact hS.asymmA (h1 x hx1 hx2)
theorem ins_left {d d' : Array α} {a i m : Nat} (hS : SWO lt) (hA : SortedIn lt a m d) (h1 : ∀ x, a ≤ x → x < i → lt d[m]! d[x]! = false) (h2 : ∀ x, i ≤ x → x < m → lt d[m]! d[x]! = true) (hr : Rot d d' i m (m + 1)) (l1 : a ≤ i) (l2 : i ≤ m) : SortedIn lt a (m + 1) d' := by
  have hB : SortedIn lt m (m + 1) d := sorted_none (by omega)
  refine sorted_join (m := i + (m + 1 - m)) (sorted_join (m := i) (rot_a1 hr hA l1 l2 (by omega)) (rot_b1 hr hB (Nat.le_refl _)) ?_) (rot_a2 hr hA l1 l2 (by omega)) ?_
  · intro x y hx1 hx2 hy1 hy2
    rw [hr.get1 (k := y) hy1 (by omega), hr.get3 l2 (by omega) (k := x) (by omega), show m + (y - i) = m by omega]
    exact h1 x hx1 hx2
  · refine rot_le hr hA hB l1 l2 (by omega) (Nat.le_refl _) hS (fun x y hx1 hx2 hy1 hy2 => by omega) ?_
    intro x y hx1 hx2 hy1 hy2
    rw [show x = m by omega]
    exact hS.asymmA (h2 y hy1 hy2)
/-- the two halves of a search for a place to the right -/
theorem seekR_up {d : Array α} {a m b h : Nat} (hS : SWO lt) (hB : SortedIn lt m b d) (h1 : h < b) (hl : lt d[h]! d[a]! = true) : ∀ x, m ≤ x → x < h + 1 → lt d[x]! d[a]! = true := by
  intro x hx1 hx2
  cases hx : lt d[x]! d[a]! with
  | true => rfl
  | false =>
    have := hS.ntrans _ _ _ (wle hS hB hx1 (show x ≤ h by omega) h1) hx
    rw [hl] at this; cases this
theorem seekR_down {d : Array α} {a m b h : Nat} (hS : SWO lt) (hB : SortedIn lt m b d) (h1 : m ≤ h) (hl : lt d[h]! d[a]! = false) : ∀ x, h ≤ x → x < b → lt d[x]! d[a]! = false :=
  fun x hx1 hx2 => hS.ntrans _ _ _ (wle hS hB h1 hx1 hx2) hl
theorem seekL_up {d : Array α} {a m h : Nat} (hS : SWO lt) (hA : SortedIn lt a m d) (h1 : h < m) (hl : lt d[m]! d[h]! = false) : ∀ x, a ≤ x → x < h + 1 → lt d[m]! d[x]! = false :=
  fun x hx1 hx2 => hS.ntrans _ _ _ hl (wle hS hA hx1 (show x ≤ h by omega) h1)
theorem seekL_down {d : Array α} {a m h : Nat} (hS : SWO lt) (hA : SortedIn lt a m d) (h1 : a ≤ h) (hl : lt d[m]! d[h]! = true) : ∀ x, h ≤ x → x < m → lt d[m]! d[x]! = true := by
  intro x hx1 hx2
  cases hx : lt d[m]! d[x]! with
  | true => rfl
  | false =>
    have := hS.ntrans _ _ _ hx (wle hS hA h1 hx1 hx2)
    rw [hl] at this; cases this
def Dist (d : Array α) : Prop := ∀ i j, i < d.size → j < d.size → d[i]! = d[j]! → i = j
theorem dist_nodup {d : Array α} : Dist d ↔ d.toList.Nodup := by
  constructor
  · intro h
    refine List.pairwise_iff_getElem.2 fun i j hi hj hij e => ?_
    have hi' : i < d.size := by simpa using hi
    have hj' : j < d.size := by simpa using hj
    have := h i j hi' hj' (by rw [getElem!_pos d i hi', getElem!_pos d j hj']; simpa using e)
    omega
  · intro h i j hi hj e
    rw [getElem!_pos d i hi, getElem!_pos d j hj] at e
    have hp := List.pairwise_iff_getElem.1 h
    rcases Nat.lt_trichotomy i j with h1 | h1 | h1
    · exact absurd (show d.toList[i]'(by simpa using hi) = d.toList[j]'(by simpa using hj) by rw [Array.getElem_toList, Array.getElem_toList]; exact e) (hp i j (by simpa using hi) (by simpa using hj) h1)
    · exact h1
    · exact absurd (show d.toList[j]'(by simpa using hj) = d.toList[i]'(by simpa using hi) by rw [Array.getElem_toList, Array.getElem_toList]; exact e.symm) (hp j i (by simpa using hj) (by simpa using hi) h1)
theorem perm_whole {d d' : Array α} {a b : Nat} (h : PermIn a b d d') (hb : b ≤ d.size) : d'.toList.Perm d.toList := by
  by_cases hab : a ≤ b
  · have h1 := permIn_mono d d' a b 0 d.size (Nat.zero_le _) hb (Nat.le_refl _) h
    have e1 : d'.extract 0 d.size = d' := by rw [← h1.1]; simp
    have e2 : d.extract 0 d.size = d := by simp
    have := h1.2.2
    rw [e1, e2] at this; exact this
  · have : d' = d := by
      apply Array.ext
      · exact h.1
      · intro i h1 h2
        have := h.2.1 i (by omega)
        rwa [getElem!_pos d' i h1, getElem!_pos d i h2] at this
    rw [this]
theorem dist_perm {d d' : Array α} {a b : Nat} (h : PermIn a b d d') (hb : b ≤ d.size) (hd : Dist d) : Dist d' := dist_nodup.2 ((perm_whole h hb).nodup_iff.2 (dist_nodup.1 hd))
theorem dist_swp {d : Array α} {i j : Nat} (hi : i < d.size) (hj : j < d.size) (hd : Dist d) : Dist (swp d i j) := dist_perm (swp_permIn d 0 d.size i j (Nat.zero_le _) hi (Nat.zero_le _) hj (Nat.le_refl _)) (Nat.le_refl _) hd
theorem insInner_congr {l1 l2 : α → α → Bool} (h : ∀ x y, x ≠ y → l1 x y = l2 x y) {a : Nat} : ∀ (j : Nat) (d : Array α), j < d.size → Dist d → insInner l1 a j d = insInner l2 a j d ∧ Dist (insInner l2 a j d) ∧ (insInner l2 a j d).size = d.size
  | 0, d, _, hd => ⟨rfl, hd, rfl⟩
  | j + 1, d, hj, hd => by
    have hne : d[j + 1]! ≠ d[j]! := fun e => by have := hd (j + 1) j hj (by omega) e; omega
    unfold insInner
    rw [h _ _ hne]
    by_cases hc : (decide (j + 1 > a) && l2 d[j + 1]! d[j]!) = true
    · rw [if_pos hc, if_pos hc]
      obtain ⟨h1, h2, h3⟩ := insInner_congr h j (swp d (j + 1) j) (by rw [swp_size]; omega) (dist_swp hj (by omega) hd)
      exact ⟨h1, h2, by rw [h3, swp_size]⟩
    · rw [if_neg hc, if_neg hc]; exact ⟨rfl, hd, rfl⟩
theorem insOuter_congr {l1 l2 : α → α → Bool} (h : ∀ x y, x ≠ y → l1 x y = l2 x y) {a b : Nat} : ∀ (n i : Nat) (d : Array α), b - i ≤ n → b ≤ d.size → Dist d → insOuter l1 a b i d = insOuter l2 a b i d := by
  intro n
  induction n with
  | zero =>
    intro i d hn hb hd
    unfold insOuter
    rw [if_neg (by omega), if_neg (by omega)]
  | succ n ih =>
    intro i d hn hb hd
    unfold insOuter
    by_cases hi : i < b
    · rw [if_pos hi, if_pos hi]
      obtain ⟨h1, h2, h3⟩ := insInner_congr h (a := a) i d (by omega) hd
      rw [h1]
      exact ih (i + 1) _ (by omega) (by omega) h2
    · rw [if_neg hi, if_neg hi]
theorem insertionSort_congr {l1 l2 : α → α → Bool} (h : ∀ x y, x ≠ y → l1 x y = l2 x y) {d : Array α} {a b : Nat} (hb : b ≤ d.size) (hd : Dist d) : insertionSort l1 d a b = insertionSort l2 d a b := insOuter_congr h b (a + 1) d (by omega) hb hd
end Go.Stab

namespace Go.Proofs.YtagdccgbcmnehaaGreat
open Go.RowKit Go.Tok Go.Sort Go.Stab Go.Lib
set_option linter.unusedVariables false
variable {α : Type} [Inhabited α]
theorem mixedStab : Tryz.prog.follows .mixedOrders = true := by kernel_rfl

set_option maxRecDepth 100000 in
set_option maxHeartbeats 4000000 in
theorem swapRange_calls (enc : α → Value) (blk off cap p q n : Nat) (d0 d : Array α) (w0 w : World) (u : Value) (R : Row1 enc w0 blk off d0) (hs : d0.size = d.size) (S : SW enc w0 blk off d w) (hpq : p + n ≤ q) (hq : q + n ≤ d.size) (hsz : d.size < 4611686018427387904) :
    Calls Tryz.prog 220 #[.slice (some ⟨blk, off, none⟩) d.size cap, .int .i64 p, .int .i64 q, .int .i64 n, u] w fun e w' => e = .returned (.tuple #[]) ∧ ∃ d', SW enc w0 blk off d' w' ∧ SwR d d' p q n ∧ PermIn p (q + n) d d' := by
  have hcl0 := R.hO.cells
  simp only [Value.cells] at hcl0
  have hst := R.hO.store Tryz.prog
  have mixed := mixedStab
  have S0 : Aside (SW enc w0 blk off d w) := S
  clear S
  go_enter Tryz.func220, Tryz.ntmps220
  go_wp2_with fail
  go_loopw [10] (fun vi wr => ∃ (t : Nat) (dk : Array α), vi = .int .i64 t ∧ t ≤ n ∧ dk.size = d.size ∧ Aside (SW enc w0 blk off dk wr) ∧ Hid (SwR d dk p q t ∧ PermIn p (q + n) d dk)) (fun i _ => n - (intOf i).toNat)
  case atStart => exact ⟨0, d, rfl, Nat.zero_le _, rfl, S0, Lib.hid ⟨SwR.zero d p q, permIn_refl d _ _⟩⟩
  case round =>
    clear S0
    obtain ⟨t, dk, rfl, ht, hsk, S1, HP⟩ := hrel
    by_cases hlt : t < n
    · have hltz : (t : Int) < (n : Int) := by omega
      have HN : Hid (SwR d (swp dk (p + t) (q + t)) p q (t + 1) ∧ PermIn p (q + n) d (swp dk (p + t) (q + t))) := Lib.hid ⟨HP.out.1.succ hlt hpq hq, permIn_trans _ _ _ _ _ HP.out.2 (swp_permIn dk p (q + n) (p + t) (q + t) (by omega) (by omega) (by omega) (by omega) (by omega))⟩
      obtain ⟨iN, hiN⟩ : ∃ x, x = p + t := ⟨_, rfl⟩
      obtain ⟨jN, hjN⟩ : ∃ x, x = q + t := ⟨_, rfl⟩
      have ea : ((p : Int) + (t : Int)).toNat = iN := by omega
      have pa : (0 : Int) ≤ (p : Int) + (t : Int) := by omega
      have ba : (p : Int) + (t : Int) < (d.size : Int) := by omega
      have ra : IntKind.i64.wrap ((p : Int) + (t : Int)) = (p : Int) + (t : Int) := by rw [IntKind.wrap_i64]; omega
      have ec : ((q : Int) + (t : Int)).toNat = jN := by omega
      have pc : (0 : Int) ≤ (q : Int) + (t : Int) := by omega
      have bc : (q : Int) + (t : Int) < (d.size : Int) := by omega
      have rc : IntKind.i64.wrap ((q : Int) + (t : Int)) = (q : Int) + (t : Int) := by rw [IntKind.wrap_i64]; omega
      obtain ⟨x1, hx1⟩ : ∃ x, x = dk[p + t]! := ⟨_, rfl⟩
      obtain ⟨y1, hy1⟩ : ∃ x, x = dk[q + t]! := ⟨_, rfl⟩
      have S3 : Aside (SW enc w0 blk off (swp dk (p + t) (q + t)) ((wr.setCell ⟨blk, off + iN, none⟩ (enc y1)).setCell ⟨blk, off + jN, none⟩ (enc x1)).drew) := by rw [hiN, hjN, hx1, hy1]; exact S1.out.swapped R (p + t) (q + t) (by omega) (by omega)
      have c1a := S1.out.c1 R (by omega) (p + t) (by omega)
      have c1b := S1.out.c1 R (by omega) (q + t) (by omega)
      have f1a := S1.out.f1 R (by omega) (p + t) (by omega)
      have f1b := S1.out.f1 R (by omega) (q + t) (by omega)
      obtain ⟨u1, c1c⟩ := S1.out.c2 R (by omega) (p + t) (q + t) (by omega) (by omega) (enc y1)
      rw [← hjN, ← hiN] at c1c
      rw [← hx1, ← hiN] at c1a
      rw [← hy1, ← hjN] at c1b
      rw [← hiN] at f1a
      rw [← hjN] at f1b
      clear S1 hx1 hy1 hiN hjN
      go_wp2_with fail
      go_big_region_o
      clear c1a c1b c1c f1a f1b
      generalize ((wr.setCell ⟨blk, off + iN, none⟩ (enc y1)).setCell ⟨blk, off + jN, none⟩ (enc x1)).drew = w3 at S3 ⊢
      clear ea ec pa ba ra pc bc rc
      go_wp2_with fail
      go_roundw
      case rel => exact ⟨t + 1, _, by go_num, by omega, by rw [size_swp]; exact hsk, S3, HN⟩
      case measure => simp [intOf]; omega
    · obtain rfl : t = n := by omega
      go_wp2_with fail
      go_end0
      exact ⟨rfl, dk, S1.out, HP.out.1, HP.out.2⟩
set_option maxRecDepth 100000 in
set_option maxHeartbeats 4000000 in
theorem rotate_calls (enc : α → Value) (blk off cap a m b : Nat) (d0 d : Array α) (w0 w : World) (u : Value) (R : Row1 enc w0 blk off d0) (hs : d0.size = d.size) (S : SW enc w0 blk off d w) (ham : a < m) (hmb : m < b) (hb : b ≤ d.size) (hsz : d.size < 4611686018427387904) :
    Calls Tryz.prog 217 #[.slice (some ⟨blk, off, none⟩) d.size cap, .int .i64 a, .int .i64 m, .int .i64 b, u] w fun e w' => e = .returned (.tuple #[]) ∧ ∃ d', SW enc w0 blk off d' w' ∧ Rot d d' a m b ∧ PermIn a b d d' := by
  have S0 : Aside (SW enc w0 blk off d w) := S
  clear S
  have HB := Lib.hid hb
  have R1 : IntKind.i64.wrap ((m : Int) - (a : Int)) = ((m - a : Nat) : Int) := by rw [IntKind.wrap_i64]; omega
  have R2 : IntKind.i64.wrap ((b : Int) - (m : Int)) = ((b - m : Nat) : Int) := by rw [IntKind.wrap_i64]; omega
  have R3 : (m : Int) - (a : Int) = ((m - a : Nat) : Int) := by omega
  have R4 : (b : Int) - (m : Int) = ((b - m : Nat) : Int) := by omega
  go_enter Tryz.func217, Tryz.ntmps217
  go_wp2_with fail
  clear R1 R2 R3 R4
  go_loopw [10, 11] (fun vi vj wr => ∃ (i j : Nat) (dk : Array α), vi = .int .i64 i ∧ vj = .int .i64 j ∧ 0 < i ∧ 0 < j ∧ i ≤ m ∧ m + j ≤ d.size ∧ dk.size = d.size ∧ Aside (SW enc w0 blk off dk wr) ∧ Hid (∀ d', Rot dk d' (m - i) m (m + j) → PermIn (m - i) (m + j) dk d' → Rot d d' a m b ∧ PermIn a b d d')) (fun vi vj _ => (intOf vi).toNat + (intOf vj).toNat)
  case atStart => exact ⟨m - a, b - m, d, rfl, rfl, by omega, by omega, by omega, by omega, rfl, S0, Lib.hid fun d' h1 h2 => by
      rw [show m - (m - a) = a by omega, show m + (b - m) = b by omega] at h1 h2
      exact ⟨h1, h2⟩⟩
  case round =>
    clear S0
    obtain ⟨i, j, dk, rfl, rfl, hi0, hj0, him, hjd, hsk, S1, HP⟩ := hrel
    obtain ⟨lo, hlo⟩ : ∃ lo, lo + i = m := ⟨m - i, by omega⟩
    have HLO := Lib.hid hlo
    have r1 : IntKind.i64.wrap ((m : Int) - (i : Int)) = (lo : Int) := by rw [IntKind.wrap_i64]; omega
    have r1' : (m : Int) - (i : Int) = (lo : Int) := by omega
    have e1 : m - i = lo := by omega
    rcases Nat.lt_trichotomy i j with hij | hij | hij
    · have q1 : ((i : Int) != (j : Int)) = true := by simp; omega
      have q2 : decide ((j : Int) < (i : Int)) = false := by simp; omega
      have q3 : ¬ (j : Int) < (i : Int) := by omega
      obtain ⟨hp, hhp⟩ : ∃ x, x = m + j - i := ⟨_, rfl⟩
      obtain ⟨mj, hmj⟩ : ∃ x, x = m + j := ⟨_, rfl⟩
      have r2 : IntKind.i64.wrap ((m : Int) + (j : Int)) = (mj : Int) := by rw [IntKind.wrap_i64]; omega
      have r3 : IntKind.i64.wrap ((mj : Int) - (i : Int)) = (hp : Int) := by rw [IntKind.wrap_i64]; omega
      have r4 : IntKind.i64.wrap ((j : Int) - (i : Int)) = ((j - i : Nat) : Int) := by rw [IntKind.wrap_i64]; omega
      have r2' : (m : Int) + (j : Int) = (mj : Int) := by omega
      have r3' : (mj : Int) - (i : Int) = (hp : Int) := by omega
      have r4' : (j : Int) - (i : Int) = ((j - i : Nat) : Int) := by omega
      have HC := Lib.hid (fun W u (S : SW enc w0 blk off dk W) => swapRange_calls enc blk off cap lo hp i d0 dk w0 W u R (by omega) S (by omega) (by omega) (by omega))
      rw [hsk] at HC
      have HHP := Lib.hid hhp
      clear hlo hhp hmj
      go_wp2_with (go_at_call 220; go_loud (refine (HC.out _ _ S1.out).mono ?_; rintro _ w2 ⟨rfl, d2, S2, h1, h2⟩))
      have hsz2 := h2.1
      go_roundw
      case rel =>
        refine ⟨i, j - i, d2, rfl, rfl, hi0, by omega, him, by omega, by omega, S2, Lib.hid fun d' h3 h4 => ?_⟩
        have hlo := HLO.out
        have hhp := HHP.out
        rw [hhp] at h1 h2
        rw [e1] at h3 h4
        have h5 := HP.out d'
        rw [e1] at h5
        have key := Rot.right (d := dk) (d1 := d2) (d' := d') (m := m) (i := i) (j := j)
        rw [e1] at key
        refine h5 (key h1 h3 him hij) (permIn_trans _ _ _ _ _ (permIn_mono _ _ _ _ _ _ (Nat.le_refl _) (by omega) (by omega) h2) (permIn_mono _ _ _ _ _ _ (Nat.le_refl _) (by omega) (by omega) h4))
      case measure => simp [intOf]; omega
    · have q1 : ((i : Int) != (j : Int)) = false := by simp; omega
      have HC := Lib.hid (fun W u (S : SW enc w0 blk off dk W) => swapRange_calls enc blk off cap lo m i d0 dk w0 W u R (by omega) S (by omega) (by omega) (by omega))
      rw [hsk] at HC
      have HIJ := Lib.hid hij
      clear hlo hij
      go_wp2_with (go_at_call 220; go_loud (refine (HC.out _ _ S1.out).mono ?_; rintro _ w2 ⟨rfl, d2, S2, h1, h2⟩))
      go_end0
      have hij := HIJ.out
      subst hij
      have h5 := HP.out d2
      rw [e1] at h5
      have key := Rot.same (d := dk) (d' := d2) (m := m) (i := i)
      rw [e1] at key
      exact ⟨rfl, d2, S2, h5 (key h1 him) h2⟩
    · have q1 : ((i : Int) != (j : Int)) = true := by simp; omega
      have q2 : decide ((j : Int) < (i : Int)) = true := by simp; omega
      have q3 : (j : Int) < (i : Int) := by omega
      have r4 : IntKind.i64.wrap ((i : Int) - (j : Int)) = ((i - j : Nat) : Int) := by rw [IntKind.wrap_i64]; omega
      have r4' : (i : Int) - (j : Int) = ((i - j : Nat) : Int) := by omega
      have HC := Lib.hid (fun W u (S : SW enc w0 blk off dk W) => swapRange_calls enc blk off cap lo m j d0 dk w0 W u R (by omega) S (by omega) (by omega) (by omega))
      rw [hsk] at HC
      clear hlo
      go_wp2_with (go_at_call 220; go_loud (refine (HC.out _ _ S1.out).mono ?_; rintro _ w2 ⟨rfl, d2, S2, h1, h2⟩))
      have hsz2 := h2.1
      go_roundw
      case rel =>
        refine ⟨i - j, j, d2, rfl, rfl, by omega, hj0, by omega, hjd, by omega, S2, Lib.hid fun d' h3 h4 => ?_⟩
        have hlo := HLO.out
        have h5 := HP.out d'
        rw [e1] at h5
        have key := Rot.left (d := dk) (d1 := d2) (d' := d') (m := m) (i := i) (j := j)
        rw [e1] at key
        refine h5 (key h1 h3 him hij) (permIn_trans _ _ _ _ _ h2 (permIn_mono _ _ _ _ _ _ (by omega) (Nat.le_refl _) (by omega) h4))
      case measure => simp [intOf]; omega
end Go.Proofs.YtagdccgbcmnehaaGreat

namespace Go.Proofs.YtagdccgbcmnehaaGreat
open Go.RowKit Go.Tok Go.Sort Go.Stab Go.Lib
set_option linter.unusedVariables false
variable {α : Type} [Inhabited α]
/-- what is told of the row and of the order -/
structure StabX (enc : α → Value) (cf : α → α → Int) (lt : α → α → Bool) (g : Nat) (cb : Array Value) (blk off : Nat) (d0 : Array α) (w0 : World) : Prop where
  eg : ∀ args w, (callFunc g args).run Tryz.prog w = .ok (.enter g args) w
  hcmp : CmpLays1 Tryz.prog g cb enc cf blk off d0.size w0
  R : Row1 enc w0 blk off d0
  hO : SWO lt
  hsz : d0.size < 4611686018427387904
  agree : ∀ x y, x ≠ y → ltOf cf x y = lt x y
theorem wrap_in {i : Nat} (h : i < 9223372036854775808) : IntKind.i64.wrap (i : Int) = (i : Int) := by rw [IntKind.wrap_i64]; omega
theorem wrap_add {i j : Nat} (h : i + j < 9223372036854775808) : IntKind.i64.wrap ((i : Int) + (j : Int)) = ((i + j : Nat) : Int) := by rw [IntKind.wrap_i64]; omega
set_option maxRecDepth 100000 in
set_option maxHeartbeats 4000000 in
theorem symMerge1_calls (enc : α → Value) (cf : α → α → Int) (lt : α → α → Bool) (g : Nat) (cb : Array Value) (blk off cap : Nat) (d0 : Array α) (w0 : World) (X : StabX enc cf lt g cb blk off d0 w0)
    (a b : Nat) (d : Array α) (w : World) (hs : d0.size = d.size) (S : SW enc w0 blk off d w) (hmb : a + 1 < b) (hb : b ≤ d.size) (hB : SortedIn lt (a + 1) b d) (hD : Dist d) :
    Calls Tryz.prog 210 #[.slice (some ⟨blk, off, none⟩) d.size cap, .int .i64 a, .int .i64 ((a + 1 : Nat) : Int), .int .i64 b, .func (.func g) #[] cb] w fun e w' => e = .returned (.tuple #[]) ∧ ∃ d', SW enc w0 blk off d' w' ∧ PermIn a b d d' ∧ SortedIn lt a b d' := by
  obtain ⟨eg, hcmp, R, hO, hsz, hag⟩ := X
  have HAG := Lib.hid hag
  have HD := Lib.hid hD
  clear hag hD
  have HC : Aside _ := hcmp
  have HO := Lib.hid hO
  have HBS := Lib.hid hB
  have S0 : Aside (SW enc w0 blk off d w) := S
  clear S hcmp hO hB
  obtain ⟨m, hm⟩ : ∃ m, m = a + 1 := ⟨_, rfl⟩
  rw [← hm] at HBS ⊢
  have q1 : IntKind.i64.wrap ((m : Int) - (a : Int)) = 1 := by rw [IntKind.wrap_i64]; omega
  have q1' : (m : Int) - (a : Int) = 1 := by omega
  have HM := Lib.hid hm
  have hmb' : m < b := by omega
  have ham' : a < m := by omega
  clear hm
  have hcl0 := R.hO.cells
  simp only [Value.cells] at hcl0
  have hst := R.hO.store Tryz.prog
  have mixed := mixedStab
  go_enter Tryz.func210, Tryz.ntmps210
  go_wp2_with fail
  go_loopw [10, 11] (fun vi vj wr => ∃ (i j : Nat), vi = .int .i64 i ∧ vj = .int .i64 j ∧ m ≤ i ∧ i ≤ j ∧ j ≤ b ∧ Aside (SW enc w0 blk off d wr) ∧ Hid ((∀ x, m ≤ x → x < i → lt d[x]! d[a]! = true) ∧ ∀ x, j ≤ x → x < b → lt d[x]! d[a]! = false)) (fun vi vj _ => (intOf vj).toNat - (intOf vi).toNat)
  case atStart => exact ⟨m, b, rfl, rfl, Nat.le_refl _, by omega, Nat.le_refl _, S0, Lib.hid ⟨fun x h1 h2 => by omega, fun x h1 h2 => by omega⟩⟩
  case round =>
    clear S0
    obtain ⟨i, j, rfl, rfl, hmi, hij, hjb, S1, HP⟩ := hrel
    by_cases hlt : i < j
    · have hltz : (i : Int) < (j : Int) := by omega
      obtain ⟨ij, hij2⟩ : ∃ x, x = i + j := ⟨_, rfl⟩
      obtain ⟨h, hh⟩ : ∃ h, h = (i + j) / 2 := ⟨_, rfl⟩
      have hih : i ≤ h := by omega
      have hhj : h < j := by omega
      obtain ⟨hN, hhN⟩ : ∃ q, q = h := ⟨_, rfl⟩
      obtain ⟨aN, haN⟩ : ∃ q, q = a := ⟨_, rfl⟩
      have ea : ((h : Int)).toNat = hN := by omega
      have pa : (0 : Int) ≤ (h : Int) := by omega
      have ba : (h : Int) < (d.size : Int) := by omega
      have ec : ((a : Int)).toNat = aN := by omega
      have pc : (0 : Int) ≤ (a : Int) := by omega
      have bc : (a : Int) < (d.size : Int) := by omega
      obtain ⟨x1, hx1⟩ : ∃ x, x = d[h]! := ⟨_, rfl⟩
      obtain ⟨y1, hy1⟩ : ∃ x, x = d[a]! := ⟨_, rfl⟩
      have l1a := S1.out.cl R (by omega) h (by omega)
      have l1b := S1.out.cl R (by omega) a (by omega)
      rw [← hx1, ← hhN] at l1a
      rw [← hy1, ← haN] at l1b
      have hc := S1.out.cmp HC.out (by omega) x1 y1
      have hne : d[h]! ≠ d[a]! := fun e => by have := HD.out h a (by omega) (by omega) e; omega
      have hagr := HAG.out _ _ hne
      clear hne
      cases hlv : ltOf cf d[h]! d[a]! with
      | true =>
        have hv : cf x1 y1 < 0 := by rw [hx1, hy1]; exact of_decide_eq_true hlv
        have hd : decide (cf x1 y1 < 0) = true := decide_eq_true hv
        rw [hagr] at hlv
        have HN := Lib.hid (seekR_up HO.out HBS.out (show h < b by omega) hlv)
        clear hx1 hy1 hhN haN hlv hagr
        have r6 : wrap64 (IntKind.u64.wrap (ij : Int) / 2) = (h : Int) := by rw [IntKind.wrap_u64]; unfold wrap64; omega
        have r2 := wrap_in (show ij < 9223372036854775808 by clear r6; omega)
        have r1 := wrap_add (show i + j < 9223372036854775808 by clear r6 r2; omega)
        rw [← hij2] at r1
        clear hij2 hh
        go_wp2_with fail
        go_quiet_grown (first | (go_at_fn g; refine Calls.grown_of (hc _ _)))
        have S2 : Aside (SW enc w0 blk off d (grow (wr.drewN nq) osq)) := S1.out.grown nq osq
        clear l1a l1b hc S1
        generalize grow (wr.drewN nq) osq = w2 at S2 ⊢
        clear nq osq ea ec pa ba pc bc r1 r2 r6
        go_wp2_with fail
        go_roundw
        case rel => exact ⟨h + 1, j, by go_num, rfl, by omega, by omega, hjb, S2, Lib.hid ⟨HN.out, HP.out.2⟩⟩
        case measure => simp [intOf]; omega
      | false =>
        have hv : ¬ cf x1 y1 < 0 := by rw [hx1, hy1]; exact of_decide_eq_false hlv
        have hd : decide (cf x1 y1 < 0) = false := decide_eq_false hv
        rw [hagr] at hlv
        have HN := Lib.hid (seekR_down HO.out HBS.out (show m ≤ h by omega) hlv)
        clear hx1 hy1 hhN haN hlv hagr
        have r6 : wrap64 (IntKind.u64.wrap (ij : Int) / 2) = (h : Int) := by rw [IntKind.wrap_u64]; unfold wrap64; omega
        have r2 := wrap_in (show ij < 9223372036854775808 by clear r6; omega)
        have r1 := wrap_add (show i + j < 9223372036854775808 by clear r6 r2; omega)
        rw [← hij2] at r1
        clear hij2 hh
        go_wp2_with fail
        go_quiet_grown (first | (go_at_fn g; refine Calls.grown_of (hc _ _)))
        have S2 : Aside (SW enc w0 blk off d (grow (wr.drewN nq) osq)) := S1.out.grown nq osq
        clear l1a l1b hc S1
        generalize grow (wr.drewN nq) osq = w2 at S2 ⊢
        clear nq osq ea ec pa ba pc bc r1 r2 r6
        go_wp2_with fail
        go_roundw
        case rel => exact ⟨i, h, rfl, rfl, hmi, hih, by omega, S2, Lib.hid ⟨HP.out.1, HN.out⟩⟩
        case measure => simp [intOf]; omega
    · have hie : i = j := by omega
      have HIE := Lib.hid hie
      have hltz : ¬ (i : Int) < (j : Int) := by omega
      have hib : i ≤ b := by omega
      clear hie hij hjb
      obtain ⟨ip, hip⟩ : ∃ q, q + 1 = i := ⟨i - 1, by omega⟩
      have r1 : IntKind.i64.wrap ((i : Int) - 1) = (ip : Int) := by rw [IntKind.wrap_i64]; omega
      have r2 : (i : Int) - 1 = (ip : Int) := by omega
      have hap : a ≤ ip := by omega
      have HIP := Lib.hid hip
      have hipb : ip < b := by omega
      clear hip hlt
      go_wp2_with fail
      go_loopw [13] (fun vk wr => ∃ (k : Nat) (dk : Array α), vk = .int .i64 k ∧ a ≤ k ∧ k ≤ ip ∧ dk.size = d.size ∧ Aside (SW enc w0 blk off dk wr) ∧ Hid (Rot d dk a m (k + 1) ∧ PermIn a b d dk)) (fun vk _ => ip - (intOf vk).toNat)
      case atStart => exact ⟨a, d, rfl, Nat.le_refl _, hap, rfl, S1, Lib.hid ⟨by rw [HM.out]; exact Rot.none d (.inr rfl) (by omega) (Nat.le_refl _), permIn_refl d _ _⟩⟩
      case round =>
        rename World => wk
        obtain ⟨k, dk, rfl, hak, hki, hsk, S3, HR⟩ := hrel
        clear S1
        by_cases hk : k < ip
        · have hkz : (k : Int) < (ip : Int) := by omega
          have HN : Hid (Rot d (swp dk k (k + 1)) a m (k + 1 + 1) ∧ PermIn a b d (swp dk k (k + 1))) := Lib.hid ⟨by have := HR.out.1; rw [HM.out] at this ⊢; exact this.push hak (by omega), permIn_trans _ _ _ _ _ HR.out.2 (swp_permIn dk a b k (k + 1) (by omega) (by omega) (by omega) (by omega) (by omega))⟩
          obtain ⟨iN, hiN⟩ : ∃ x, x = k := ⟨_, rfl⟩
          obtain ⟨jN, hjN⟩ : ∃ x, x = k + 1 := ⟨_, rfl⟩
          have ea : ((k : Int)).toNat = iN := by omega
          have pa : (0 : Int) ≤ (k : Int) := by omega
          have ba : (k : Int) < (d.size : Int) := by omega
          have ec : ((k : Int) + 1).toNat = jN := by omega
          have pc : (0 : Int) ≤ (k : Int) + 1 := by omega
          have bc : (k : Int) + 1 < (d.size : Int) := by omega
          have rc : IntKind.i64.wrap ((k : Int) + 1) = (k : Int) + 1 := by rw [IntKind.wrap_i64]; omega
          obtain ⟨x1, hx1⟩ : ∃ x, x = dk[k]! := ⟨_, rfl⟩
          obtain ⟨y1, hy1⟩ : ∃ x, x = dk[k + 1]! := ⟨_, rfl⟩
          have S4 : Aside (SW enc w0 blk off (swp dk k (k + 1)) ((wk.setCell ⟨blk, off + iN, none⟩ (enc y1)).setCell ⟨blk, off + jN, none⟩ (enc x1)).drew) := by rw [hiN, hjN, hx1, hy1]; exact S3.out.swapped R k (k + 1) (by omega) (by omega)
          have c1a := S3.out.c1 R (by omega) k (by omega)
          have c1b := S3.out.c1 R (by omega) (k + 1) (by omega)
          have f1a := S3.out.f1 R (by omega) k (by omega)
          have f1b := S3.out.f1 R (by omega) (k + 1) (by omega)
          obtain ⟨u1, c1c⟩ := S3.out.c2 R (by omega) k (k + 1) (by omega) (by omega) (enc y1)
          rw [← hjN, ← hiN] at c1c
          rw [← hx1, ← hiN] at c1a
          rw [← hy1, ← hjN] at c1b
          rw [← hiN] at f1a
          rw [← hjN] at f1b
          clear S3 hx1 hy1 hiN hjN
          go_wp2_with fail
          go_big_region_o
          clear c1a c1b c1c f1a f1b
          generalize ((wk.setCell ⟨blk, off + iN, none⟩ (enc y1)).setCell ⟨blk, off + jN, none⟩ (enc x1)).drew = w3 at S4 ⊢
          clear ea ec pa ba pc bc rc
          go_wp2_with fail
          go_roundw
          case rel => exact ⟨k + 1, _, by go_num, by omega, by omega, by rw [size_swp]; exact hsk, S4, HN⟩
          case measure => simp [intOf]; omega
        · obtain rfl : k = ip := by omega
          go_wp2_with fail
          refine bodyPost_ret (results_none rfl _ _ _) rfl ?_
          refine ⟨rfl, dk, S3.out, HR.out.2, ?_⟩
          have hr := HR.out.1
          have hB := HBS.out
          have hp := HP.out
          rw [← HIE.out] at hp
          rw [HIP.out] at hr
          rw [HM.out] at hr hB hp
          exact ins_right HO.out hB hp.1 hp.2 hr (by have := HM.out; omega) hib
end Go.Proofs.YtagdccgbcmnehaaGreat

namespace Go.Proofs.YtagdccgbcmnehaaGreat
open Go.RowKit Go.Tok Go.Sort Go.Stab Go.Lib
set_option linter.unusedVariables false
variable {α : Type} [Inhabited α]
set_option maxRecDepth 100000 in
set_option maxHeartbeats 4000000 in
theorem symMerge2_calls (enc : α → Value) (cf : α → α → Int) (lt : α → α → Bool) (g : Nat) (cb : Array Value) (blk off cap : Nat) (d0 : Array α) (w0 : World) (X : StabX enc cf lt g cb blk off d0 w0)
    (a m : Nat) (d : Array α) (w : World) (hs : d0.size = d.size) (S : SW enc w0 blk off d w) (ham : a + 1 < m) (hb : m + 1 ≤ d.size) (hA : SortedIn lt a m d) (hD : Dist d) :
    Calls Tryz.prog 210 #[.slice (some ⟨blk, off, none⟩) d.size cap, .int .i64 a, .int .i64 m, .int .i64 ((m + 1 : Nat) : Int), .func (.func g) #[] cb] w fun e w' => e = .returned (.tuple #[]) ∧ ∃ d', SW enc w0 blk off d' w' ∧ PermIn a (m + 1) d d' ∧ SortedIn lt a (m + 1) d' := by
  obtain ⟨eg, hcmp, R, hO, hsz, hag⟩ := X
  have HAG := Lib.hid hag
  have HD := Lib.hid hD
  clear hag hD
  have HC : Aside _ := hcmp
  have HO := Lib.hid hO
  have HAS := Lib.hid hA
  have S0 : Aside (SW enc w0 blk off d w) := S
  clear S hcmp hO hA
  obtain ⟨b, hm⟩ : ∃ b, b = m + 1 := ⟨_, rfl⟩
  rw [← hm] at hb ⊢
  obtain ⟨ma, hma⟩ : ∃ x, x = m - a := ⟨_, rfl⟩
  have q1 : IntKind.i64.wrap ((m : Int) - (a : Int)) = (ma : Int) := by rw [IntKind.wrap_i64]; omega
  have q1' : (m : Int) - (a : Int) = (ma : Int) := by omega
  have q2 : ((ma : Int) == 1) = false := by simp; omega
  have q2' : ¬ (ma : Int) = 1 := by omega
  have q3 : IntKind.i64.wrap ((b : Int) - (m : Int)) = 1 := by rw [IntKind.wrap_i64]; omega
  have q3' : (b : Int) - (m : Int) = 1 := by omega
  have q4 := wrap_in (show ma < 9223372036854775808 by clear q1 q3; omega)
  have HM := Lib.hid hm
  have ham' : a < m := by omega
  have hmd : m < d.size := by omega
  clear hm hma
  have hcl0 := R.hO.cells
  simp only [Value.cells] at hcl0
  have hst := R.hO.store Tryz.prog
  have mixed := mixedStab
  go_enter Tryz.func210, Tryz.ntmps210
  go_wp2_with fail
  clear q1 q1' q2 q2' q3 q3' q4
  go_loopw [14, 15] (fun vi vj wr => ∃ (i j : Nat), vi = .int .i64 i ∧ vj = .int .i64 j ∧ a ≤ i ∧ i ≤ j ∧ j ≤ m ∧ Aside (SW enc w0 blk off d wr) ∧ Hid ((∀ x, a ≤ x → x < i → lt d[m]! d[x]! = false) ∧ ∀ x, j ≤ x → x < m → lt d[m]! d[x]! = true)) (fun vi vj _ => (intOf vj).toNat - (intOf vi).toNat)
  case atStart => exact ⟨a, m, rfl, rfl, Nat.le_refl _, by omega, Nat.le_refl _, S0, Lib.hid ⟨fun x h1 h2 => by omega, fun x h1 h2 => by omega⟩⟩
  case round =>
    clear S0
    obtain ⟨i, j, rfl, rfl, hmi, hij, hjb, S1, HP⟩ := hrel
    by_cases hlt : i < j
    · have hltz : (i : Int) < (j : Int) := by omega
      obtain ⟨ij, hij2⟩ : ∃ x, x = i + j := ⟨_, rfl⟩
      obtain ⟨h, hh⟩ : ∃ h, h = (i + j) / 2 := ⟨_, rfl⟩
      have hih : i ≤ h := by omega
      have hhj : h < j := by omega
      obtain ⟨hN, hhN⟩ : ∃ q, q = h := ⟨_, rfl⟩
      obtain ⟨aN, haN⟩ : ∃ q, q = m := ⟨_, rfl⟩
      have ea : ((h : Int)).toNat = hN := by omega
      have pa : (0 : Int) ≤ (h : Int) := by omega
      have ba : (h : Int) < (d.size : Int) := by omega
      have ec : ((m : Int)).toNat = aN := by omega
      have pc : (0 : Int) ≤ (m : Int) := by omega
      have bc : (m : Int) < (d.size : Int) := by omega
      obtain ⟨x1, hx1⟩ : ∃ x, x = d[h]! := ⟨_, rfl⟩
      obtain ⟨y1, hy1⟩ : ∃ x, x = d[m]! := ⟨_, rfl⟩
      have l1a := S1.out.cl R (by omega) h (by omega)
      have l1b := S1.out.cl R (by omega) m (by omega)
      rw [← hx1, ← hhN] at l1a
      rw [← hy1, ← haN] at l1b
      have hc := S1.out.cmp HC.out (by omega) y1 x1
      have hne : d[m]! ≠ d[h]! := fun e => by have := HD.out m h (by omega) (by omega) e; omega
      have hagr := HAG.out _ _ hne
      clear hne
      cases hlv : ltOf cf d[m]! d[h]! with
      | true =>
        have hv : cf y1 x1 < 0 := by rw [hx1, hy1]; exact of_decide_eq_true hlv
        have hd : decide (cf y1 x1 < 0) = true := decide_eq_true hv
        rw [hagr] at hlv
        have HN := Lib.hid (seekL_down HO.out HAS.out (show a ≤ h by omega) hlv)
        clear hx1 hy1 hhN haN hlv hagr
        have r6 : wrap64 (IntKind.u64.wrap (ij : Int) / 2) = (h : Int) := by rw [IntKind.wrap_u64]; unfold wrap64; omega
        have r2 := wrap_in (show ij < 9223372036854775808 by clear r6; omega)
        have r1 := wrap_add (show i + j < 9223372036854775808 by clear r6 r2; omega)
        rw [← hij2] at r1
        clear hij2 hh
        go_wp2_with fail
        go_quiet_grown (first | (go_at_fn g; refine Calls.grown_of (hc _ _)))
        have S2 : Aside (SW enc w0 blk off d (grow (wr.drewN nq) osq)) := S1.out.grown nq osq
        clear l1a l1b hc S1
        generalize grow (wr.drewN nq) osq = w2 at S2 ⊢
        clear nq osq ea ec pa ba pc bc r1 r2 r6
        go_wp2_with fail
        go_roundw
        case rel => exact ⟨i, h, rfl, rfl, hmi, hih, by omega, S2, Lib.hid ⟨HP.out.1, HN.out⟩⟩
        case measure => simp [intOf]; omega
      | false =>
        have hv : ¬ cf y1 x1 < 0 := by rw [hx1, hy1]; exact of_decide_eq_false hlv
        have hd : decide (cf y1 x1 < 0) = false := decide_eq_false hv
        rw [hagr] at hlv
        have HN := Lib.hid (seekL_up HO.out HAS.out (show h < m by omega) hlv)
        clear hx1 hy1 hhN haN hlv hagr
        have r6 : wrap64 (IntKind.u64.wrap (ij : Int) / 2) = (h : Int) := by rw [IntKind.wrap_u64]; unfold wrap64; omega
        have r2 := wrap_in (show ij < 9223372036854775808 by clear r6; omega)
        have r1 := wrap_add (show i + j < 9223372036854775808 by clear r6 r2; omega)
        rw [← hij2] at r1
        clear hij2 hh
        go_wp2_with fail
        go_quiet_grown (first | (go_at_fn g; refine Calls.grown_of (hc _ _)))
        have S2 : Aside (SW enc w0 blk off d (grow (wr.drewN nq) osq)) := S1.out.grown nq osq
        clear l1a l1b hc S1
        generalize grow (wr.drewN nq) osq = w2 at S2 ⊢
        clear nq osq ea ec pa ba pc bc r1 r2 r6
        go_wp2_with fail
        go_roundw
        case rel => exact ⟨h + 1, j, by go_num, rfl, by omega, by omega, hjb, S2, Lib.hid ⟨HN.out, HP.out.2⟩⟩
        case measure => simp [intOf]; omega
    · have hie : i = j := by omega
      have HIE := Lib.hid hie
      have hltz : ¬ (i : Int) < (j : Int) := by omega
      have hib : i ≤ m := by omega
      clear hie hij hjb hlt
      go_wp2_with fail
      go_loopw [17] (fun vk wr => ∃ (k : Nat) (dk : Array α), vk = .int .i64 k ∧ i ≤ k ∧ k ≤ m ∧ dk.size = d.size ∧ Aside (SW enc w0 blk off dk wr) ∧ Hid (Rot d dk k m (m + 1) ∧ PermIn a b d dk)) (fun vk _ => (intOf vk).toNat)
      case atStart => exact ⟨m, d, rfl, hib, Nat.le_refl _, rfl, S1, Lib.hid ⟨Rot.none d (.inl rfl) (Nat.le_refl _) (by omega), permIn_refl d _ _⟩⟩
      case round =>
        rename World => wk
        obtain ⟨k, dk, rfl, hak, hki, hsk, S3, HR⟩ := hrel
        clear S1
        by_cases hk : i < k
        · have hkz : (i : Int) < (k : Int) := by omega
          have hbm := HM.out
          have HN : Hid (Rot d (swp dk k (k - 1)) (k - 1) m (m + 1) ∧ PermIn a b d (swp dk k (k - 1))) := Lib.hid ⟨HR.out.1.pull (by omega) hki (by omega), permIn_trans _ _ _ _ _ HR.out.2 (swp_permIn dk a b k (k - 1) (by omega) (by omega) (by omega) (by omega) (by omega))⟩
          clear hbm
          obtain ⟨p, hp⟩ : ∃ p, p + 1 = k := ⟨k - 1, by omega⟩
          have HPK := Lib.hid hp
          have z1 : (k : Int) = (p : Int) + 1 := by omega
          obtain ⟨iN, hiN⟩ : ∃ x, x = k := ⟨_, rfl⟩
          obtain ⟨jN, hjN⟩ : ∃ x, x = k - 1 := ⟨_, rfl⟩
          have ea : ((p : Int) + 1).toNat = iN := by omega
          have pa : (0 : Int) ≤ (p : Int) + 1 := by omega
          have ba : (p : Int) + 1 < (d.size : Int) := by omega
          have ec : ((p : Int)).toNat = jN := by omega
          have pc : (0 : Int) ≤ (p : Int) := by omega
          have bc : (p : Int) < (d.size : Int) := by omega
          have hkz2 : (i : Int) < (p : Int) + 1 := by omega
          obtain ⟨x1, hx1⟩ : ∃ x, x = dk[k]! := ⟨_, rfl⟩
          obtain ⟨y1, hy1⟩ : ∃ x, x = dk[k - 1]! := ⟨_, rfl⟩
          have S4 : Aside (SW enc w0 blk off (swp dk k (k - 1)) ((wk.setCell ⟨blk, off + iN, none⟩ (enc y1)).setCell ⟨blk, off + jN, none⟩ (enc x1)).drew) := by rw [hiN, hjN, hx1, hy1]; exact S3.out.swapped R k (k - 1) (by omega) (by omega)
          have c1a := S3.out.c1 R (by omega) k (by omega)
          have c1b := S3.out.c1 R (by omega) (k - 1) (by omega)
          have f1a := S3.out.f1 R (by omega) k (by omega)
          have f1b := S3.out.f1 R (by omega) (k - 1) (by omega)
          obtain ⟨u1, c1c⟩ := S3.out.c2 R (by omega) k (k - 1) (by omega) (by omega) (enc y1)
          have hkm : k - 1 ≤ m := by omega
          have hik : i ≤ k - 1 := by omega
          have hlt1 : k - 1 < k := by omega
          rw [← hjN, ← hiN] at c1c
          rw [← hx1, ← hiN] at c1a
          rw [← hy1, ← hjN] at c1b
          rw [← hiN] at f1a
          rw [← hjN] at f1b
          have rp : IntKind.i64.wrap ((p : Int) + 1) = (p : Int) + 1 := by rw [IntKind.wrap_i64]; omega
          have rc : IntKind.i64.wrap ((p : Int)) = (p : Int) := by rw [IntKind.wrap_i64]; omega
          clear S3 hx1 hy1 hiN hjN hp hk
          rw [z1]
          go_wp2_with fail
          go_big_region_o
          clear c1a c1b c1c f1a f1b
          generalize ((wk.setCell ⟨blk, off + iN, none⟩ (enc y1)).setCell ⟨blk, off + jN, none⟩ (enc x1)).drew = w3 at S4 ⊢
          clear ea ec pa ba pc bc
          go_wp2_with fail
          go_roundw
          case rel => exact ⟨k - 1, _, by rw [← HPK.out, Nat.add_sub_cancel], hik, hkm, by rw [size_swp]; exact hsk, S4, HN⟩
          case measure => have := HPK.out; (try simp [intOf]); (try omega)
        · obtain rfl : k = i := by omega
          go_wp2_with fail
          refine bodyPost_ret (results_none rfl _ _ _) rfl ?_
          refine ⟨rfl, dk, S3.out, HR.out.2, ?_⟩
          have hp := HP.out
          rw [← HIE.out] at hp
          rw [HM.out]
          exact ins_left HO.out HAS.out hp.1 hp.2 HR.out.1 (by omega) hib
end Go.Proofs.YtagdccgbcmnehaaGreat

