/- Plain laws: a run of the turned net along the sequence turned about leads back. No program is in sight here. -/
import Derived.Test.YtelfbfjegmncaaaNetLaw
import Derived.Test.YtelfbfjegmncaaaNetOwn
namespace Go.Tok
set_option linter.unusedVariables false

theorem fits_turn {N : NetD} {x : List Int} (h : fitsB N x = true) : fitsB (turnN N) x = true :=
  fits_mk (netOk_turn (fits_ok h)) (by rw [turnN_places]; exact fits_len h) (fits_sizes h).2.2.2.2.2.1
theorem fires_turn {N : NetD} {x y : List Int} {k : Nat} (hx : fitsB N x = true) (h : Fires N x k y) : Fires (turnN N) y k x := by
  have ht := turnN_tr N h.lt
  have F := netOk_tr (fits_ok hx) h.lt
  refine ⟨by rw [turnN_len]; exact h.lt, h.len.symm, fun p => ?_, fun p => ?_, fun p => (fits_nth hx p).2⟩
  · rw [ht, turnT_pre, h.eq p]; have := h.pre p; omega
  · rw [ht, turnT_pre, turnT_post, h.eq p]; omega
theorem Runs.snoc {N : NetD} {x s y : List Int} (h : Runs N x s y) : ∀ {z : List Int} {k : Nat}, Fires N y k z → Runs N x (s ++ [(k : Int)]) z := by
  induction h with
  | nil x => exact fun hF => .cons hF (.nil _)
  | cons h _ ih => exact fun hF => .cons h (ih hF)
theorem runs_turn {N : NetD} {x s z : List Int} (h : Runs N x s z) : fitsB N x = true → Runs (turnN N) z s.reverse x := by
  induction h with
  | nil x => exact fun _ => .nil _
  | cons h _ ih =>
    intro hx
    rw [List.reverse_cons]
    exact (ih (h.fits hx)).snoc (fires_turn hx h)
theorem net_back {N : NetD} {m s x : List Int} (h : runF N m s = (x, 0)) : runF (turnN N) x s.reverse = (m, 0) := by
  obtain ⟨hf, hr⟩ := runF_of h
  exact (runs_turn hr hf).runF (fits_turn (hr.fits hf))

/-! ### a row turned about -/
def revVal (xs : List Int) (k p : Nat) : Int := if p < k ∨ xs.length ≤ p + k then nth xs (xs.length - 1 - p) else nth xs p
def revUpto (xs : List Int) (k : Nat) : List Int := (List.range xs.length).map (revVal xs k)
theorem revUpto_len (xs : List Int) (k : Nat) : (revUpto xs k).length = xs.length := by simp [revUpto]
theorem revUpto_nth (xs : List Int) {k p : Nat} (h : p < xs.length) : nth (revUpto xs k) p = revVal xs k p := by
  rw [nth_lt (by rw [revUpto_len]; exact h)]; simp [revUpto]
theorem revUpto_zero (xs : List Int) : revUpto xs 0 = xs := by
  refine ext_nth (revUpto_len _ _) fun p hp => ?_
  rw [revUpto_len] at hp
  rw [revUpto_nth xs hp]
  unfold revVal
  rw [if_neg (by omega)]
theorem nth_set (xs : List Int) (i : Nat) (x : Int) {p : Nat} (h : p < xs.length) : nth (xs.set i x) p = if i = p then x else nth xs p := by
  rw [nth_lt (by simpa using h), nth_lt h, List.getElem_set]
theorem revUpto_left (xs : List Int) {k : Nat} (h : 2 * k + 1 < xs.length) : nth (revUpto xs k) k = nth xs k := by
  rw [revUpto_nth xs (by omega)]; unfold revVal; rw [if_neg (by omega)]
theorem revUpto_right (xs : List Int) {k : Nat} (h : 2 * k + 1 < xs.length) : nth (revUpto xs k) (xs.length - 1 - k) = nth xs (xs.length - 1 - k) := by
  rw [revUpto_nth xs (by omega)]; unfold revVal; rw [if_neg (by omega)]
theorem revUpto_succ (xs : List Int) {k : Nat} (h : 2 * k + 1 < xs.length) : ((revUpto xs k).set k (nth xs (xs.length - 1 - k))).set (xs.length - 1 - k) (nth xs k) = revUpto xs (k + 1) := by
  refine ext_nth (by simp [revUpto_len]) fun p hp => ?_
  simp only [List.length_set, revUpto_len] at hp
  rw [nth_set _ _ _ (by simpa [revUpto_len] using hp), nth_set _ _ _ (by simpa [revUpto_len] using hp), revUpto_nth xs hp, revUpto_nth xs hp]
  unfold revVal
  by_cases h1 : xs.length - 1 - k = p
  · rw [if_pos h1, if_pos (by omega)]
    congr 1; omega
  · rw [if_neg h1]
    by_cases h2 : k = p
    · rw [if_pos h2, if_pos (by omega), h2]
    · rw [if_neg h2]
      by_cases h3 : p < k ∨ xs.length ≤ p + k
      · rw [if_pos h3, if_pos (by omega)]
      · rw [if_neg h3, if_neg (by omega)]
theorem revUpto_all (xs : List Int) {k : Nat} (h : xs.length ≤ 2 * k + 1) : revUpto xs k = xs.reverse := by
  refine ext_nth (by simp [revUpto_len]) fun p hp => ?_
  rw [revUpto_len] at hp
  rw [revUpto_nth xs hp, nth_lt (by simpa using hp), List.getElem_reverse]
  unfold revVal
  by_cases h1 : p < k ∨ xs.length ≤ p + k
  · rw [if_pos h1, nth_lt (by omega)]
  · rw [if_neg h1, nth_lt hp]
    congr 1; omega
attribute [irreducible] revUpto
end Go.Tok
