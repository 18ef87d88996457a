/- Contracts of cmp.Compare and slices.Compare at ints. -/
import Derived.Test.YtkanaoebpajbfaaSortI
namespace Go.Tok
open Go.RowKit
theorem lex_at : ∀ (xs ys : List Int) (k : Nat), k ≤ xs.length → k ≤ ys.length → (∀ p, p < k → nth xs p = nth ys p) → lexC xs ys = lexC (xs.drop k) (ys.drop k) := by
  intro xs
  induction xs with
  | nil => intro ys k h1 _ _; simp at h1; subst h1; simp
  | cons x xs ih =>
    intro ys k h1 h2 h3
    cases k with
    | zero => simp
    | succ k =>
      cases ys with
      | nil => simp at h2
      | cons y ys =>
        have h0 := h3 0 (by omega)
        rw [nth_lt (by simp), nth_lt (by simp)] at h0
        simp only [List.getElem_cons_zero] at h0
        subst h0
        rw [List.drop_succ_cons, List.drop_succ_cons, ← ih ys k (by simpa using h1) (by simpa using h2) (fun p hp => by
          have := h3 (p + 1) (by omega)
          have hx : p < xs.length := by simp at h1; omega
          have hy : p < ys.length := by simp at h2; omega
          rw [nth_lt (by simp; omega), nth_lt (by simp; omega)] at this
          rw [nth_lt hx, nth_lt hy]
          simpa using this)]
        simp [lexC, cmpI]
theorem lex_hit {xs ys : List Int} {k : Nat} (h1 : k < xs.length) (h2 : k < ys.length) (h : ∀ p, p < k → nth xs p = nth ys p) (hc : cmpI (nth xs k) (nth ys k) ≠ 0) : lexC xs ys = cmpI (nth xs k) (nth ys k) := by
  rw [lex_at xs ys k (by omega) (by omega) h, List.drop_eq_getElem_cons h1, List.drop_eq_getElem_cons h2, lexC, ← nth_lt h1, ← nth_lt h2, if_neg hc]
theorem lex_over {xs ys : List Int} {k : Nat} (h1 : k < xs.length) (h2 : k = ys.length) (h : ∀ p, p < k → nth xs p = nth ys p) : lexC xs ys = 1 := by
  have e : ys.drop k = [] := List.drop_eq_nil_of_le (by omega)
  rw [lex_at xs ys k (by omega) (by omega) h, List.drop_eq_getElem_cons h1, e]; rfl
theorem lex_end {xs ys : List Int} (h2 : xs.length ≤ ys.length) (h : ∀ p, p < xs.length → nth xs p = nth ys p) : lexC xs ys = if xs.length < ys.length then -1 else 0 := by
  rw [lex_at xs ys xs.length (Nat.le_refl _) h2 h, List.drop_eq_nil_of_le (Nat.le_refl _)]
  by_cases h3 : xs.length < ys.length
  · rw [if_pos h3, List.drop_eq_getElem_cons h3]; rfl
  · rw [if_neg h3, List.drop_eq_nil_of_le (by omega)]; rfl
theorem cmpI_zero {x y : Int} (h : cmpI x y = 0) : x = y := by
  unfold cmpI at h
  by_cases h1 : x < y
  · simp [h1] at h
  · by_cases h2 : y < x
    · simp [h1, h2] at h
    · omega
end Go.Tok
namespace Go.Proofs.Ytkanaoebpajbfaa
open Go.RowKit Go.Tok
set_option linter.unusedVariables false
set_option linter.unusedSimpArgs false
theorem cmpCompare_calls (x y : Int) (w : World) : Calls Try.prog 90 #[.int .i64 x, .int .i64 y] w fun e w' => e = .returned (.int .i64 (cmpI x y)) ∧ w = w' := by
  by_cases h1 : x < y
  · have HC := Lib.hid (show cmpI x y = -1 by simp [cmpI, h1])
    go_enter Try.func90, Try.ntmps90
    go_wp2_with (go_at_call 147; refine (isNaN_calls _ _).mono ?_; rintro e w' ⟨rfl, rfl⟩)
    go_ret
    exact ⟨ret_i64 HC.out.symm, rfl⟩
  · by_cases h2 : y < x
    · have HC := Lib.hid (show cmpI x y = 1 by simp [cmpI, h1, h2])
      go_enter Try.func90, Try.ntmps90
      go_wp2_with (go_at_call 147; refine (isNaN_calls _ _).mono ?_; rintro e w' ⟨rfl, rfl⟩)
      go_ret
      exact ⟨ret_i64 HC.out.symm, rfl⟩
    · have HC := Lib.hid (show cmpI x y = 0 by simp [cmpI, h1, h2])
      go_enter Try.func90, Try.ntmps90
      go_wp2_with (go_at_call 147; refine (isNaN_calls _ _).mono ?_; rintro e w' ⟨rfl, rfl⟩)
      go_ret
      exact ⟨ret_i64 HC.out.symm, rfl⟩
set_option maxHeartbeats 1000000 in
theorem SCompare_calls (v u : Value) (xs ys : List Int) (w : World) (hv : Ints w v xs) (hu : Ints w u ys) :
    Calls Try.prog 34 #[v, u] w fun e w' => e = .returned (.int .i64 (lexC xs ys)) ∧ w = w' := by
  obtain ⟨a, cap, rfl, hlc, hcap⟩ := hv.len
  obtain ⟨a', cap', rfl, hlc', hcap'⟩ := hu.len
  go_enter Try.func34, Try.ntmps34
  go_wp2_with fail
  go_loopw [11] (fun i wr => ∃ k : Nat, k ≤ xs.length ∧ k ≤ ys.length ∧ i = .int .i64 k ∧ (∀ p, p < k → nth xs p = nth ys p) ∧ w = wr) (fun i _ => xs.length - (intOf i).toNat)
  case atStart => exact ⟨0, Nat.zero_le _, Nat.zero_le _, rfl, fun p hp => by omega, rfl⟩
  case round =>
    rename World => wr
    obtain ⟨k, hk, hky, rfl, hall, rfl⟩ := hrel
    have HALL := Lib.hid hall
    clear hall
    by_cases hlt : k < xs.length
    · obtain ⟨b, o, rfl, c0⟩ := hv.cell hlt
      have hkI : (k : Int) < (xs.length : Int) := by omega
      have hk0 : (0 : Int) ≤ (k : Int) := by omega
      by_cases hy : k < ys.length
      · obtain ⟨b', o', rfl, c1⟩ := hu.cell hy
        have hyI : (k : Int) < (ys.length : Int) := by omega
        rcases hc : cmpI (nth xs k) (nth ys k) == 0 with _ | _
        · have hne : cmpI (nth xs k) (nth ys k) ≠ 0 := by simpa using hc
          have hb1 : (cmpI (nth xs k) (nth ys k) != 0) = true := by simpa using hne
          have HC := Lib.hid (lex_hit hlt hy HALL.out hne)
          clear hc hne
          go_wp2_with (go_at_call 90; refine (cmpCompare_calls _ _ _).mono ?_; rintro e w' ⟨rfl, rfl⟩)
          go_ret
          exact ⟨ret_i64 HC.out.symm, rfl⟩
        · have hz : cmpI (nth xs k) (nth ys k) = 0 := by simpa using hc
          have hb1 : (cmpI (nth xs k) (nth ys k) != 0) = false := by simpa using hz
          have hs : ∀ p, p < k + 1 → nth xs p = nth ys p := fun p hp => by
            by_cases e : p = k
            · subst e; exact cmpI_zero hz
            · exact HALL.out p (by omega)
          have HS := Lib.hid hs
          clear hc hz hs
          go_wp2_with (go_at_call 90; refine (cmpCompare_calls _ _ _).mono ?_; rintro e w' ⟨rfl, rfl⟩)
          go_roundw
          case rel => exact ⟨k + 1, by omega, by omega, by go_num, HS.out, by trivial⟩
          case measure => simp [intOf]; omega
      · have hyI : ¬ (k : Int) < (ys.length : Int) := by omega
        have hyJ : (ys.length : Int) ≤ (k : Int) := by omega
        have HC := Lib.hid (lex_over hlt (show k = ys.length by omega) HALL.out)
        go_wp2_with fail
        go_ret
        exact ⟨ret_i64 HC.out.symm, rfl⟩
    · obtain rfl : k = xs.length := by omega
      have HC := Lib.hid (lex_end hky HALL.out)
      by_cases h3 : xs.length < ys.length
      · have h3I : (xs.length : Int) < (ys.length : Int) := by omega
        have HC2 := Lib.hid (HC.out.trans (if_pos h3))
        go_wp2_with fail
        go_ret
        exact ⟨ret_i64 HC2.out.symm, rfl⟩
      · have h3I : ¬ (xs.length : Int) < (ys.length : Int) := by omega
        have HC2 := Lib.hid (HC.out.trans (if_neg h3))
        go_wp2_with fail
        go_ret
        exact ⟨ret_i64 HC2.out.symm, rfl⟩
end Go.Proofs.Ytkanaoebpajbfaa
