/- Contracts of the library's slices.Sort at a row of the call's own, of cmp.Compare and slices.Compare at ints. -/
import Derived.Test.YtkanaoebpajbfaaSortR
import Derived.Sort.OwnSortedInts
import Derived.Test.YtkanaoebpajbfaaChoiceLaw
import Derived.Test.YtkanaoebpajbfaaSorted
namespace Go.Tok
open Go.RowKit
/-- -1, 0, 1 -/
def cmpI (x y : Int) : Int := if x < y then -1 else if y < x then 1 else 0
def lexC : List Int → List Int → Int
  | [], [] => 0
  | [], _ :: _ => -1
  | _ :: _, [] => 1
  | x :: xs, y :: ys => if cmpI x y = 0 then lexC xs ys else cmpI x y
theorem lex_self : ∀ l, lexC l l = 0 := by
  intro l
  induction l with
  | nil => rfl
  | cons a l ih => simp [lexC, cmpI, ih]
theorem lex_zero : ∀ a b, lexC a b = 0 → a = b := by
  intro a
  induction a with
  | nil => intro b h; cases b with
    | nil => rfl
    | cons y ys => simp [lexC] at h
  | cons x xs ih =>
    intro b h
    cases b with
    | nil => simp [lexC] at h
    | cons y ys =>
      unfold lexC at h
      by_cases h1 : x < y
      · simp [cmpI, h1] at h
      · by_cases h2 : y < x
        · simp [cmpI, h1, h2] at h
        · have hxy : x = y := by omega
          simp [cmpI, h1, h2] at h
          rw [hxy, ih ys h]
theorem lex_neg : ∀ a b, lexC b a = - lexC a b := by
  intro a
  induction a with
  | nil => intro b; cases b <;> simp [lexC]
  | cons x xs ih =>
    intro b
    cases b with
    | nil => simp [lexC]
    | cons y ys =>
      unfold lexC
      by_cases h1 : x < y
      · have h2 : ¬ y < x := by omega
        simp [cmpI, h1, h2]
      · by_cases h2 : y < x
        · simp [cmpI, h1, h2]
        · simp [cmpI, h1, h2, ih]
theorem lex_trans : ∀ a b c, lexC a b < 0 → lexC b c < 0 → lexC a c < 0 := by
  intro a
  induction a with
  | nil =>
    intro b c h1 h2
    cases b with
    | nil => simp [lexC] at h1
    | cons y ys => cases c with
      | nil => simp [lexC] at h2
      | cons z zs => simp [lexC]
  | cons x xs ih =>
    intro b c h1 h2
    cases b with
    | nil => simp [lexC] at h1
    | cons y ys =>
      cases c with
      | nil => simp [lexC] at h2
      | cons z zs =>
        unfold lexC at h1 h2 ⊢
        unfold cmpI at *
        by_cases a1 : x < y <;> by_cases a2 : y < x <;> by_cases b1 : y < z <;> by_cases b2 : z < y <;> simp [a1, a2, b1, b2] at h1 h2
        all_goals by_cases c1 : x < z
        all_goals first
          | (simp only [if_pos c1]; simp; done)
          | omega
          | (have c2 : ¬ z < x := by omega
             simp only [if_neg c1, if_neg c2, if_true]
             exact ih ys zs h1 h2)
theorem lex_ge_trans (a b c : List Int) (h1 : ¬ lexC a b < 0) (h2 : ¬ lexC b c < 0) : ¬ lexC a c < 0 := by
  intro h
  have e1 := lex_neg a b
  have e2 := lex_neg b c
  by_cases q1 : lexC a b = 0
  · have := lex_zero a b q1
    subst this
    exact h2 h
  · by_cases q2 : lexC b c = 0
    · have := lex_zero b c q2
      subst this
      exact h1 h
    · have h3 : lexC b a < 0 := by omega
      have h4 : lexC c b < 0 := by omega
      have h5 := lex_trans c b a h4 h3
      have e3 := lex_neg a c
      omega
end Go.Tok
namespace Go.Proofs.Ytkanaoebpajbfaa
open Go.RowKit Go.Tok
set_option linter.unusedVariables false
theorem Sort_calls (g cap base : Nat) (xs : List Int) (w : World) (h : OwnI 3 base w (.slice (some ⟨g, 0, none⟩) xs.length cap) xs) (hl : xs.length < 4611686018427387904) :
    Calls Try.prog 92 #[.slice (some ⟨g, 0, none⟩) xs.length cap] w fun e w' => e = .returned (.tuple #[]) ∧ OwnI 3 base w' (.slice (some ⟨g, 0, none⟩) xs.length cap) (sortI xs) ∧ w.grownBy w' (some g) := by
  have h0 := h
  unfold OwnI at h
  obtain ⟨⟨e1, h1⟩, h2⟩ := h
  rcases h1 with ⟨hv, _⟩ | ⟨g', cap', cur, hv, hb, hh, hn, hc, hs, ht⟩
  · cases hv
  · cases hv
    refine (Try.slices_Sort_int g 0 cap xs w (holds_of_blockI hh (by simpa using ht)) (Array.getElem?_eq_some_iff.1 hh).1 hl).mono ?_
    rintro _ w' ⟨rfl, n, os, rfl⟩
    have hlen : (xs.mergeSort fun x y => decide (x ≤ y)).length = xs.length := List.length_mergeSort _
    refine ⟨rfl, ?_, grownBy_sortedI _⟩
    unfold OwnI
    refine ⟨?_, fun x hx => h2 x (mem_sortI.1 hx)⟩
    unfold sortI
    have := ownsRow_sortedI (n := n) (os := os) (ts := xs.mergeSort fun x y => decide (x ≤ y)) hlen hb hh hn hc hs
    rw [hlen]
    exact this
end Go.Proofs.Ytkanaoebpajbfaa
