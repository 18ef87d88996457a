/- The tree that covers, step by step: what its steps come to, what its marks hold. No program is in sight here. -/
import Derived.Test.YtkanaoebpajbfaaCoverLaw
import Derived.Test.YtkanaoebpajbfaaKnot
namespace Go.Tok
set_option linter.unusedVariables false
theorem treeF_range {N : NetD} {m : List Int} {most : Int} (h : most < 1 ∨ 300 < most) : treeF N m most = ([], 2) := by unfold treeF; rw [if_pos h]
theorem treeF_unfit {N : NetD} {m : List Int} {most : Int} (h : ¬ (most < 1 ∨ 300 < most)) (hf : fitsB N m = false) : treeF N m most = ([], 2) := by unfold treeF; rw [if_neg h, if_pos hf]
theorem treeF_full {N : NetD} {m : List Int} {most : Int} (h : ¬ (most < 1 ∨ 300 < most)) (hf : fitsB N m = true) (hg : treeGo N most.toNat 301 0 [⟨-1, -1, m⟩] = none) : treeF N m most = ([], 4) := by
  unfold treeF; rw [if_neg h, if_neg (by rw [hf]; decide), hg]
theorem treeF_some {N : NetD} {m : List Int} {most : Int} {ks : List KnotD} (h : ¬ (most < 1 ∨ 300 < most)) (hf : fitsB N m = true) (hg : treeGo N most.toNat 301 0 [⟨-1, -1, m⟩] = some ks) : treeF N m most = (ks, 0) := by
  unfold treeF; rw [if_neg h, if_neg (by rw [hf]; decide), hg]
theorem treeGo_stop {N : NetD} {most f k : Nat} {ks : List KnotD} (h : ¬ k < ks.length) : treeGo N most (f + 1) k ks = some ks := by rw [treeGo, if_neg h]
theorem treeGo_again {N : NetD} {most f k : Nat} {ks : List KnotD} (h : k < ks.length) (ha : againB ks k = true) : treeGo N most (f + 1) k ks = treeGo N most f (k + 1) ks := by rw [treeGo, if_pos h, if_pos ha]
theorem treeGo_on {N : NetD} {most f k : Nat} {ks ks' : List KnotD} (h : k < ks.length) (ha : againB ks k = false) (ht : treeTo N most k ks N.trans.length = some ks') : treeGo N most (f + 1) k ks = treeGo N most f (k + 1) ks' := by
  rw [treeGo, if_pos h, if_neg (by rw [ha]; decide), ht]; rfl
theorem treeTo_none {N : NetD} {most k : Nat} {ks : List KnotD} {i : Nat} (h : treeTo N most k ks i = none) : ∀ j, i ≤ j → treeTo N most k ks j = none := by
  intro j
  induction j with
  | zero => intro hj; obtain rfl : i = 0 := by omega
            exact h
  | succ j ih =>
    intro hj
    by_cases e : i = j + 1
    · subst e; exact h
    · rw [treeTo, ih (by omega)]; rfl
theorem treeGo_full {N : NetD} {most f k : Nat} {ks : List KnotD} (h : k < ks.length) (ha : againB ks k = false) (ht : treeTo N most k ks N.trans.length = none) : treeGo N most (f + 1) k ks = none := by
  rw [treeGo, if_pos h, if_neg (by rw [ha]; decide), ht]; rfl
theorem treeTo_skip {N : NetD} {most k i : Nat} {ks ks' : List KnotD} (h : treeTo N most k ks i = some ks') (hb : belowB (N.tr i).pre (ix ks' k).mark = false) : treeTo N most k ks (i + 1) = some ks' := by
  rw [treeTo, h]; simp [treeStep, hb]
theorem treeTo_stop {N : NetD} {most k i : Nat} {ks ks' : List KnotD} (h : treeTo N most k ks i = some ks') (hb : belowB (N.tr i).pre (ix ks' k).mark = true) (hl : ks'.length = most) : treeTo N most k ks (i + 1) = none := by
  rw [treeTo, h]; simp [treeStep, hb, hl]
theorem treeTo_add {N : NetD} {most k i : Nat} {ks ks' : List KnotD} (h : treeTo N most k ks i = some ks') (hb : belowB (N.tr i).pre (ix ks' k).mark = true) (hl : ks'.length ≠ most) :
    treeTo N most k ks (i + 1) = some (ks' ++ [⟨k, i, growF (anc ks' k) (fireK (N.tr i) (ix ks' k).mark)⟩]) := by
  rw [treeTo, h]; simp [treeStep, hb, hl]
/-- what the marks of a tree hold while it grows -/
theorem TreeTo.marks {N : NetD} {m : List Int} {most k i : Nat} {ks : List KnotD} (h : TreeTo N m most ks k i) (hf : fitsB N m = true) : ∀ j, j < ks.length → (ix ks j).mark.length = m.length ∧ ∀ p, -1 ≤ nth (ix ks j).mark p ∧ nth (ix ks j).mark p ≤ 1000000 + 9 * (j : Int) := by
  intro j
  induction j using Nat.strongRecOn with
  | ind j ih =>
    intro hj
    by_cases h0 : j = 0
    · subst h0
      rw [h.root]
      exact ⟨rfl, fun p => by have := fits_nth hf p; constructor <;> simp only [] <;> omega⟩
    · obtain ⟨u, t, h1, h2, h3, h4, h5⟩ := h.kid j (by omega) hj
      obtain ⟨hl, hu⟩ := ih u h2 (by omega)
      have T := netOk_tr (fits_ok hf) h3
      have hfl := fits_len hf
      have hlj : (ix ks j).mark.length = m.length := by rw [h5, growF_len, fireK_len]; exact hl
      refine ⟨hlj, fun p => ?_⟩
      have hup := hu p
      by_cases hp : p < m.length
      · rw [h5]
        rcases growF_nth (anc ks (u : Int)) (fireK (N.tr t) (ix ks u).mark) p with e | e
        · rw [e, fireK_nth _ (by omega)]
          by_cases hn : nth (ix ks u).mark p = -1
          · rw [if_pos hn]; omega
          · rw [if_neg hn]
            have h7 := w_nth T p
            rcases below_iff.1 h4 p (by have := T.pre; omega) with h6 | h6
            · exact absurd h6 hn
            · have := h6.2; omega
        · rw [e]; omega
      · rw [nth_ge (by omega)]; omega
end Go.Tok
