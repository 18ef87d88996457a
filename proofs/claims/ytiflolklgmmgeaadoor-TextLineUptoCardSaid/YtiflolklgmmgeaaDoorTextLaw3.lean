/- What strings.SplitAfter hands back at a newline; the steps of the reader. No program is in sight here. -/
import Derived.Test.YtiflolklgmmgeaaDoorTextLaw2
import Derived.Lib.SplitLaws
import Derived.Lib.IndexBytes
namespace Go.Tok
open Go.RowKit
set_option linter.unusedVariables false
theorem splitK_line : ∀ s : List UInt8, Lib.splitK [10] 1 (Lib.count s [10]) s = splitL s
  | [] => by
    have h : Lib.count ([] : List UInt8) [10] = 0 := Lib.count_miss (by decide)
    rw [h]; rfl
  | b :: r => by
    have ih := splitK_line r
    by_cases hb : b = 10
    · subst hb
      have hix : Lib.index ((10 : UInt8) :: r) [10] = ((0 : Nat) : Int) := by rw [Lib.index]; simp [List.isPrefixOf]
      rw [Lib.count_cons_eq, Nat.add_comm 1, Lib.splitK, hix, if_neg (by decide)]
      have e1 : ((10 : UInt8) :: r).take ((((0 : Nat) : Int)).toNat + 1) = [10] := by simp
      have e2 : ((10 : UInt8) :: r).drop ((((0 : Nat) : Int)).toNat + ([10] : List UInt8).length) = r := by simp
      rw [e1, e2, ih, splitL, if_pos rfl]
    · have hp : ([10] : List UInt8).isPrefixOf (b :: r) = false := by simp [List.isPrefixOf, Ne.symm hb]
      have hix : Lib.index (b :: r) [10] = if Lib.index r [10] == -1 then -1 else Lib.index r [10] + 1 := by rw [Lib.index, hp]; simp
      rw [Lib.count_cons_ne b 10 r hb, splitL, if_neg hb]
      cases hc : Lib.count r [10] with
      | zero =>
        rw [hc] at ih
        rw [← ih]; rfl
      | succ k =>
        rw [hc] at ih
        have hm : Lib.index r [10] ≠ -1 := fun e => by rw [Lib.count_miss e] at hc; cases hc
        have hge := Lib.index_ge r [10]
        obtain ⟨j, hj⟩ : ∃ j : Nat, Lib.index r [10] = j := ⟨(Lib.index r [10]).toNat, by omega⟩
        have hix' : Lib.index (b :: r) [10] = ((j + 1 : Nat) : Int) := by rw [hix, if_neg (fun e => hm (beq_iff_eq.1 e)), hj]; omega
        have n1 : ¬ (((j + 1 : Nat) : Int) == -1) = true := fun e => by have := beq_iff_eq.1 e; omega
        have n2 : ¬ ((j : Int) == -1) = true := fun e => by have := beq_iff_eq.1 e; omega
        rw [Lib.splitK, hj, if_neg n2] at ih
        rw [Lib.splitK, hix', if_neg n1, ← ih]
        simp
theorem splitL_mem {s l : List UInt8} (h : l ∈ splitL s) : l.length ≤ s.length := by
  have e := splitL_flat s
  obtain ⟨a, b, hab⟩ := List.append_of_mem h
  have := congrArg List.length e
  rw [hab] at this
  simp at this; omega
theorem splitL_len (s : List UInt8) : (splitL s).length = s.count 10 + 1 := by
  induction s with
  | nil => rfl
  | cons b r ih =>
    rw [splitL]
    split
    · rename_i hb
      subst hb
      rw [List.length_cons, ih, List.count_cons_self]
    · rename_i hb
      rw [List.count_cons_of_ne (by simpa using hb), ← ih]
      split
      · rename_i h; exact absurd h (splitL_ne r)
      · rename_i h t e; rw [e]; rfl
theorem head_no {l : List UInt8} (h : ∀ n, Lib.atoiAll (Lib.trimPrefix l [110, 101, 116, 32]) ≠ .ok n) : headF l = none := by
  unfold headF
  split
  · rename_i p hp; exact absurd hp (h p)
  · rfl
theorem head_bad {l : List UInt8} {p : Int} (h : Lib.atoiAll (Lib.trimPrefix l [110, 101, 116, 32]) = .ok p) (hc : ¬ (0 ≤ p ∧ p ≤ 16 ∧ l = headT p.toNat)) : headF l = none := by
  unfold headF; rw [h]; simp only; rw [if_neg hc]
theorem head_yes {l : List UInt8} {p : Int} (h : Lib.atoiAll (Lib.trimPrefix l [110, 101, 116, 32]) = .ok p) (hc : 0 ≤ p ∧ p ≤ 16 ∧ l = headT p.toNat) : headF l = some p.toNat := by
  unfold headF; rw [h]; simp only; rw [if_pos hc]
theorem or_no {b : Bool} {p : Prop} (h : b = true) (hp : ¬ p) : ¬ (b = false ∨ p) := by
  rintro (h1 | h1)
  · rw [h] at h1; cases h1
  · exact hp h1
theorem parse0 {k : Nat} {N : NetD} : parseL k N [] = (N, 0, 0) := by unfold parseL; rfl
theorem parse1 {k : Nat} {N : NetD} {l : List UInt8} {ls : List (List UInt8)} (h0 : 0 < k) (h1 : Lib.trimSuffix l [10] = []) (h2 : Lib.hasSuffix l [10] = false) : parseL k N (l :: ls) = (N, 0, 0) := by
  unfold parseL; rw [if_pos ⟨h0, h1, h2⟩]
theorem parse2 {k : Nat} {N : NetD} {l : List UInt8} {ls : List (List UInt8)} (h1 : ¬ (0 < k ∧ Lib.trimSuffix l [10] = [])) (h2 : Lib.hasSuffix l [10] = false) : parseL k N (l :: ls) = (⟨0, []⟩, k, 1) := by
  unfold parseL; rw [if_neg (fun h => h1 ⟨h.1, h.2.1⟩), if_pos (.inl h2)]
theorem parse3 {k : Nat} {N : NetD} {l : List UInt8} {ls : List (List UInt8)} (h1 : 24 < k) (h2 : Lib.hasSuffix l [10] = true) : parseL k N (l :: ls) = (⟨0, []⟩, k, 1) := by
  unfold parseL; rw [if_neg (fun h => by rw [h2] at h; cases h.2.2), if_pos (.inr h1)]
theorem parse4 {N : NetD} {l : List UInt8} {ls : List (List UInt8)} (h2 : Lib.hasSuffix l [10] = true) (h3 : headF (Lib.trimSuffix l [10]) = none) : parseL 0 N (l :: ls) = (⟨0, []⟩, 0, 1) := by
  unfold parseL; rw [if_neg (fun h => by omega), if_neg (or_no h2 (by omega)), if_pos rfl, h3]
theorem parse5 {N : NetD} {l : List UInt8} {ls : List (List UInt8)} {p : Nat} (h2 : Lib.hasSuffix l [10] = true) (h3 : headF (Lib.trimSuffix l [10]) = some p) : parseL 0 N (l :: ls) = parseL 1 ⟨p, N.trans⟩ ls := by
  rw [parseL, if_neg (fun h => by omega), if_neg (or_no h2 (by omega)), if_pos rfl, h3]
theorem parse6 {k : Nat} {N : NetD} {l : List UInt8} {ls : List (List UInt8)} (h0 : 0 < k) (h1 : k ≤ 24) (h2 : Lib.hasSuffix l [10] = true) (h3 : tranT (Lib.trimSuffix l [10]) N.places.toNat = none) : parseL k N (l :: ls) = (⟨0, []⟩, k, 1) := by
  rw [parseL, if_neg (fun h => by rw [h2] at h; cases h.2.2), if_neg (or_no h2 (by omega)), if_neg (by omega), h3]
theorem parse7 {k : Nat} {N : NetD} {l : List UInt8} {ls : List (List UInt8)} {t : TranD} (h0 : 0 < k) (h1 : k ≤ 24) (h2 : Lib.hasSuffix l [10] = true) (h3 : tranT (Lib.trimSuffix l [10]) N.places.toNat = some t) : parseL k N (l :: ls) = parseL (k + 1) ⟨N.places, N.trans ++ [t]⟩ ls := by
  rw [parseL, if_neg (fun h => by rw [h2] at h; cases h.2.2), if_neg (or_no h2 (by omega)), if_neg (by omega), h3]
theorem tran_nil {P : Nat} : tranT [] P = none := by unfold tranT; rw [if_neg (by decide)]
end Go.Tok
