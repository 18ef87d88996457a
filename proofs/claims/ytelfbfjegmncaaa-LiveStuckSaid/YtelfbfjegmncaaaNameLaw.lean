/- A mark as a text: three bytes a place; two marks of one net have different texts. No program is in sight here. -/
import Derived.Test.YtelfbfjegmncaaaStr
namespace Go.Tok
open Go.RowKit
set_option linter.unusedVariables false
def bytes3 (n : Int) : List Nat := [(n % 256).toNat, (n / 256 % 256).toNat, (n / 65536 % 256).toNat]
def nameB (m : List Int) : List Nat := m.flatMap bytes3
def nameTo (m : List Int) (k : Nat) : List Nat := nameB (m.take k)
def nameS (m : List Int) : ByteArray := strOf (nameB m)
theorem nameTo_zero (m : List Int) : nameTo m 0 = [] := rfl
theorem nameTo_succ {m : List Int} {k : Nat} (h : k < m.length) : nameTo m (k + 1) = nameTo m k ++ bytes3 (nth m k) := by
  unfold nameTo nameB
  rw [List.take_succ_eq_append_getElem h, List.flatMap_append, nth_lt h]
  simp
theorem nameTo_all (m : List Int) : nameTo m m.length = nameB m := by unfold nameTo; rw [List.take_length]
theorem nameB_len (m : List Int) : (nameB m).length = m.length * 3 := by
  unfold nameB
  induction m with
  | nil => rfl
  | cons a r ih => rw [List.flatMap_cons, List.length_append, ih, List.length_cons]; simp [bytes3]; omega
theorem nameTo_len {m : List Int} {k : Nat} (h : k ≤ m.length) : (nameTo m k).length = k * 3 := by
  unfold nameTo; rw [nameB_len, List.length_take, Nat.min_eq_left h]
theorem bytes3_lt (n : Int) : ∀ x ∈ bytes3 n, x < 256 := by
  intro x hx
  simp only [bytes3, List.mem_cons, List.not_mem_nil, or_false] at hx
  omega
theorem bytes3_inj {a b : Int} (ha : 0 ≤ a ∧ a ≤ 1000000) (hb : 0 ≤ b ∧ b ≤ 1000000) (h : bytes3 a = bytes3 b) : a = b := by
  simp only [bytes3, List.cons.injEq, and_true] at h
  omega
theorem nameB_inj : ∀ {xs ys : List Int}, (∀ x ∈ xs, 0 ≤ x ∧ x ≤ 1000000) → (∀ x ∈ ys, 0 ≤ x ∧ x ≤ 1000000) → nameB xs = nameB ys → xs = ys
  | [], [], _, _, _ => rfl
  | [], y :: ys, _, _, h => by simp [nameB, bytes3] at h
  | x :: xs, [], _, _, h => by simp [nameB, bytes3] at h
  | x :: xs, y :: ys, hx, hy, h => by
    unfold nameB at h
    rw [List.flatMap_cons, List.flatMap_cons] at h
    obtain ⟨h1, h2⟩ := List.append_inj h rfl
    rw [bytes3_inj (hx x (by simp)) (hy y (by simp)) h1, nameB_inj (fun z hz => hx z (by simp [hz])) (fun z hz => hy z (by simp [hz])) h2]
theorem nameB_lt (m : List Int) : ∀ x ∈ nameB m, x < 256 := by
  intro x hx
  obtain ⟨n, _, h⟩ := List.mem_flatMap.1 hx
  exact bytes3_lt n x h
theorem nameS_size (m : List Int) : (nameS m).size = m.length * 3 := by unfold nameS; rw [strOf_size, nameB_len]
theorem nameS_inj {xs ys : List Int} (hx : ∀ x ∈ xs, 0 ≤ x ∧ x ≤ 1000000) (hy : ∀ x ∈ ys, 0 ≤ x ∧ x ≤ 1000000) (h : nameS xs = nameS ys) : xs = ys :=
  nameB_inj hx hy (strOf_inj (nameB_lt xs) (nameB_lt ys) h)
theorem nameS_def (m : List Int) : nameS m = strOf (nameB m) := rfl
attribute [irreducible] nameS nameB nameTo
end Go.Tok
