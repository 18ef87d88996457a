/- A row of rows of ints among the arguments, opened; each row's length is bounded too. -/
import Derived.Test.YtkanaoebpajbfaaOpen
import Derived.Test.YtkanaoebpajbfaaPD
namespace Go.Tok
open Go.RowKit Go.ChangeShapes Go.WideShapes Go.ChangeAt
set_option linter.unusedVariables false
theorem weightsAll_mem {H : Type} {P : Program} {e : TypeId} : ∀ {l : List (DataW H)} {i : Nat} {d : DataW H} {n : Nat}, l[i]? = some d → n ∈ d.weights P e → n ∈ DataW.weightsAll P e l
  | x :: l, 0, d, n, h, hn => by
    simp at h; subst h
    rw [DataW.weightsAll]; exact List.mem_append_left _ hn
  | x :: l, i + 1, d, n, h, hn => by
    rw [DataW.weightsAll]; exact List.mem_append_right _ (weightsAll_mem (by simpa using h) hn)
theorem RowOf.rows {H : Type} {P : Program} {d : DataW H} {ys : List (List Int)} {t e f : TypeId} (h : RowOf (fun e z => LenOf e z.length) d ys) (ht : P.underlying t = some (.slice e)) (he : P.underlying e = some (.slice f)) (hb : P.bytesOf f = 8)
    (hw : ∀ m ∈ d.weights P t, m ≤ reachBytes) : ∀ y ∈ ys, y.length ≤ 17592186043904 := by
  intro y hy
  rcases h with ⟨h1, rfl⟩ | ⟨es, sp, rfl, h2, h3⟩
  · simp at hy
  · obtain ⟨i, hi, rfl⟩ := List.getElem_of_mem hy
    obtain ⟨e0, he0, hl⟩ := h3 i hi
    rw [ix_lt hi] at hl
    refine hl.reach he hb fun k hk => hw k ?_
    rw [DataW.weights]
    simp only [ht]
    exact List.mem_cons_of_mem _ (List.mem_append_left _ (weightsAll_mem he0 hk))
end Go.Tok
namespace Go.Proofs.Ytkanaoebpajbfaa
open Go.RowKit Go.Tok Go.ChangeShapes Go.WideShapes Go.ChangeAt
set_option linter.unusedVariables false
section
variable {H : Type} {enc : TypeId × Value → H}
/-- a log among the arguments -/
structure LogR (W : World) (v : Value) (xs : List (List Int)) : Prop where
  rd : Rd rowK W v xs
  le : xs.length ≤ 5864062014805
  rows : ∀ t ∈ xs, t.length ≤ 17592186043904
set_option maxRecDepth 100000 in
theorem log_arg (W : World) {base : Nat} {v : Value} {d : DataW H} {ps : List MemPlace} (hval : Value.okWide Try.prog W .any base 36 v) (hd : DataW.Trod enc Try.prog W 0 (fun _ => true) true 36 v d ps)
    (hw : ∀ n ∈ d.weights Try.prog 36, n ≤ reachBytes) : ∃ xs, LogR W v xs := by
  obtain ⟨xs, h1, h2⟩ := rd_open (K := rowK) (D := fun e z => LenOf e z.length) Try.underlying36 (by kernel_rfl) (by decide) (fun n cs y h => row_trod Try.underlying25 Try.underlying3 (by kernel_rfl) h) hval hd
  exact ⟨xs, h1, by have := h2.lenOf.reachB (k := 24) Try.underlying36 (by kernel_rfl) hw; omega, h2.rows Try.underlying36 Try.underlying25 (by kernel_rfl) hw⟩
end
end Go.Proofs.Ytkanaoebpajbfaa
