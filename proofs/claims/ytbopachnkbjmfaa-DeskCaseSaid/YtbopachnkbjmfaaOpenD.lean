/- The desk's arguments' types, opened. -/
import Derived.Test.YtbopachnkbjmfaaOpen
import Derived.Test.YtbopachnkbjmfaaPD
namespace Go.Proofs.Ytbopachnkbjmfaa
open Go.RowKit Go.Tok Go.ChangeShapes Go.WideShapes Go.ChangeAt
set_option linter.unusedVariables false
section
variable {H : Type} {enc : TypeId × Value → H}
set_option maxRecDepth 100000 in
theorem ops_arg (W : World) {base : Nat} {v : Value} {d : DataW H} {ps : List MemPlace} (hval : Value.okWide Try.prog W .any base 43 v) (hd : DataW.Trod enc Try.prog W 0 (fun _ => true) true 43 v d ps)
    (hw : ∀ n ∈ d.weights Try.prog 43, n ≤ reachBytes) : ∃ xs, Rd opK W v xs ∧ xs.length ≤ 3518437208873 := by
  obtain ⟨xs, h1, h2⟩ := rd_open (K := opK) (D := fun _ _ => True) Try.underlying43 (by kernel_rfl) (by decide) (fun n cs y h => five_trod Try.underlying59 Try.underlying3 (by kernel_rfl) (by kernel_rfl) ⟨_, _, _, _, _, rfl, rfl, rfl, rfl, rfl, rfl, rfl, rfl, rfl, rfl, rfl⟩ h) hval hd
  exact ⟨xs, h1, by have := h2.lenOf.reachB (k := 40) Try.underlying43 (by kernel_rfl) hw; omega⟩
set_option maxRecDepth 100000 in
theorem mat_arg (W : World) {base : Nat} {v : Value} {d : DataW H} {ps : List MemPlace} (hval : Value.okWide Try.prog W .any base 42 v) (hd : DataW.Trod enc Try.prog W 0 (fun _ => true) true 42 v d ps)
    (hw : ∀ n ∈ d.weights Try.prog 42, n ≤ reachBytes) : ∃ xs, Rd rowK W v xs ∧ xs.length ≤ 5864062014805 := by
  obtain ⟨xs, h1, h2⟩ := rd_open (K := rowK) (D := fun e z => LenOf e z.length) Try.underlying42 (by kernel_rfl) (by decide) (fun n cs y h => row_trod Try.underlying25 Try.underlying3 (by kernel_rfl) h) hval hd
  exact ⟨xs, h1, by have := h2.lenOf.reachB (k := 24) Try.underlying42 (by kernel_rfl) hw; omega⟩
end
end Go.Proofs.Ytbopachnkbjmfaa
