/- The journal's arguments' types, opened. -/
import Derived.Test.YtkpbhkfpkoiilaaOpen
import Derived.Test.YtkpbhkfpkoiilaaBulk
import Derived.Test.YtkpbhkfpkoiilaaArgGen
namespace Go.Proofs.Ytkpbhkfpkoiilaa
open Go.RowKit Go.Tok Go.ChangeShapes Go.WideShapes Go.ChangeAt
set_option linter.unusedVariables false
section
variable {H : Type} {enc : TypeId × Value → H}
theorem ops_arg (W : World) {base : Nat} {v : Value} {d : DataW H} {ps : List MemPlace} (hval : Value.okWide Try.prog W .any base 24 v) (hd : DataW.Trod enc Try.prog W 0 (fun _ => true) true 24 v d ps)
    (hw : ∀ n ∈ d.weights Try.prog 24, n ≤ reachBytes) : ∃ xs, Rd opK W v xs ∧ xs.length ≤ 3518437208873 := by
  obtain ⟨xs, h1, h2⟩ := rd_open (K := opK) (D := fun _ _ => True) Try.underlying24 (by kernel_rfl) (by decide) (fun n cs y h => five_trod Try.underlying33 Try.underlying3 (by kernel_rfl) (by kernel_rfl) ⟨_, _, _, _, _, rfl, rfl, rfl, rfl, rfl, rfl, rfl, rfl, rfl, rfl, rfl⟩ h) hval hd
  exact ⟨xs, h1, by have := h2.lenOf.reachB (k := 40) Try.underlying24 (by kernel_rfl) hw; omega⟩
theorem bytes_argU (W : World) {base : Nat} {v : Value} {d : DataW H} {ps : List MemPlace} (hval : Value.okWide Try.prog W .any base 22 v) (hd : DataW.Trod enc Try.prog W 0 (fun _ => true) true 22 v d ps)
    (hb : Rows.uptoBulk d ≤ 1048576) : ∃ xs, Rd byteK W v xs ∧ xs.length ≤ 1048576 := by
  obtain ⟨xs, h1, h2⟩ := rd_open (K := byteK) (D := fun _ _ => True) Try.underlying22 (by kernel_rfl) (by decide) (fun n cs y h => byte_trod Try.underlying5 h) hval hd
  exact ⟨xs, h1, by have := LenOf.bulk h2.lenOf; omega⟩
theorem u8_open {W : World} {base : Nat} {t : TypeId} {v : Value} {d : DataW H} {ps : List MemPlace} (ht : Try.prog.underlying t = some (.int .u8)) (hval : Value.okWide Try.prog W .any base t v)
    (hd : DataW.Trod enc Try.prog W 0 (fun _ => true) true t v d ps) : ∃ n : Nat, v = .int .u8 (n : Int) ∧ n < 256 := by
  obtain ⟨n, rfl, _, _, hw⟩ := open_int ht hval hd
  have hb : 0 ≤ n ∧ n < 256 := by
    simp [Lit.wf, IntKind.min, IntKind.max, IntKind.bits, IntKind.signed] at hw
    omega
  obtain ⟨q, rfl⟩ := Int.eq_ofNat_of_zero_le hb.1
  exact ⟨q, rfl, by omega⟩
end
end Go.Proofs.Ytkpbhkfpkoiilaa
