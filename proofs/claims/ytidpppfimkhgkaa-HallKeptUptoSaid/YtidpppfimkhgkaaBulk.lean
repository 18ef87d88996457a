/- The second form's bound, and what it says of the arguments. -/
import Derived.Test.YtidpppfimkhgkaaOpen
namespace Go.Proofs.Ytidpppfimkhgkaa
open Go.RowKit Go.Tok Go.ChangeShapes Go.WideShapes Go.ChangeAt
set_option linter.unusedVariables false

section
variable {H : Type} {enc : TypeId × Value → H}
theorem bulk_mem {d : DataW H} {l : List (DataW H)} (h : d ∈ l) : Rows.uptoBulk d ≤ Rows.uptoBulkAll l := by
  induction l with
  | nil => cases h
  | cons x r ih =>
    rw [Rows.uptoBulkAll]
    rcases List.mem_cons.1 h with rfl | h1
    · omega
    · have := ih h1; omega
theorem bulk_pos (d : DataW H) : 1 ≤ Rows.uptoBulk d := by
  cases d with
  | lit l => cases l <;> simp [Rows.uptoBulk]
  | _ => simp [Rows.uptoBulk]
theorem bulk_len (l : List (DataW H)) : l.length ≤ Rows.uptoBulkAll l := by
  induction l with
  | nil => simp
  | cons x r ih =>
    rw [Rows.uptoBulkAll, List.length_cons]
    have := bulk_pos x
    omega
theorem LenOf.bulk {d : DataW H} {n : Nat} (h : LenOf d n) : n ≤ Rows.uptoBulk d := by
  rcases h with ⟨rfl, rfl⟩ | ⟨es, sp, rfl, rfl⟩
  · omega
  · rw [Rows.uptoBulk]
    have := bulk_len es
    omega

set_option maxRecDepth 100000 in
theorem ints_argU (W : World) {base : Nat} {v : Value} {d : DataW H} {ps : List MemPlace} (hval : Value.okWide Try.prog W .any base 32 v) (hd : DataW.Trod enc Try.prog W 0 (fun _ => true) true 32 v d ps)
    (hb : Rows.uptoBulk d ≤ 1048576) : ∃ xs, Ints W v xs ∧ xs.length ≤ 1048576 := by
  obtain ⟨xs, h1, h2⟩ := ints_open Try.underlying32 Try.underlying3 (by kernel_rfl) hval hd
  exact ⟨xs, h1, by have := LenOf.bulk h2; omega⟩
set_option maxRecDepth 100000 in
theorem net_argU (W : World) {base : Nat} {v : Value} {d : DataW H} {ps : List MemPlace} (hval : Value.okWide Try.prog W .any base 28 v) (hd : DataW.Trod enc Try.prog W 0 (fun _ => true) true 28 v d ps)
    (hb : Rows.uptoBulk d ≤ 1048576) : ∃ N, NetR W v N := by
  obtain ⟨fn, ft, T⟩ := netTy
  obtain ⟨N, h1, _⟩ := net_open T hval hd
  exact ⟨N, h1⟩
end
end Go.Proofs.Ytidpppfimkhgkaa
