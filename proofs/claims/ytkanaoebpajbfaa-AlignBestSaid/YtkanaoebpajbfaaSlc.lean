/- What is left of a row behind its first one. -/
import Derived.Test.YtkanaoebpajbfaaPairEq
namespace Go.Proofs.Ytkanaoebpajbfaa
open Go.RowKit Go.Tok
set_option linter.unusedVariables false
set_option maxHeartbeats 1000000 in
theorem run_slice1 {b o n cap : Nat} (h : n + 1 ≤ cap) (h2 : cap ≤ 9223372036854775807) (w : World) :
    (Go.Instr.slice 25 (.slice (some ⟨b, o, none⟩) (n + 1) cap) (some (.int .i64 1)) none none).run Try.prog w = .ok (.slice (some (if cap = 1 then ⟨b, o, none⟩ else ⟨b, o + 1, none⟩)) n (cap - 1)) w := by
  have h3 : (0 : Int) ≤ 1 ∧ (1 : Int) ≤ ((n + 1 : Nat) : Int) := by omega
  unfold Go.Instr.slice
  simp only [Sem.run_bind, run_underlying Try.underlying25, Result.andThen_ok]
  unfold Go.Instr.sliceBounds Go.Instr.sliceBound
  simp only [Sem.run_bind, Sem.run_pure, asIntOf, Result.andThen_ok, if_pos h3, Try.sizeOf3]
  have e : (1 : Int).toNat = 1 := rfl
  rw [e]
  by_cases hc : cap = 1
  · rw [if_pos hc, if_pos hc]; simp
  · rw [if_neg hc, if_neg hc]; simp [Addr.add]
end Go.Proofs.Ytkanaoebpajbfaa
