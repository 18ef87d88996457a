/- The walk of GrowFree: at every block it answers true. -/
import Derived.Test.YtjpapgbdhflgnaaAlive11
import Derived.Test.YtjpapgbdhflgnaaGP
namespace Go.Proofs.Ytjpapgbdhflgnaa
open Go.RowKit Go.Tok
set_option linter.unusedVariables false
theorem growN_ok {n : Nat} {b : BlockD} {w : World} {v : Value} {N : NetD} (hr : BlockR n w v b) (h : growN (n + 1) b = (N, 0)) : ∃ s, OkB (n + 1) b ∧ growF (n + 1) b 0 1 ⟨2, []⟩ = some s ∧ N = netOf s := by
  unfold growN at h
  split at h
  · rename_i hw
    cases hf : growF (n + 1) b 0 1 ⟨2, []⟩ with
    | none => rw [hf] at h; exact absurd (Prod.mk.inj h).2 (by decide)
    | some s => rw [hf] at h; exact ⟨s, wrongB_ok hr hw, rfl, (Prod.mk.inj h).1.symm⟩
  · rename_i hw
    exact absurd (Prod.mk.inj h).2 hw
theorem growN_free {n : Nat} {b : BlockD} {w : World} {v : Value} {N : NetD} (hr : BlockR n w v b) (h : growN (n + 1) b = (N, 0)) : netOkB N = true ∧ ∀ i j p, i < N.trans.length → j < N.trans.length → 0 < nth (N.tr i).pre p → 0 < nth (N.tr j).pre p → (N.tr i).pre = (N.tr j).pre := by
  obtain ⟨s, h1, h2, rfl⟩ := growN_ok hr h
  exact ⟨grown_net (grow_ok h1 h2), fun i j p hi hj a b => net_free h1 h2 hi hj a b⟩
theorem growN_bad {n : Nat} {b : BlockD} {N : NetD} {e : Int} (h : growN (n + 1) b = (N, e)) (he : e ≠ 0) : N = ⟨0, []⟩ := by
  unfold growN at h
  split at h
  · cases hf : growF (n + 1) b 0 1 ⟨2, []⟩ with
    | none => rw [hf] at h; exact (Prod.mk.inj h).1.symm
    | some s => rw [hf] at h; exact absurd (Prod.mk.inj h).2.symm he
  · exact (Prod.mk.inj h).1.symm
end Go.Proofs.Ytjpapgbdhflgnaa
