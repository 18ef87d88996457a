/- Contract of net.Turned: the call answers the net with each transition's lists exchanged, at any net that reads as data with at most 2513169434916 transitions, each list of at most 17592186044416 elements; nothing that lay there turns. -/
import Derived.Test.YtelfbfjegmncaaaNet
import Derived.Test.YtelfbfjegmncaaaSl
import Derived.Test.YtelfbfjegmncaaaNetOwn
import Derived.Deep.RegionHeld3
import Derived.Test.YtelfbfjegmncaaaLast
namespace Go.Proofs.Ytelfbfjegmncaaa
open Go.RowKit Go.Tok
set_option linter.unusedVariables false

theorem tranTy : TranTy Try.prog 26 34 := ⟨Try.underlying26, by kernel_rfl⟩

def NetSmall (N : NetD) : Prop := N.trans.length ≤ 2513169434916 ∧ ∀ k, k < N.trans.length → (N.tr k).pre.length ≤ 17592186044416 ∧ (N.tr k).post.length ≤ 17592186044416

theorem netSmall_ok {N : NetD} (h : netOkB N = true) : NetSmall N := by
  have hs : N.places ≤ 16 ∧ N.trans.length ≤ 24 := by
    have h' := h
    unfold netOkB at h'
    simp only [Bool.and_eq_true, decide_eq_true_eq] at h'
    omega
  refine ⟨by omega, fun k hk => ?_⟩
  have F := netOk_tr h hk
  have := F.pre; have := F.post
  omega
theorem netSmall_of {N : NetD} {m : List Int} (h : fitsB N m = true) : NetSmall N := netSmall_ok (fits_sizes h).2.2.2.2.2.2
end Go.Proofs.Ytelfbfjegmncaaa
