/- Contract of the library's slices.Reverse at '[]int', at a row of the caller's own. -/
import Derived.Test.YtbopachnkbjmfaaGM
import Derived.Test.YtbopachnkbjmfaaPA
import Derived.Deep.RegionHeld3
namespace Go.Proofs.Ytbopachnkbjmfaa
open Go.RowKit Go.Tok
set_option linter.unusedVariables false

set_option maxHeartbeats 4000000 in
set_option maxRecDepth 100000 in
theorem Reverse_calls (v : Value) (xs : List Int) (base : Nat) (w : World) (hv : OwnI 3 base w v xs) (hbase : base ≤ w.heap.size) :
    Calls Try.prog 87 #[v] w fun e w' => e = .returned (.tuple #[]) ∧ OwnI 3 base w' v xs.reverse ∧ (∀ a : World, a.heap.size ≤ base → Gr a w → Gr a w') := by
  have T := intTy
  obtain ⟨a, cap, rfl, hlc, hcap⟩ := hv.ints.len
  go_enter Try.func87, Try.ntmps87
  go_wp2_with fail
  go_loopw [2, 3] (fun i j wr => ∃ k : Nat, 2 * k ≤ xs.length + 1 ∧ i = .int .i64 k ∧ j = .int .i64 ((xs.length : Int) - 1 - k) ∧ OwnI 3 base wr (.slice a xs.length cap) (revUpto xs k) ∧ (∀ a : World, a.heap.size ≤ base → Gr a w → Gr a wr)) (fun i _ _ => xs.length - (intOf i).toNat)
  case atStart => exact ⟨0, by omega, rfl, by simp, by rw [revUpto_zero]; exact hv, fun _ _ h => h⟩
  case round =>
    rename_i wr
    obtain ⟨k, hk, rfl, rfl, ho, hgr⟩ := hrel
    by_cases hlt : 2 * k + 1 < xs.length
    · rcases ho.form with ⟨h1, h2⟩ | ⟨g, cap', h1, hg1, hg2, _, _⟩
      · simp only [Value.slice.injEq] at h1; omega
      · simp only [Value.slice.injEq] at h1
        obtain ⟨rfl, _, rfl⟩ := h1
        have c1 := ho.cell (i := k) (by rw [revUpto_len]; omega)
        have c2 := ho.cell (i := xs.length - 1 - k) (by rw [revUpto_len]; omega)
        rw [revUpto_left xs hlt] at c1
        rw [revUpto_right xs hlt] at c2
        obtain ⟨j, hj⟩ : ∃ j, j = xs.length - 1 - k := ⟨_, rfl⟩
        have hj' : (xs.length : Int) - 1 - k = (j : Int) := by omega
        rw [hj']
        rw [← hj] at c2
        have f1 := ho.frozen k
        have o1 := ho.set k (nth xs j) (hv.ints.range j)
        have o2 := o1.set j (nth xs k) (hv.ints.range k)
        have f2 := o1.frozen j
        have q1 : (0 : Int) ≤ (k : Int) := by omega
        have q2 : (k : Int) < (xs.length : Int) := by omega
        have q3 : (0 : Int) ≤ (j : Int) := by omega
        have q4 : (j : Int) < (xs.length : Int) := by omega
        have q5 : (k : Int) < (j : Int) := by omega
        have HJ := Lib.hid hj
        have HLT := Lib.hid hlt
        clear hj hj' hlt
        go_wp2_with fail
        go_region
        all_goals go_wp2_with fail
        have hx := HJ.out
        have hlt := HLT.out
        refine ⟨⟨k + 1, by omega, by simp, by rw [show (j : Int) - 1 = (xs.length : Int) - 1 - ((k + 1 : Nat) : Int) by omega], ?_, ?_⟩, by simp [intOf]; omega⟩
        · rw [← revUpto_succ xs hlt, ← hx]; exact o2.drew
        · intro a' h1 h2
          exact (((hgr a' h1 h2).setCell (by simp; omega) _).setCell (by simp; omega) _).drew
    · have q5 : ¬ ((k : Int) < (xs.length : Int) - 1 - k) := by omega
      go_wp2_with fail
      refine bodyPost_end (results_none rfl _ _ _) rfl ?_
      refine ⟨rfl, ?_, hgr⟩
      rw [← revUpto_all xs (k := k) (by omega)]
      exact ho
end Go.Proofs.Ytbopachnkbjmfaa
