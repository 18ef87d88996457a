/- Contracts of strings.SplitAfter and text.Parse$1. -/
import Derived.Test.YtiflolklgmmgeaaDoorText4
import Derived.Test.YtiflolklgmmgeaaDoorTextLaw3
import Derived.Test.YtiflolklgmmgeaaDoorPA
namespace Go.Proofs.YtiflolklgmmgeaaDoor
open Go.RowKit Go.Tok
set_option linter.unusedVariables false
theorem no_calls (k : Int) (w : World) : Calls Tryd.prog 14 #[.int .i64 k] w fun e w' => e = .returned (.tuple #[.agg #[.int .i64 0, .slice none 0 0], .int .i64 k, .int .i64 1]) ∧ Gr w w' := by
  go_enter Tryd.func14, Tryd.ntmps14
  go_wp2_with fail
  refine bodyPost_ret (v := .tuple #[.agg #[.int .i64 0, .slice none 0 0], .int .i64 k, .int .i64 1]) (by simp [results, Tryd.results14, go_sem]) rfl ?_
  exact ⟨rfl, (Gr.refl _).alloc _⟩
theorem split_calls (s : List UInt8) (w : World) (hs : s.length ≤ 100000000) (hT : TabW w) : Calls Tryd.prog 12 #[.string (strB s), .string (strB [10])] w fun e w' => ∃ A, e = .returned (.slice (some ⟨A, 0, none⟩) (splitL s).length (splitL s).length) ∧ w.heap.size ≤ A ∧ StrsAt w' A (splitL s) ∧ Gr w w' := by
  obtain ⟨m, hm⟩ := hT.mx
  have hcl := Lib.countB_le (strB [10]) (by decide) _ (strB s) (Nat.le_refl _)
  have hlen := Lib.splitB_all (strB [10]) (by decide) 1 _ (strB s) rfl
  have hd : (Lib.splitB (strB [10]) 1 (Lib.countB (strB s) (strB [10])) (strB s)).map (·.data.toList) = splitL s := by
    rw [Lib.splitB_data]
    exact splitK_line s
  have hn : Lib.countB (strB s) (strB [10]) + 1 = (splitL s).length := by rw [← hd, List.length_map, hlen]
  have HG : Hid (Calls Tryd.prog 31 #[.string (strB s), .string (strB [10]), .int .i64 1, .int .i64 (-1)] w fun e w' => e = .returned (.slice (some ⟨w.heap.size, 0, none⟩) (splitL s).length (splitL s).length) ∧ StrsAt w' w.heap.size (splitL s) ∧ Gr w w') := Lib.hid (by
    refine (Tryd.strings_genSplit (strB s) (strB [10]) 1 (-1) (Lib.countB (strB s) (strB [10]) + 1) m w (by rw [strB_size]; omega) hm (by decide) (by decide) (by decide) (by decide) (by rw [if_pos (by decide)]; omega)).mono ?_
    rintro e w' ⟨rfl, rfl⟩
    rw [Nat.add_sub_cancel]
    refine ⟨by rw [hlen, hn], ?_, (Gr.refl _).alloc _⟩
    generalize Lib.splitB (strB [10]) 1 (Lib.countB (strB s) (strB [10])) (strB s) = bs at hlen hd
    rw [← hlen, Lib.cellsOf_full]
    have hb : Blk (w.alloc (.cells (bs.map Value.string).toArray 9)) w.heap.size 9 (bs.map Value.string).toArray := Blk.new rfl
    unfold StrsAt
    intro i hi
    refine hb.cell ?_
    rw [← hd, List.length_map] at hi
    rw [← hd]
    simp [hi]
    exact strB_of _)
  have e1 : ((strB [10]).size : Int) = 1 := rfl
  clear hd hlen hcl hn hm
  go_enter Tryd.func12, Tryd.ntmps12
  go_wp2_with fail
  refine HG.out.mono ?_
  rintro _ w1 ⟨rfl, hS, g1⟩
  go_wp2_with fail
  go_ret
  exact ⟨_, rfl, Nat.le_refl _, hS, g1⟩
end Go.Proofs.YtiflolklgmmgeaaDoor
