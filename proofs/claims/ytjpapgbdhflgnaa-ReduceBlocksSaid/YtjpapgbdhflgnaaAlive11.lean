/- Contract of alive11: the law's own look at grow.Grow. -/
import Derived.Test.YtjpapgbdhflgnaaGK2
import Derived.Test.YtjpapgbdhflgnaaGM
namespace Go.Proofs.Ytjpapgbdhflgnaa
open Go.RowKit Go.Tok
set_option linter.unusedVariables false
set_option maxRecDepth 100000 in
theorem kstep_calls (n : Int) (w : World) : Calls Try.prog 14 #[.int .i64 n] w fun e w' => e = .returned (.agg #[.int .i64 2, .int .i64 n, .slice none 0 0]) ∧ Gr w w' := by
  have b := Blk.new (w := w) (H := w.heap.size) (t := 24) (cs := #[.int .i64 2, .int .i64 n, .slice none 0 0]) rfl
  have c0 := b.cell (i := 0) (v := .int .i64 2) rfl
  have c1 := b.cell (i := 1) (v := .int .i64 n) rfl
  have c2 := b.cell (i := 2) (v := .slice none 0 0) rfl
  go_enter Try.func14, Try.ntmps14
  go_wp2_with fail
  refine bodyPost_ret (v := .agg #[.int .i64 2, .int .i64 n, .slice none 0 0]) (by simp [results, Try.results14, go_sem, c0, c1, c2]) rfl ?_
  exact ⟨rfl, (Gr.refl _).alloc _⟩
set_option maxRecDepth 100000 in
theorem kmany_calls (k : Int) (a : Option Addr) (n c : Nat) (w : World) : Calls Try.prog 13 #[.int .i64 k, .slice a n c] w fun e w' => e = .returned (.agg #[.int .i64 k, .int .i64 0, .slice a n c]) ∧ Gr w w' := by
  have b := Blk.new (w := w) (H := w.heap.size) (t := 24) (cs := #[.int .i64 k, .int .i64 0, .slice a n c]) rfl
  have c0 := b.cell (i := 0) (v := .int .i64 k) rfl
  have c1 := b.cell (i := 1) (v := .int .i64 0) rfl
  have c2 := b.cell (i := 2) (v := .slice a n c) rfl
  go_enter Try.func13, Try.ntmps13
  go_wp2_with fail
  refine bodyPost_ret (v := .agg #[.int .i64 k, .int .i64 0, .slice a n c]) (by simp [results, Try.results13, go_sem, c0, c1, c2]) rfl ?_
  exact ⟨rfl, (Gr.refl _).alloc _⟩
theorem two_kids {w : World} {H : Nat} {t : TypeId} {x y : Int} (hH : w.heap.size = H) (hx : I64 x) (hy : I64 y) : Rd (blkK 1) (w.alloc (.cells #[.int .i64 2, .int .i64 x, .slice none 0 0, .int .i64 2, .int .i64 y, .slice none 0 0] t)) (.slice (some ⟨H, 0, none⟩) 2 2) [.mk 2 x [], .mk 2 y []] := by
  subst hH
  refine rd_mk (a := some ⟨w.heap.size, 0, none⟩) (cap := 2) rfl (by simp) (by unfold maxLen; omega) (by simp) fun i hi => ?_
  rcases i with _ | _ | i
  · rw [ix_zero]
    refine ⟨w.heap.size, 0, [.int .i64 2, .int .i64 x, .slice none 0 0], rfl, ⟨.slice none 0 0, rfl, (show I64 2 by decide), hx, Rd.nil _⟩, fun j u hj => ?_⟩
    rw [blkK_size]
    match j, hj with
    | 0, hj => cases hj; exact box_cell (Gr.refl _) (i := 0) rfl
    | 1, hj => cases hj; exact box_cell (Gr.refl _) (i := 1) rfl
    | 2, hj => cases hj; exact box_cell (Gr.refl _) (i := 2) rfl
  · rw [show ix [BlockD.mk 2 x [], BlockD.mk 2 y []] (0 + 1) = BlockD.mk 2 y [] by rw [ix_succ, ix_zero]]
    refine ⟨w.heap.size, 0, [.int .i64 2, .int .i64 y, .slice none 0 0], rfl, ⟨.slice none 0 0, rfl, (show I64 2 by decide), hy, Rd.nil _⟩, fun j u hj => ?_⟩
    rw [blkK_size]
    match j, hj with
    | 0, hj => cases hj; exact box_cell (Gr.refl _) (i := 3) rfl
    | 1, hj => cases hj; exact box_cell (Gr.refl _) (i := 4) rfl
    | 2, hj => cases hj; exact box_cell (Gr.refl _) (i := 5) rfl
  · simp at hi; omega
theorem grow11 : growN 2 (.mk 3 0 [.mk 2 4 [], .mk 2 5 []]) = (⟨3, [⟨4, [1, 0, 0], [0, 0, 1]⟩, ⟨5, [0, 0, 1], [0, 1, 0]⟩]⟩, 0) := by decide
end Go.Proofs.Ytjpapgbdhflgnaa
