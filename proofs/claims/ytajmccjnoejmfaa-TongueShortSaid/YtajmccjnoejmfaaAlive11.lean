/- Contract of alive11: the law's own look at grow.Grow. -/
import Derived.Test.YtajmccjnoejmfaaGrow8
import Derived.Test.YtajmccjnoejmfaaGM
namespace Go.Proofs.Ytajmccjnoejmfaa
open Go.RowKit Go.Tok
set_option linter.unusedVariables false
set_option maxRecDepth 100000 in
theorem kstep_calls (n : Int) (w : World) : Calls Try.prog 33 #[.int .i64 n] w fun e w' => e = .returned (.agg #[.int .i64 2, .int .i64 n, .slice none 0 0]) ∧ Gr w w' := by
  have b := Blk.new (w := w) (H := w.heap.size) (t := 24) (cs := #[.int .i64 2, .int .i64 n, .slice none 0 0]) rfl
  have c0 := b.cell (i := 0) (v := .int .i64 2) rfl
  have c1 := b.cell (i := 1) (v := .int .i64 n) rfl
  have c2 := b.cell (i := 2) (v := .slice none 0 0) rfl
  go_enter Try.func33, Try.ntmps33
  go_wp2_with fail
  refine bodyPost_ret (v := .agg #[.int .i64 2, .int .i64 n, .slice none 0 0]) (by simp [results, Try.results33, go_sem, c0, c1, c2]) rfl ?_
  exact ⟨rfl, (Gr.refl _).alloc _⟩
set_option maxRecDepth 100000 in
theorem kmany_calls (k : Int) (a : Option Addr) (n c : Nat) (w : World) : Calls Try.prog 32 #[.int .i64 k, .slice a n c] w fun e w' => e = .returned (.agg #[.int .i64 k, .int .i64 0, .slice a n c]) ∧ Gr w w' := by
  have b := Blk.new (w := w) (H := w.heap.size) (t := 24) (cs := #[.int .i64 k, .int .i64 0, .slice a n c]) rfl
  have c0 := b.cell (i := 0) (v := .int .i64 k) rfl
  have c1 := b.cell (i := 1) (v := .int .i64 0) rfl
  have c2 := b.cell (i := 2) (v := .slice a n c) rfl
  go_enter Try.func32, Try.ntmps32
  go_wp2_with fail
  refine bodyPost_ret (v := .agg #[.int .i64 k, .int .i64 0, .slice a n c]) (by simp [results, Try.results32, go_sem, c0, c1, c2]) rfl ?_
  exact ⟨rfl, (Gr.refl _).alloc _⟩
theorem two_kids {w : World} {H : Nat} {t : TypeId} {x y : Int} (hH : w.heap.size = H) (hx : I64 x) (hy : I64 y) : Rd (blkK 1) (w.alloc (.cells #[.int .i64 2, .int .i64 x, .slice none 0 0, .int .i64 2, .int .i64 y, .slice none 0 0] t)) (.slice (some ⟨H, 0, none⟩) 2 2) [.mk 2 x [], .mk 2 y []] := by
  subst hH
  refine rd_mk (a := some ⟨w.heap.size, 0, none⟩) (cap := 2) rfl (by simp) (by unfold maxLen; omega) (by simp) fun i hi => ?_
  rcases i with _ | _ | i
  · rw [ix_zero]
    refine ⟨w.heap.size, 0, [.int .i64 2, .int .i64 x, .slice none 0 0], rfl, ⟨.slice none 0 0, rfl, (show I64 2 by decide), hx, Rd.nil _⟩, fun j u hj => ?_⟩
    rw [blkK_size]
    match j, hj with
    | 0, hj => cases hj; exact box_cell (Gr.refl _) (i := 0) rfl
    | 1, hj => cases hj; exact box_cell (Gr.refl _) (i := 1) rfl
    | 2, hj => cases hj; exact box_cell (Gr.refl _) (i := 2) rfl
  · rw [show ix [BlockD.mk 2 x [], BlockD.mk 2 y []] (0 + 1) = BlockD.mk 2 y [] by rw [ix_succ, ix_zero]]
    refine ⟨w.heap.size, 0, [.int .i64 2, .int .i64 y, .slice none 0 0], rfl, ⟨.slice none 0 0, rfl, (show I64 2 by decide), hy, Rd.nil _⟩, fun j u hj => ?_⟩
    rw [blkK_size]
    match j, hj with
    | 0, hj => cases hj; exact box_cell (Gr.refl _) (i := 3) rfl
    | 1, hj => cases hj; exact box_cell (Gr.refl _) (i := 4) rfl
    | 2, hj => cases hj; exact box_cell (Gr.refl _) (i := 5) rfl
  · simp at hi; omega
theorem grow11 : growN 2 (.mk 3 0 [.mk 2 4 [], .mk 2 5 []]) = (⟨3, [⟨4, [1, 0, 0], [0, 0, 1]⟩, ⟨5, [0, 0, 1], [0, 1, 0]⟩]⟩, 0) := by decide
set_option maxHeartbeats 4000000 in
set_option maxRecDepth 100000 in
theorem alive11_calls (w : World) : Calls Try.prog 12 #[] w fun e w' => e = .returned (.bool true) ∧ Gr w w' := by
  go_enter Try.func12, Try.ntmps12
  go_wp2_with fail
  refine (kstep_calls 4 _).mono ?_
  rintro _ w1 ⟨rfl, g1⟩
  go_wp2_with fail
  refine (kstep_calls 5 _).mono ?_
  rintro _ w2 ⟨rfl, g2⟩
  go_wp2_with fail
  refine (kmany_calls 3 _ _ _ _).mono ?_
  rintro _ w3 ⟨rfl, g3⟩
  have hk := (two_kids (w := w2) (H := w2.heap.size) (t := 24) (x := 4) (y := 5) rfl (by decide) (by decide)).gr g3
  have hb : BlockR 1 w3 (.agg #[.int .i64 3, .int .i64 0, .slice (some ⟨w2.heap.size, 0, none⟩) 2 2]) (.mk 3 0 [.mk 2 4 [], .mk 2 5 []]) := ⟨_, rfl, by decide, by decide, hk⟩
  have GG : Gr w w3 := (g1.trans g2).trans (box_gr g3)
  go_wp2_with fail
  refine (Grow_calls 1 _ _ _ hb).mono ?_
  rintro _ w4 hr
  obtain ⟨v4, rfl, hN, g4⟩ := hr.out
  rw [grow11] at hN ⊢
  simp only [] at hN
  obtain ⟨na, nc, rfl, hn1, hn2, _, hT⟩ := hN.open_
  simp only [List.length_cons, List.length_nil] at hn1
  obtain ⟨tb, to, p0, q0, rfl, c00, c01, c02, _, _, hq0⟩ := hT.at_ (N := ⟨3, [⟨4, [1, 0, 0], [0, 0, 1]⟩, ⟨5, [0, 0, 1], [0, 1, 0]⟩]⟩) (i := 0) (by simp)
  obtain ⟨_, _, p1, q1, he, c10, c11, c12, _, _, _⟩ := hT.at_ (N := ⟨3, [⟨4, [1, 0, 0], [0, 0, 1]⟩, ⟨5, [0, 0, 1], [0, 1, 0]⟩]⟩) (i := 1) (by simp)
  cases he
  have t0 : (⟨3, [⟨4, [1, 0, 0], [0, 0, 1]⟩, ⟨5, [0, 0, 1], [0, 1, 0]⟩]⟩ : NetD).tr 0 = ⟨4, [1, 0, 0], [0, 0, 1]⟩ := by unfold NetD.tr; rfl
  have t1 : (⟨3, [⟨4, [1, 0, 0], [0, 0, 1]⟩, ⟨5, [0, 0, 1], [0, 1, 0]⟩]⟩ : NetD).tr 1 = ⟨5, [0, 0, 1], [0, 1, 0]⟩ := by unfold NetD.tr; rfl
  rw [t0] at hq0
  rw [t1] at c10
  obtain ⟨qa, qc, rfl, hq1, hq2⟩ := hq0.len
  have d02 : w4.cell? ⟨tb, to + 2, none⟩ = some (.slice qa 3 qc) := c02
  have d10 : w4.cell? ⟨tb, to + 3, none⟩ = some (.int .i64 5) := c10
  have hq : Ints w4 (.slice qa 3 qc) [0, 0, 1] := hq0
  have nx : Blk (w4.alloc (.cells #[.int .i64 3, .slice (some ⟨tb, to, none⟩) 2 nc] 28)) w4.heap.size 28 #[.int .i64 3, .slice (some ⟨tb, to, none⟩) 2 nc] := Blk.new rfl
  have x0 := nx.cell (i := 0) (v := .int .i64 3) rfl
  have x1 := nx.cell (i := 1) (v := .slice (some ⟨tb, to, none⟩) 2 nc) rfl
  have gx : Gr w4 (w4.alloc (.cells #[.int .i64 3, .slice (some ⟨tb, to, none⟩) 2 nc] 28)) := (Gr.refl _).alloc _
  have hn22 : (2 : Int) ≤ (nc : Int) := by simp at hn1; omega
  replace d02 := cell_gr d02 gx
  replace d10 := cell_gr d10 gx
  clear c00 c01 c02 c10 c11 c12 hT hN hk hb hq0 hr
  simp only [List.length_cons, List.length_nil, Nat.zero_add, Nat.reduceAdd]
  go_wp2_with fail
  have gl := gx.alloc (.cells #[.int .i64 0, .int .i64 0, .int .i64 1] 3)
  have hlit : Ints ((w4.alloc (.cells #[.int .i64 3, .slice (some ⟨tb, to, none⟩) 2 nc] 28)).alloc (.cells #[.int .i64 0, .int .i64 0, .int .i64 1] 3)) (.slice (some ⟨w4.heap.size + 1, 0, none⟩) 3 3) [0, 0, 1] := Ints.lit (by simp) rfl rfl rfl (by decide) (by simp)
  refine (Equal_calls _ _ [0, 0, 1] [0, 0, 1] _ (hq.gr gl) hlit).mono ?_
  rintro _ w5 ⟨rfl, g5⟩
  replace x1 := cell_gr (cell_gr x1 ((Gr.refl _).alloc (.cells #[.int .i64 0, .int .i64 0, .int .i64 1] 3))) g5
  replace d10 := cell_gr (cell_gr d10 ((Gr.refl _).alloc (.cells #[.int .i64 0, .int .i64 0, .int .i64 1] 3))) g5
  have he : eqB [0, 0, 1] [0, 0, 1] = true := (eqB_iff _ _).2 rfl
  rw [he]
  go_wp2_with fail
  go_ret
  exact ⟨rfl, (GG.trans g4).trans (gl.trans g5)⟩
end Go.Proofs.Ytajmccjnoejmfaa
