/- Contract of alive13: the law's own look at reduce.Reduce; the test '==' at three ints. -/
import Derived.Test.YtjpapgbdhflgnaaRed10
import Derived.Test.YtjpapgbdhflgnaaAlive11
import Derived.Test.YtjpapgbdhflgnaaPairEq
namespace Go.Tok
set_option linter.unusedVariables false
def blk13 : BlockD := .mk 3 0 [.mk 2 1 [], .mk 2 2 [], .mk 4 0 [.mk 2 3 [], .mk 2 4 []]]
def net13 : NetD := ⟨4, [⟨1, [1, 0, 0, 0], [0, 0, 1, 0]⟩, ⟨2, [0, 0, 1, 0], [0, 0, 0, 1]⟩, ⟨3, [0, 0, 0, 1], [0, 1, 0, 0]⟩, ⟨4, [0, 0, 0, 1], [0, 1, 0, 0]⟩]⟩
theorem grow13 : growN 3 blk13 = (net13, 0) := by decide
theorem shape13 : shapeC net13 0 1 = 0 := by decide +kernel
theorem reduce13 : reduceF ⟨net13, 0, 1⟩ = (⟨⟨2, [⟨1, [1, 0], [0, 1]⟩]⟩, 0, 1⟩, 3) := by
  have h1 : (reduceF ⟨net13, 0, 1⟩).1.net = ⟨2, [⟨1, [1, 0], [0, 1]⟩]⟩ := by decide +kernel
  have h2 : (reduceF ⟨net13, 0, 1⟩).1.i = 0 ∧ (reduceF ⟨net13, 0, 1⟩).1.o = 1 ∧ (reduceF ⟨net13, 0, 1⟩).2 = 3 := by decide +kernel
  rcases h : reduceF ⟨net13, 0, 1⟩ with ⟨⟨n, i, o⟩, k⟩
  rw [h] at h1 h2
  obtain ⟨rfl, rfl, rfl⟩ := h2
  simp only at h1
  rw [h1]
end Go.Tok
namespace Go.Proofs.Ytjpapgbdhflgnaa
open Go.RowKit Go.Tok
set_option linter.unusedVariables false
set_option maxRecDepth 100000 in
theorem run_eq_tri (x1 x2 x3 y1 y2 y3 : Int) (w : World) : (Op.equalIn 10000 33 (.agg #[.int .i64 x1, .int .i64 x2, .int .i64 x3]) (.agg #[.int .i64 y1, .int .i64 y2, .int .i64 y3])).run Try.prog w = .ok ((x1 == y1) && ((x2 == y2) && (x3 == y3))) w := by
  show (Op.equalIn (9998 + 1 + 1) 33 _ _).run Try.prog w = _
  rw [Op.equalIn]
  simp only [Sem.run_bind, run_underlying Try.underlying33, Result.andThen_ok]
  rcases h1 : x1 == y1 with _ | _ <;> rcases h2 : x2 == y2 with _ | _ <;> rcases h3 : x3 == y3 with _ | _ <;>
    simp [go_sem, Std.Legacy.Range.forIn_eq_forIn_range', List.range', h1, h2, h3, Try.underlying3, Try.sizeOf3]
theorem three_kids {w : World} {H : Nat} {t : TypeId} {x y : Int} {sl : Value} {ks : List BlockD} (hH : w.heap.size = H) (hx : I64 x) (hy : I64 y) (hs : Rd (blkK 1) w sl ks) :
    Rd (blkK 2) (w.alloc (.cells #[.int .i64 2, .int .i64 x, .slice none 0 0, .int .i64 2, .int .i64 y, .slice none 0 0, .int .i64 4, .int .i64 0, sl] t)) (.slice (some ⟨H, 0, none⟩) 3 3) [.mk 2 x [], .mk 2 y [], .mk 4 0 ks] := by
  subst hH
  refine rd_mk (a := some ⟨w.heap.size, 0, none⟩) (cap := 3) rfl (by simp) (by unfold maxLen; omega) (by simp) fun i hi => ?_
  rcases i with _ | _ | _ | i
  · rw [ix_zero]
    refine ⟨w.heap.size, 0, [.int .i64 2, .int .i64 x, .slice none 0 0], rfl, ⟨.slice none 0 0, rfl, (show I64 2 by decide), hx, Rd.nil _⟩, fun j u hj => ?_⟩
    rw [blkK_size]
    match j, hj with
    | 0, hj => cases hj; exact box_cell (Gr.refl _) (i := 0) rfl
    | 1, hj => cases hj; exact box_cell (Gr.refl _) (i := 1) rfl
    | 2, hj => cases hj; exact box_cell (Gr.refl _) (i := 2) rfl
  · rw [show ix [BlockD.mk 2 x [], BlockD.mk 2 y [], BlockD.mk 4 0 ks] (0 + 1) = BlockD.mk 2 y [] by rw [ix_succ, ix_zero]]
    refine ⟨w.heap.size, 0, [.int .i64 2, .int .i64 y, .slice none 0 0], rfl, ⟨.slice none 0 0, rfl, (show I64 2 by decide), hy, Rd.nil _⟩, fun j u hj => ?_⟩
    rw [blkK_size]
    match j, hj with
    | 0, hj => cases hj; exact box_cell (Gr.refl _) (i := 3) rfl
    | 1, hj => cases hj; exact box_cell (Gr.refl _) (i := 4) rfl
    | 2, hj => cases hj; exact box_cell (Gr.refl _) (i := 5) rfl
  · rw [show ix [BlockD.mk 2 x [], BlockD.mk 2 y [], BlockD.mk 4 0 ks] (0 + 1 + 1) = BlockD.mk 4 0 ks by rw [ix_succ, ix_succ, ix_zero]]
    refine ⟨w.heap.size, 0, [.int .i64 4, .int .i64 0, sl], rfl, ⟨sl, rfl, (show I64 4 by decide), (show I64 0 by decide), hs.gr ((Gr.refl _).alloc _)⟩, fun j u hj => ?_⟩
    rw [blkK_size]
    match j, hj with
    | 0, hj => cases hj; exact box_cell (Gr.refl _) (i := 6) rfl
    | 1, hj => cases hj; exact box_cell (Gr.refl _) (i := 7) rfl
    | 2, hj => cases hj; exact box_cell (Gr.refl _) (i := 8) rfl
  · simp at hi; omega
set_option maxHeartbeats 4000000 in
set_option maxRecDepth 100000 in
theorem alive13_calls (w : World) : Calls Try.prog 6 #[] w fun e w' => e = .returned (.bool true) ∧ Gr w w' := by
  go_enter Try.func6, Try.ntmps6
  go_wp2_with fail
  refine (kstep_calls 1 _).mono ?_
  rintro _ w1 ⟨rfl, g1⟩
  go_wp2_with fail
  refine (kstep_calls 2 _).mono ?_
  rintro _ w2 ⟨rfl, g2⟩
  go_wp2_with fail
  refine (kstep_calls 3 _).mono ?_
  rintro _ w3 ⟨rfl, g3⟩
  go_wp2_with fail
  refine (kstep_calls 4 _).mono ?_
  rintro _ w4 ⟨rfl, g4⟩
  go_wp2_with fail
  refine (kmany_calls 4 _ _ _ _).mono ?_
  rintro _ w5 ⟨rfl, g5⟩
  have hk := (two_kids (w := w4) (H := w4.heap.size) (t := 24) (x := 3) (y := 4) rfl (by decide) (by decide)).gr g5
  have G5 : Gr w w5 := (((g1.trans g2).trans g3).trans g4).trans (box_gr g5)
  go_wp2_with fail
  refine (kmany_calls 3 _ _ _ _).mono ?_
  rintro _ w6 ⟨rfl, g6⟩
  have hk6 := (three_kids (w := w5) (H := w5.heap.size) (t := 24) (x := 1) (y := 2) rfl (by decide) (by decide) hk).gr g6
  have hb : BlockR 2 w6 (.agg #[.int .i64 3, .int .i64 0, .slice (some ⟨w5.heap.size, 0, none⟩) 3 3]) blk13 := ⟨_, rfl, by decide, by decide, hk6⟩
  have G6 : Gr w w6 := G5.trans (box_gr g6)
  clear hk hk6 g1 g2 g3 g4 g5 g6 G5
  go_wp2_with fail
  refine (Grow_calls 2 _ _ _ hb).mono ?_
  rintro _ w7 hr
  obtain ⟨v7, rfl, hN, g7⟩ := hr.out
  rw [grow13] at hN ⊢
  simp only [] at hN
  obtain ⟨na, nc, rfl, hn1, hn2, _, hT⟩ := hN.open_
  have hl : net13.trans.length = 4 := rfl
  have hp : net13.places = 4 := rfl
  have gx : Gr w7 (w7.alloc (.cells #[.int .i64 net13.places, .slice na net13.trans.length nc] 28)) := (Gr.refl _).alloc _
  have nx : Blk (w7.alloc (.cells #[.int .i64 net13.places, .slice na net13.trans.length nc] 28)) w7.heap.size 28 #[.int .i64 net13.places, .slice na net13.trans.length nc] := Blk.new rfl
  have x0 := nx.cell (i := 0) (v := .int .i64 net13.places) rfl
  have x1 := nx.cell (i := 1) (v := .slice na net13.trans.length nc) rfl
  have G7 := (G6.trans g7).trans gx
  have HN := Lib.hid (hN.gr gx)
  clear hr hT hN nx hb hn1 hn2 hl hp g7 gx G6
  go_wp2_with fail
  refine (Reduce_calls _ net13 0 1 _ HN.out (by decide) (by decide)).mono ?_
  rintro _ w8 hr
  obtain ⟨v8, y1, y2, y3, y4, rfl, g8, hc⟩ := hr.out
  rw [shape13, reduce13] at hc
  obtain ⟨rfl, hM, rfl, rfl, rfl⟩ : y4 = 0 ∧ NetR w8 v8 ⟨2, [⟨1, [1, 0], [0, 1]⟩]⟩ ∧ y1 = 0 ∧ y2 = 1 ∧ y3 = 3 := by
    rcases hc with ⟨h1, _, h2, h3, h4, h5⟩ | ⟨_, h1, _⟩
    · exact ⟨h1, h2, h3, h4, h5⟩
    · exact absurd rfl h1
  clear hr hc
  obtain ⟨ma, mc, rfl, hm1, hm2, _, hT⟩ := hM.open_
  obtain ⟨tb, tq, p0, q0, rfl, c00, c01, c02, _, _, _⟩ := hT.at_ (N := ⟨2, [⟨1, [1, 0], [0, 1]⟩]⟩) (i := 0) (by simp)
  have t0 : (⟨2, [⟨1, [1, 0], [0, 1]⟩]⟩ : NetD).tr 0 = ⟨1, [1, 0], [0, 1]⟩ := by unfold NetD.tr; rfl
  rw [t0] at c00
  have d0 : w8.cell? ⟨tb, tq, none⟩ = some (.int .i64 1) := c00
  have hm3 : 1 ≤ mc := by simpa using hm1
  have HE := fun w => run_eq_tri 0 1 3 0 1 3 w
  clear c00 c01 c02 hM hT hm1 t0
  have gz : Gr w8 ((w8.alloc (.cells #[.int .i64 2, .slice (some ⟨tb, tq, none⟩) 1 mc] 28)).alloc (.cells #[.int .i64 0, .int .i64 1, .int .i64 3] 33)) := ((Gr.refl _).alloc _).alloc _
  replace d0 := cell_gr d0 gz
  have GZ := (G7.trans g8).trans gz
  clear gz g8 G7
  go_wp2_with fail
  go_ret
  exact ⟨rfl, GZ⟩
end Go.Proofs.Ytjpapgbdhflgnaa
