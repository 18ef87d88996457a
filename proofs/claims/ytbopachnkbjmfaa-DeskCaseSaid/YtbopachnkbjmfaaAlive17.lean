/- The call alive17 answers true, in whatever world; nothing that lay there turns. -/
import Derived.Test.YtbopachnkbjmfaaDesk7
import Derived.Test.YtbopachnkbjmfaaBlkR
namespace Go.Proofs.Ytbopachnkbjmfaa
open Go.RowKit Go.Tok
set_option linter.unusedVariables false
abbrev net17 : NetD := ⟨2, [⟨3, [1, 0], [0, 1]⟩]⟩
def ops17 : List OpD := [⟨1, 2, 0, 0, 0⟩, ⟨1, 0, 0, 0, 0⟩, ⟨4, 0, 0, 0, 2⟩, ⟨4, 0, 0, 0, 1⟩, ⟨2, 0, 0, 0, 0⟩, ⟨2, 1, 0, 0, 0⟩]
def roles17 : List (List Int) := [[3], [3], []]
theorem ops17_I : ∀ x ∈ ops17, opI x := by
  intro x hx
  simp only [ops17, List.mem_cons, List.not_mem_nil, or_false] at hx
  rcases hx with rfl | rfl | rfl | rfl | rfl | rfl <;> (unfold opI; decide)
theorem desk17 : deskPlay net17 0 roles17 ops17 = ((⟨⟨[0, 1], [0]⟩, [⟨1, 0, false⟩]⟩, [⟨6, 0⟩, ⟨0, 0⟩, ⟨6, 0⟩, ⟨0, 0⟩, ⟨7, 0⟩, ⟨0, 0⟩]), 0) := by decide +kernel
set_option maxHeartbeats 1000000 in
set_option maxRecDepth 100000 in
theorem alive17_calls (w : World) : Calls Try.prog 24 #[] w fun e w' => e = .returned (.bool true) ∧ Gr w w' := by
  have HE := Lib.hid desk17
  have e1 : eqB [0, 1] [0, 1] = true := by decide +kernel
  obtain ⟨wS, hwS⟩ : ∃ wS, wS = (((((((w.alloc (.cells #[.int .i64 1, .int .i64 0] 3)).alloc (.cells #[.int .i64 0, .int .i64 1] 3)).alloc (.cells #[.int .i64 3, (.slice (some ⟨w.heap.size, 0, none⟩) 2 2), (.slice (some ⟨w.heap.size + 1, 0, none⟩) 2 2)] 56)).alloc (.cells #[.int .i64 2, (.slice (some ⟨w.heap.size + 1 + 1, 0, none⟩) 1 1)] 24)).alloc (.cells #[.int .i64 3] 3)).alloc (.cells #[.int .i64 3] 3)).alloc (.cells #[(.slice (some ⟨w.heap.size + 1 + 1 + 1 + 1, 0, none⟩) 1 1), (.slice (some ⟨w.heap.size + 1 + 1 + 1 + 1 + 1, 0, none⟩) 1 1), .slice none 0 0] 25)).alloc (.cells #[.int .i64 1, .int .i64 2, .int .i64 0, .int .i64 0, .int .i64 0, .int .i64 1, .int .i64 0, .int .i64 0, .int .i64 0, .int .i64 0, .int .i64 4, .int .i64 0, .int .i64 0, .int .i64 0, .int .i64 2, .int .i64 4, .int .i64 0, .int .i64 0, .int .i64 0, .int .i64 1, .int .i64 2, .int .i64 0, .int .i64 0, .int .i64 0, .int .i64 0, .int .i64 2, .int .i64 1, .int .i64 0, .int .i64 0, .int .i64 0] 59) := ⟨_, rfl⟩
  have GS : Gr w wS := by rw [hwS]; exact ((((((((Gr.refl _).alloc _).alloc _).alloc _).alloc _).alloc _).alloc _).alloc _).alloc _
  have hsz : wS.heap.size = w.heap.size + 8 := by rw [hwS]; simp
  have b0 : Blk wS (w.heap.size) 3 #[.int .i64 1, .int .i64 0] := by rw [hwS]; exact (Blk.new rfl).gr ((((((((Gr.refl _).alloc _).alloc _).alloc _).alloc _).alloc _).alloc _).alloc _)
  have b1 : Blk wS (w.heap.size + 1) 3 #[.int .i64 0, .int .i64 1] := by rw [hwS]; exact (Blk.new (by simp)).gr (((((((Gr.refl _).alloc _).alloc _).alloc _).alloc _).alloc _).alloc _)
  have bT : Blk wS (w.heap.size + 1 + 1) 56 #[.int .i64 3, (.slice (some ⟨w.heap.size, 0, none⟩) 2 2), (.slice (some ⟨w.heap.size + 1, 0, none⟩) 2 2)] := by rw [hwS]; exact (Blk.new (by simp)).gr ((((((Gr.refl _).alloc _).alloc _).alloc _).alloc _).alloc _)
  have bN : Blk wS (w.heap.size + 1 + 1 + 1) 24 #[.int .i64 2, (.slice (some ⟨w.heap.size + 1 + 1, 0, none⟩) 1 1)] := by rw [hwS]; exact (Blk.new (by simp)).gr (((((Gr.refl _).alloc _).alloc _).alloc _).alloc _)
  have b4 : Blk wS (w.heap.size + 1 + 1 + 1 + 1) 3 #[.int .i64 3] := by rw [hwS]; exact (Blk.new (by simp)).gr ((((Gr.refl _).alloc _).alloc _).alloc _)
  have b5 : Blk wS (w.heap.size + 1 + 1 + 1 + 1 + 1) 3 #[.int .i64 3] := by rw [hwS]; exact (Blk.new (by simp)).gr (((Gr.refl _).alloc _).alloc _)
  have bR : Blk wS (w.heap.size + 1 + 1 + 1 + 1 + 1 + 1) 25 #[(.slice (some ⟨w.heap.size + 1 + 1 + 1 + 1, 0, none⟩) 1 1), (.slice (some ⟨w.heap.size + 1 + 1 + 1 + 1 + 1, 0, none⟩) 1 1), .slice none 0 0] := by rw [hwS]; exact (Blk.new (by simp)).gr ((Gr.refl _).alloc _)
  have bO : Blk wS (w.heap.size + 1 + 1 + 1 + 1 + 1 + 1 + 1) 59 #[.int .i64 1, .int .i64 2, .int .i64 0, .int .i64 0, .int .i64 0, .int .i64 1, .int .i64 0, .int .i64 0, .int .i64 0, .int .i64 0, .int .i64 4, .int .i64 0, .int .i64 0, .int .i64 0, .int .i64 2, .int .i64 4, .int .i64 0, .int .i64 0, .int .i64 0, .int .i64 1, .int .i64 2, .int .i64 0, .int .i64 0, .int .i64 0, .int .i64 0, .int .i64 2, .int .i64 1, .int .i64 0, .int .i64 0, .int .i64 0] := by rw [hwS]; exact (Blk.new (by simp))
  have hN : NetR wS (.agg #[.int .i64 2, (.slice (some ⟨w.heap.size + 1 + 1, 0, none⟩) 1 1)]) net17 := NetR.mk_ (N := net17) (TransR.bl1 (t1 := ⟨3, [1, 0], [0, 1]⟩) bT (Ints.blkl b0 rfl rfl (by decide) (by simp)) (Ints.blkl b1 rfl rfl (by decide) (by simp)) (by decide)) (by decide)
  have hR : Rd rowK wS (.slice (some ⟨w.heap.size + 1 + 1 + 1 + 1 + 1 + 1, 0, none⟩) 3 3) roles17 := Rd.blkRows bR rfl (by decide) fun i hi => by
    have h3 : i = 0 ∨ i = 1 ∨ i = 2 := by simp [roles17] at hi; omega
    rcases h3 with rfl | rfl | rfl
    · exact ⟨.slice (some ⟨w.heap.size + 1 + 1 + 1 + 1, 0, none⟩) 1 1, rfl, by rw [ix_def]; exact Ints.blkl (xs := [3]) b4 rfl rfl (by decide) (by simp)⟩
    · exact ⟨.slice (some ⟨w.heap.size + 1 + 1 + 1 + 1 + 1, 0, none⟩) 1 1, rfl, by rw [ix_def]; exact Ints.blkl (xs := [3]) b5 rfl rfl (by decide) (by simp)⟩
    · exact ⟨.slice none 0 0, rfl, by rw [ix_def]; exact Ints.nil _⟩
  have hO : Rd opK wS (.slice (some ⟨w.heap.size + 1 + 1 + 1 + 1 + 1 + 1 + 1, 0, none⟩) 6 6) ops17 := Rd.blkFlat bO rfl (by decide) rfl ops17_I
  clear b0 b1 bT bN b4 b5 bR bO
  go_enter Try.func24, Try.ntmps24
  go_wp2_with fail
  rw [← hwS]
  clear hwS hsz
  refine (DeskPlay_calls _ _ _ net17 0 roles17 ops17 _ hN (by decide) hR hO (by decide)).mono ?_
  rw [HE.out]; rintro _ w1 ⟨v1, u1, rfl, i1, j1, g1⟩
  obtain ⟨ma, mn, ba, bn, ia, jn, rfl, -, -, -, -, -, -, iM, iB, iI⟩ := i1.open_
  simp only [] at j1
  obtain ⟨la, lc, rfl, -, -⟩ := j1.len
  have GE : Gr w1 (w1.alloc (.cells #[.slice ma 2 mn, .slice ba 1 bn, .slice ia 1 jn] 48)) := (Gr.refl _).alloc _
  have K0 : (w1.alloc (.cells #[.slice ma 2 mn, .slice ba 1 bn, .slice ia 1 jn] 48)).cell? ⟨w1.heap.size, 0, none⟩ = some (.slice ma 2 mn) := box_cell (Gr.refl _) (i := 0) rfl
  have K2 : (w1.alloc (.cells #[.slice ma 2 mn, .slice ba 1 bn, .slice ia 1 jn] 48)).cell? ⟨w1.heap.size, 2, none⟩ = some (.slice ia 1 jn) := box_cell (Gr.refl _) (i := 2) rfl
  have j2 := j1.gr GE
  obtain ⟨lb, lo, rfl, c0, -, -⟩ := j2.ans (i := 0) (by simp)
  obtain ⟨_, _, hh1, c1, -, -⟩ := j2.ans (i := 1) (by simp)
  obtain ⟨_, _, hh2, c2, -, -⟩ := j2.ans (i := 2) (by simp)
  obtain ⟨_, _, hh3, c3, -, -⟩ := j2.ans (i := 3) (by simp)
  obtain ⟨_, _, hh4, c4, -, -⟩ := j2.ans (i := 4) (by simp)
  obtain ⟨_, _, hh5, c5, -, -⟩ := j2.ans (i := 5) (by simp)
  cases hh1; cases hh2; cases hh3; cases hh4; cases hh5
  simp [ix] at c0 c1 c2 c3 c4 c5
  have GW : Gr w (w1.alloc (.cells #[.slice ma 2 mn, .slice ba 1 bn, .slice ia 1 jn] 48)) := (GS.trans g1).trans GE
  replace iM := iM.gr GE
  replace iI := iI.gr GE
  clear j1 j2 g1 GE hN hR hO i1 iB GS
  go_wp2_with fail
  have bI : Blk ((w1.alloc (.cells #[.slice ma 2 mn, .slice ba 1 bn, .slice ia 1 jn] 48)).alloc (.cells #[.int .i64 1, .int .i64 0, .bool false] 53)) (w1.heap.size + 1) 53 #[.int .i64 1, .int .i64 0, .bool false] := Blk.new (by simp)
  have hI2 : Rd itemK ((w1.alloc (.cells #[.slice ma 2 mn, .slice ba 1 bn, .slice ia 1 jn] 48)).alloc (.cells #[.int .i64 1, .int .i64 0, .bool false] 53)) (.slice (some ⟨w1.heap.size + 1, 0, none⟩) 1 1) [⟨1, 0, false⟩] := Rd.blkFlat (α := ItemD) (size := 3) (cells := itemCells) (ok := itemI) (xs := [⟨1, 0, false⟩]) bI rfl (by simp) (by simp [cellsOf, itemCells]) (by simp [itemI, I64])
  have hI1 := iI.gr ((Gr.refl (w1.alloc (.cells #[.slice ma 2 mn, .slice ba 1 bn, .slice ia 1 jn] 48))).alloc (.cells #[.int .i64 1, .int .i64 0, .bool false] 53))
  clear bI iI
  refine (EqualItem_self _ _ [⟨1, 0, false⟩] _ hI1 hI2).mono ?_
  rintro _ w3 ⟨rfl, g3⟩
  have G3 : Gr (w1.alloc (.cells #[.slice ma 2 mn, .slice ba 1 bn, .slice ia 1 jn] 48)) w3 := ((Gr.refl _).alloc _).trans g3
  replace K0 := cell_gr K0 G3
  replace iM := iM.gr G3
  replace GW := GW.trans G3
  clear c0 c1 c2 c3 c4 c5 K2 g3 G3 hI1 hI2
  go_wp2_with fail
  refine (Equal_calls _ _ [0, 1] [0, 1] _ (iM.gr (by (repeat (first | exact Gr.refl _ | assumption | apply Gr.alloc | apply Gr.drew | apply Gr.drewN | refine Gr.trans ?_ (by assumption))))) (by (repeat (first | assumption | exact Ints.nil _ | (refine Ints.lit ?_ rfl rfl rfl ?_ ?_; ((focus (simp; done))); all_goals decide) | apply Ints.alloc | apply Ints.drew | refine Ints.gr ?_ (show Gr _ _ from by assumption))))).mono ?_
  rw [e1]; rintro _ w5 ⟨rfl, g5⟩
  go_wp2_with fail
  go_ret
  exact ⟨rfl, GW.trans (by (repeat (first | exact Gr.refl _ | assumption | apply Gr.alloc | apply Gr.drew | apply Gr.drewN | refine Gr.trans ?_ (by assumption))))⟩
end Go.Proofs.Ytbopachnkbjmfaa
