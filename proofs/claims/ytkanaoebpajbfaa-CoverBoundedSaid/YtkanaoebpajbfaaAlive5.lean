/- The call alive5 answers true, in whatever world; nothing that lay there turns. -/
import Derived.Test.YtkanaoebpajbfaaCover6
import Derived.Test.YtkanaoebpajbfaaBlkR
namespace Go.Proofs.Ytkanaoebpajbfaa
open Go.RowKit Go.Tok
set_option linter.unusedVariables false
abbrev net5 : NetD := ⟨2, [⟨0, [1, 0], [1, 1]⟩]⟩
theorem tree5 : treeF net5 [1, 0] 9 = ([⟨-1, -1, [1, 0]⟩, ⟨0, 0, [1, -1]⟩, ⟨1, 0, [1, -1]⟩], 0) := by decide +kernel
theorem limit51 : limitF net5 [1, 0] 1 9 = (-1, 0) := by decide +kernel
theorem limit50 : limitF net5 [1, 0] 0 9 = (1, 0) := by decide +kernel
set_option maxHeartbeats 2000000 in
set_option maxRecDepth 100000 in
theorem alive5_calls (w : World) : Calls Try.prog 9 #[] w fun e w' => e = .returned (.bool true) ∧ Gr w w' := by
  have HE := Lib.hid tree5
  have HE1 := Lib.hid limit51
  have HE0 := Lib.hid limit50
  have e1 : eqB [1, -1] [1, -1] = true := by decide +kernel
  obtain ⟨wS, hwS⟩ : ∃ wS, wS = ((((w.alloc (.cells #[.int .i64 1, .int .i64 0] 3)).alloc (.cells #[.int .i64 1, .int .i64 1] 3)).alloc (.cells #[.int .i64 0, (.slice (some ⟨w.heap.size, 0, none⟩) 2 2), (.slice (some ⟨w.heap.size + 1, 0, none⟩) 2 2)] 86)).alloc (.cells #[.int .i64 2, (.slice (some ⟨w.heap.size + 1 + 1, 0, none⟩) 1 1)] 24)).alloc (.cells #[.int .i64 1, .int .i64 0] 3) := ⟨_, rfl⟩
  have GS : Gr w wS := by rw [hwS]; exact (((((Gr.refl _).alloc _).alloc _).alloc _).alloc _).alloc _
  have hsz : wS.heap.size = w.heap.size + 5 := by rw [hwS]; simp
  have b0 : Blk wS (w.heap.size) 3 #[.int .i64 1, .int .i64 0] := by rw [hwS]; exact (Blk.new rfl).gr (((((Gr.refl _).alloc _).alloc _).alloc _).alloc _)
  have b1 : Blk wS (w.heap.size + 1) 3 #[.int .i64 1, .int .i64 1] := by rw [hwS]; exact (Blk.new (by simp)).gr ((((Gr.refl _).alloc _).alloc _).alloc _)
  have bT : Blk wS (w.heap.size + 1 + 1) 86 #[.int .i64 0, (.slice (some ⟨w.heap.size, 0, none⟩) 2 2), (.slice (some ⟨w.heap.size + 1, 0, none⟩) 2 2)] := by rw [hwS]; exact (Blk.new (by simp)).gr (((Gr.refl _).alloc _).alloc _)
  have bN : Blk wS (w.heap.size + 1 + 1 + 1) 24 #[.int .i64 2, (.slice (some ⟨w.heap.size + 1 + 1, 0, none⟩) 1 1)] := by rw [hwS]; exact (Blk.new (by simp)).gr ((Gr.refl _).alloc _)
  have bM : Blk wS (w.heap.size + 1 + 1 + 1 + 1) 3 #[.int .i64 1, .int .i64 0] := by rw [hwS]; exact (Blk.new (by simp))
  have hN : NetR wS (.agg #[.int .i64 2, (.slice (some ⟨w.heap.size + 1 + 1, 0, none⟩) 1 1)]) net5 := NetR.mk_ (N := net5) (TransR.bl1 (t1 := ⟨0, [1, 0], [1, 1]⟩) bT (Ints.blkl b0 rfl rfl (by decide) (by simp)) (Ints.blkl b1 rfl rfl (by decide) (by simp)) (by decide)) (by decide)
  have hM : Ints wS (.slice (some ⟨w.heap.size + 1 + 1 + 1 + 1, 0, none⟩) 2 2) [1, 0] := Ints.blkl (xs := [1, 0]) bM rfl rfl (by decide) (by simp)
  have N0 := bN.cell (i := 0) (v := .int .i64 2) rfl
  have N1 := bN.cell (i := 1) (v := (.slice (some ⟨w.heap.size + 1 + 1, 0, none⟩) 1 1)) rfl
  clear b0 b1 bT bN bM
  go_enter Try.func9, Try.ntmps9
  go_wp2_with fail
  rw [← hwS]
  clear hwS hsz
  refine (Tree_calls _ _ net5 [1, 0] 9 _ hN hM (by decide)).mono ?_
  rw [HE.out]; rintro _ w1 ⟨v1, rfl, i1, g1⟩
  simp only [] at i1
  obtain ⟨la, lc, rfl, -, -⟩ := i1.len
  have P0 := cell_gr N0 g1
  have P1 := cell_gr N1 g1
  have gA : Gr w1 (w1.alloc (.cells #[.int .i64 1, .int .i64 0] 3)) := (Gr.refl _).alloc _
  have hM1 : Ints (w1.alloc (.cells #[.int .i64 1, .int .i64 0] 3)) (.slice (some ⟨w1.heap.size, 0, none⟩) 2 2) [1, 0] := Ints.blkl (xs := [1, 0]) (Blk.new rfl) rfl rfl (by decide) (by simp)
  have GA := g1.trans gA
  have HGA := Lib.hid GA
  go_wp2_with fail
  refine (Limit_calls _ _ net5 [1, 0] 1 9 _ (hN.gr GA) hM1 (by decide) (by decide)).mono ?_
  rw [HE1.out]; rintro _ w2 ⟨rfl, g2⟩
  have G2 := GA.trans g2
  have Q0 := cell_gr N0 G2
  have Q1 := cell_gr N1 G2
  have gB : Gr w2 (w2.alloc (.cells #[.int .i64 1, .int .i64 0] 3)) := (Gr.refl _).alloc _
  have hM2 : Ints (w2.alloc (.cells #[.int .i64 1, .int .i64 0] 3)) (.slice (some ⟨w2.heap.size, 0, none⟩) 2 2) [1, 0] := Ints.blkl (xs := [1, 0]) (Blk.new rfl) rfl rfl (by decide) (by simp)
  have GB := G2.trans gB
  clear P0 P1
  go_wp2_with fail
  refine (Limit_calls _ _ net5 [1, 0] 0 9 _ (hN.gr GB) hM2 (by decide) (by decide)).mono ?_
  rw [HE0.out]; rintro _ w3 ⟨rfl, g3⟩
  have G3 := GB.trans g3
  have hR3 := i1.gr (gA.trans (g2.trans (gB.trans g3)))
  obtain ⟨lb, lo, um, rfl, c0, c1, c2, hum⟩ := hR3.knot (i := 1) (by simp)
  obtain ⟨ma, mc, rfl, -, -⟩ := hum.len
  simp only [ix, List.getD_cons_succ, List.getD_cons_zero, List.length_cons, List.length_nil] at c0 c1 c2 hum
  have HUM := Lib.hid hum
  clear Q0 Q1 hM2 hM1 hum c0 c1
  go_wp2_with fail
  have gC : Gr w3 (w3.alloc (.cells #[.int .i64 1, .int .i64 (-1)] 3)) := (Gr.refl _).alloc _
  have hL : Ints (w3.alloc (.cells #[.int .i64 1, .int .i64 (-1)] 3)) (.slice (some ⟨w3.heap.size, 0, none⟩) 2 2) [1, -1] := Ints.blkl (xs := [1, -1]) (Blk.new rfl) rfl rfl (by decide) (by simp)
  refine (Equal_calls _ _ [1, -1] [1, -1] _ (HUM.out.gr gC) hL).mono ?_
  rw [e1]; rintro _ w4 ⟨rfl, g4⟩
  go_wp2_with fail
  go_ret
  exact ⟨rfl, (GS.trans G3).trans (gC.trans g4)⟩
end Go.Proofs.Ytkanaoebpajbfaa
