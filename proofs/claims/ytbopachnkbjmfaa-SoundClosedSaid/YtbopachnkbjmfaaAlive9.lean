/- The call alive9 answers true, in whatever world; nothing that lay there turns. -/
import Derived.Test.YtbopachnkbjmfaaGU
import Derived.Test.YtbopachnkbjmfaaPA
namespace Go.Tok
open Go.RowKit
/-- a block of ints reads as them -/
theorem Ints.blk {w : World} {b n : Nat} {t : TypeId} {cs : Array Value} {xs : List Int} (h : Blk w b t cs) (hn : n = xs.length) (hcs : cs.toList = xs.map (Value.int .i64)) (hI : ∀ x ∈ xs, I64 x) (hl : xs.length ≤ 1000) : Ints w (.slice (some ⟨b, 0, none⟩) n n) xs := by
  subst hn
  refine Ints.intro rfl (Nat.le_refl _) (by unfold maxLen; omega) hI (fun e => by cases e) fun i hi => ⟨b, 0, rfl, ?_⟩
  rw [Nat.zero_add]
  refine h.cell ?_
  rw [nth_lt hi, ← Array.getElem?_toList, hcs]
  simp [hi]
/-- a block of two transitions reads as them -/
theorem TransR.blk2 {w : World} {b : Nat} {t : TypeId} {v1 u1 v2 u2 : Value} {t1 t2 : TranD} (h : Blk w b t #[.int .i64 t1.label, v1, u1, .int .i64 t2.label, v2, u2]) (h1 : Ints w v1 t1.pre) (h2 : Ints w u1 t1.post) (h3 : Ints w v2 t2.pre) (h4 : Ints w u2 t2.post) (i1 : I64 t1.label) (i2 : I64 t2.label) :
    TransR w (.slice (some ⟨b, 0, none⟩) 2 2) [t1, t2] := by
  refine TransR.intro (ts := [t1, t2]) rfl (Nat.le_refl _) (by unfold maxLen; simp) fun i hi => ?_
  have hi2 : i = 0 ∨ i = 1 := by simp at hi; omega
  rcases hi2 with rfl | rfl
  · exact ⟨b, 0, v1, u1, rfl, h.cell rfl, h.cell rfl, h.cell rfl, i1, h1, h2⟩
  · exact ⟨b, 0, v2, u2, rfl, h.cell rfl, h.cell rfl, h.cell rfl, i2, h3, h4⟩
end Go.Tok
namespace Go.Proofs.Ytbopachnkbjmfaa
open Go.RowKit Go.Tok
set_option linter.unusedVariables false
abbrev net9 : NetD := ⟨3, [⟨0, [1, 0, 0], [0, 1, 0]⟩, ⟨0, [0, 1, 0], [0, 0, 1]⟩]⟩
abbrev net9b : NetD := ⟨3, [⟨0, [1, 0, 0], [0, 1, 0]⟩, ⟨0, [0, 1, 0], [0, 0, 2]⟩]⟩
theorem judge9 : judgeF net9 0 2 50 = (⟨1, [], 0⟩, 0) := by decide +kernel
theorem judge9b : judgeF net9b 0 2 50 = (⟨2, [0, 0, 2], 0⟩, 0) := by decide +kernel
set_option maxHeartbeats 4000000 in
set_option maxRecDepth 100000 in
theorem alive9_calls (w : World) : Calls Try.prog 42 #[] w fun e w' => e = .returned (.bool true) ∧ Gr w w' := by
  have H1 := Lib.hid judge9
  have H2 := Lib.hid judge9b
  have e1 : eqB [0, 0, 2] [0, 0, 2] = true := by decide +kernel
  obtain ⟨wS, hwS⟩ : ∃ wS, wS = (((((w.alloc (.cells #[.int .i64 1, .int .i64 0, .int .i64 0] 3)).alloc (.cells #[.int .i64 0, .int .i64 1, .int .i64 0] 3)).alloc (.cells #[.int .i64 0, .int .i64 1, .int .i64 0] 3)).alloc (.cells #[.int .i64 0, .int .i64 0, .int .i64 1] 3)).alloc (.cells #[.int .i64 0, (.slice (some ⟨w.heap.size, 0, none⟩) 3 3), (.slice (some ⟨w.heap.size + 1, 0, none⟩) 3 3), .int .i64 0, (.slice (some ⟨w.heap.size + 1 + 1, 0, none⟩) 3 3), (.slice (some ⟨w.heap.size + 1 + 1 + 1, 0, none⟩) 3 3)] 56)).alloc (.cells #[.int .i64 3, (.slice (some ⟨w.heap.size + 1 + 1 + 1 + 1, 0, none⟩) 2 2)] 24) := ⟨_, rfl⟩
  have GS : Gr w wS := by rw [hwS]; exact (((((((Gr.refl _).alloc _).alloc _).alloc _).alloc _).alloc _).alloc _)
  have hsz : wS.heap.size = w.heap.size + 6 := by rw [hwS]; simp
  have b0 : Blk wS (w.heap.size) 3 #[.int .i64 1, .int .i64 0, .int .i64 0] := by rw [hwS]; exact (Blk.new (by simp)).gr ((((((Gr.refl _).alloc _).alloc _).alloc _).alloc _).alloc _)
  have b1 : Blk wS (w.heap.size + 1) 3 #[.int .i64 0, .int .i64 1, .int .i64 0] := by rw [hwS]; exact (Blk.new (by simp)).gr (((((Gr.refl _).alloc _).alloc _).alloc _).alloc _)
  have b2 : Blk wS (w.heap.size + 1 + 1) 3 #[.int .i64 0, .int .i64 1, .int .i64 0] := by rw [hwS]; exact (Blk.new (by simp)).gr ((((Gr.refl _).alloc _).alloc _).alloc _)
  have b3 : Blk wS (w.heap.size + 1 + 1 + 1) 3 #[.int .i64 0, .int .i64 0, .int .i64 1] := by rw [hwS]; exact (Blk.new (by simp)).gr (((Gr.refl _).alloc _).alloc _)
  have bT : Blk wS (w.heap.size + 1 + 1 + 1 + 1) 56 #[.int .i64 0, (.slice (some ⟨w.heap.size, 0, none⟩) 3 3), (.slice (some ⟨w.heap.size + 1, 0, none⟩) 3 3), .int .i64 0, (.slice (some ⟨w.heap.size + 1 + 1, 0, none⟩) 3 3), (.slice (some ⟨w.heap.size + 1 + 1 + 1, 0, none⟩) 3 3)] := by rw [hwS]; exact (Blk.new (by simp)).gr ((Gr.refl _).alloc _)
  have bN : Blk wS (w.heap.size + 1 + 1 + 1 + 1 + 1) 24 #[.int .i64 3, (.slice (some ⟨w.heap.size + 1 + 1 + 1 + 1, 0, none⟩) 2 2)] := by rw [hwS]; exact Blk.new (by simp)
  have hN : NetR wS (.agg #[.int .i64 3, (.slice (some ⟨w.heap.size + 1 + 1 + 1 + 1, 0, none⟩) 2 2)]) net9 :=
    NetR.mk_ (N := net9) (TransR.blk2 (t1 := ⟨0, [1, 0, 0], [0, 1, 0]⟩) (t2 := ⟨0, [0, 1, 0], [0, 0, 1]⟩) bT (Ints.blk b0 rfl rfl (by decide) (by simp)) (Ints.blk b1 rfl rfl (by decide) (by simp)) (Ints.blk b2 rfl rfl (by decide) (by simp)) (Ints.blk b3 rfl rfl (by decide) (by simp)) (by decide) (by decide)) (by decide)
  have N0 := bN.cell (i := 0) rfl
  have N1 := bN.cell (i := 1) rfl
  go_enter Try.func42, Try.ntmps42
  go_wp2_with fail
  rw [show (((((w.alloc (.cells #[.int .i64 1, .int .i64 0, .int .i64 0] 3)).alloc (.cells #[.int .i64 0, .int .i64 1, .int .i64 0] 3)).alloc (.cells #[.int .i64 0, .int .i64 1, .int .i64 0] 3)).alloc (.cells #[.int .i64 0, .int .i64 0, .int .i64 1] 3)).alloc (.cells #[.int .i64 0, (.slice (some ⟨w.heap.size, 0, none⟩) 3 3), (.slice (some ⟨w.heap.size + 1, 0, none⟩) 3 3), .int .i64 0, (.slice (some ⟨w.heap.size + 1 + 1, 0, none⟩) 3 3), (.slice (some ⟨w.heap.size + 1 + 1 + 1, 0, none⟩) 3 3)] 56)).alloc (.cells #[.int .i64 3, (.slice (some ⟨w.heap.size + 1 + 1 + 1 + 1, 0, none⟩) 2 2)] 24) = wS from hwS.symm]
  clear hwS
  go_wp2_with fail
  refine (Judge_calls _ net9 0 2 50 _ hN (by decide) (by decide) (by decide)).mono ?_
  rw [H1.out]; rintro _ w1 ⟨v1, rfl, i1, g1⟩
  obtain ⟨a1, c1, rfl, _, _⟩ := i1.len
  have g3 : Gr w1 ((w1.alloc (.cells #[.int .i64 1, .slice a1 0 c1, .int .i64 0] 84)).alloc (.cells #[.int .i64 0, .int .i64 0, .int .i64 2] 3)) := ((Gr.refl _).alloc _).alloc _
  have V0 : ((w1.alloc (.cells #[.int .i64 1, .slice a1 0 c1, .int .i64 0] 84)).alloc (.cells #[.int .i64 0, .int .i64 0, .int .i64 2] 3)).cell? ⟨w1.heap.size, 0, none⟩ = some (.int .i64 1) := cell_gr (lit_at rfl rfl) ((Gr.refl _).alloc _)
  have b6 : Blk ((w1.alloc (.cells #[.int .i64 1, .slice a1 0 c1, .int .i64 0] 84)).alloc (.cells #[.int .i64 0, .int .i64 0, .int .i64 2] 3)) (w1.heap.size + 1) 3 #[.int .i64 0, .int .i64 0, .int .i64 2] := Blk.new (by simp)
  have hg1 := g1.le
  have N0' := cell_gr N0 (g1.trans ((Gr.refl _).alloc (.cells #[.int .i64 1, .slice a1 0 c1, .int .i64 0] 84)))
  have N1' := cell_gr N1 (g1.trans ((Gr.refl _).alloc (.cells #[.int .i64 1, .slice a1 0 c1, .int .i64 0] 84)))
  replace b0 := (b0.gr g1).gr g3
  replace b1 := (b1.gr g1).gr g3
  replace b2 := (b2.gr g1).gr g3
  replace bT := (bT.gr g1).gr g3
  replace bN := (bN.gr g1).gr g3
  have N0'' := bN.cell (i := 0) rfl
  have N1'' := bN.cell (i := 1) rfl
  have D5 := bT.cell (i := 5) rfl
  have F5 := bT.frozen 5
  have b0z := b0.other (a := ⟨w.heap.size + 1 + 1 + 1 + 1, 5, none⟩) (by simp; try omega) (.slice (some ⟨w1.heap.size + 1, 0, none⟩) 3 3)
  have b1z := b1.other (a := ⟨w.heap.size + 1 + 1 + 1 + 1, 5, none⟩) (by simp; try omega) (.slice (some ⟨w1.heap.size + 1, 0, none⟩) 3 3)
  have b2z := b2.other (a := ⟨w.heap.size + 1 + 1 + 1 + 1, 5, none⟩) (by simp; try omega) (.slice (some ⟨w1.heap.size + 1, 0, none⟩) 3 3)
  have bNz := bN.other (a := ⟨w.heap.size + 1 + 1 + 1 + 1, 5, none⟩) (by simp; try omega) (.slice (some ⟨w1.heap.size + 1, 0, none⟩) 3 3)
  have b6z := b6.other (a := ⟨w.heap.size + 1 + 1 + 1 + 1, 5, none⟩) (by simp; try omega) (.slice (some ⟨w1.heap.size + 1, 0, none⟩) 3 3)
  have bTz := bT.set 5 (.slice (some ⟨w1.heap.size + 1, 0, none⟩) 3 3)
  have M0 := bNz.cell (i := 0) rfl
  have M1 := bNz.cell (i := 1) rfl
  have GZ : Gr w (((w1.alloc (.cells #[.int .i64 1, .slice a1 0 c1, .int .i64 0] 84)).alloc (.cells #[.int .i64 0, .int .i64 0, .int .i64 2] 3)).setCell ⟨w.heap.size + 1 + 1 + 1 + 1, 5, none⟩ (.slice (some ⟨w1.heap.size + 1, 0, none⟩) 3 3)) := ((GS.trans g1).trans g3).setCell (by simp; try omega) _
  have hNz : NetR (((w1.alloc (.cells #[.int .i64 1, .slice a1 0 c1, .int .i64 0] 84)).alloc (.cells #[.int .i64 0, .int .i64 0, .int .i64 2] 3)).setCell ⟨w.heap.size + 1 + 1 + 1 + 1, 5, none⟩ (.slice (some ⟨w1.heap.size + 1, 0, none⟩) 3 3)) (.agg #[.int .i64 3, (.slice (some ⟨w.heap.size + 1 + 1 + 1 + 1, 0, none⟩) 2 2)]) net9b :=
    NetR.mk_ (N := net9b) (TransR.blk2 (t1 := ⟨0, [1, 0, 0], [0, 1, 0]⟩) (t2 := ⟨0, [0, 1, 0], [0, 0, 2]⟩) bTz (Ints.blk b0z rfl rfl (by decide) (by simp)) (Ints.blk b1z rfl rfl (by decide) (by simp)) (Ints.blk b2z rfl rfl (by decide) (by simp)) (Ints.blk b6z rfl rfl (by decide) (by simp)) (by decide) (by decide)) (by decide)
  have V0z : (((w1.alloc (.cells #[.int .i64 1, .slice a1 0 c1, .int .i64 0] 84)).alloc (.cells #[.int .i64 0, .int .i64 0, .int .i64 2] 3)).setCell ⟨w.heap.size + 1 + 1 + 1 + 1, 5, none⟩ (.slice (some ⟨w1.heap.size + 1, 0, none⟩) 3 3)).cell? ⟨w1.heap.size, 0, none⟩ = some (.int .i64 1) := by
    have hv := (show Blk ((w1.alloc (.cells #[.int .i64 1, .slice a1 0 c1, .int .i64 0] 84)).alloc (.cells #[.int .i64 0, .int .i64 0, .int .i64 2] 3)) w1.heap.size 84 #[.int .i64 1, .slice a1 0 c1, .int .i64 0] from (Blk.new rfl).gr ((Gr.refl _).alloc _)).other (a := ⟨w.heap.size + 1 + 1 + 1 + 1, 5, none⟩) (by simp; omega) (.slice (some ⟨w1.heap.size + 1, 0, none⟩) 3 3)
    exact hv.cell rfl
  clear N0 N1 b0 b1 b2 b3 bT bN b6 b0z b1z b2z bNz b6z bTz hN GS
  go_wp2_with fail
  generalize (((w1.alloc (.cells #[.int .i64 1, .slice a1 0 c1, .int .i64 0] 84)).alloc (.cells #[.int .i64 0, .int .i64 0, .int .i64 2] 3)).setCell ⟨w.heap.size + 1 + 1 + 1 + 1, 5, none⟩ (.slice (some ⟨w1.heap.size + 1, 0, none⟩) 3 3)) = wZ at GZ hNz V0z M0 M1 ⊢
  refine (Judge_calls _ net9b 0 2 50 _ hNz (by decide) (by decide) (by decide)).mono ?_
  rw [H2.out]; rintro _ w5 ⟨v5, rfl, i5, g5⟩
  obtain ⟨a5, c5, rfl, _, _⟩ := i5.len
  have V1 := cell_gr (cell_gr V0z g5) ((Gr.refl _).alloc (.cells #[.int .i64 2, .slice a5 3 c5, .int .i64 0] 84))
  go_wp2_with fail
  refine (Equal_calls _ _ [0, 0, 2] [0, 0, 2] _ (i5.gr (by (repeat (first | exact Gr.refl _ | assumption | apply Gr.alloc | apply Gr.drew | apply Gr.drewN | refine Gr.trans ?_ (by assumption))))) (by (repeat (first | assumption | exact Ints.nil _ | (refine Ints.lit ?_ rfl rfl rfl ?_ ?_; ((focus (simp; done))); all_goals decide) | apply Ints.alloc | apply Ints.drew | refine Ints.gr ?_ (show Gr _ _ from by assumption))))).mono ?_
  rw [e1]; rintro _ w6 ⟨rfl, g6⟩
  go_wp2_with fail
  go_ret
  exact ⟨rfl, (GZ.trans g5).trans (by (repeat (first | exact Gr.refl _ | assumption | apply Gr.alloc | apply Gr.drew | apply Gr.drewN | refine Gr.trans ?_ (by assumption))))⟩
end Go.Proofs.Ytbopachnkbjmfaa
