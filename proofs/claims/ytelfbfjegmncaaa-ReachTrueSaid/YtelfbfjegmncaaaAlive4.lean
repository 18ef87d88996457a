/- The call alive4 answers true, in whatever world; nothing that lay there turns. -/
import Derived.Test.YtelfbfjegmncaaaPath
import Derived.Test.YtelfbfjegmncaaaSameSp
import Derived.Test.YtelfbfjegmncaaaNetLit
namespace Go.Proofs.Ytelfbfjegmncaaa
open Go.RowKit Go.Tok
set_option linter.unusedVariables false

abbrev net4 : NetD := ⟨2, [⟨0, [1, 0], [0, 1]⟩, ⟨0, [0, 1], [1, 0]⟩]⟩
set_option maxHeartbeats 2000000 in
set_option maxRecDepth 100000 in
theorem alive4_calls (w : World) : Calls Try.prog 26 #[] w fun e w' => e = .returned (.bool true) ∧ Gr w w' := by
  have e1 : graphF net4 [2, 0] 9 = (⟨[[2, 0], [1, 1], [0, 2]], [⟨0, 0, 1⟩, ⟨1, 0, 2⟩, ⟨1, 1, 0⟩, ⟨2, 1, 1⟩]⟩, 0) := by decide +kernel
  have e2 : pathF net4 [2, 0] [0, 2] 9 = ([0, 0], 0) := by decide +kernel
  have e3 : graphF net4 [2, 0] 2 = (zeroS, 4) := by decide +kernel
  have e4 : eqB [0, 0] [0, 0] = true := by decide +kernel
  have H1 := Lib.hid e1
  have H2 := Lib.hid e2
  have H3 := Lib.hid e3
  clear e1 e2 e3
  go_enter Try.func26, Try.ntmps26
  go_wp2_with fail
  refine (Graph_calls _ _ net4 [2, 0] 9 _ (NetR.mk_ (N := net4) (by (repeat (first | assumption | exact TransR.nil _ | (refine TransR.lit2 ?_ ?_ ?_ ?_ ?_ ?_ ?_; ((focus (simp; done))); (focus (repeat (first | assumption | exact Ints.nil _ | (refine Ints.lit ?_ rfl rfl rfl ?_ ?_; ((focus (simp; done))); all_goals decide) | apply Ints.alloc | apply Ints.drew | refine Ints.gr ?_ (show Gr _ _ from by assumption)))); (focus (repeat (first | assumption | exact Ints.nil _ | (refine Ints.lit ?_ rfl rfl rfl ?_ ?_; ((focus (simp; done))); all_goals decide) | apply Ints.alloc | apply Ints.drew | refine Ints.gr ?_ (show Gr _ _ from by assumption)))); (focus (repeat (first | assumption | exact Ints.nil _ | (refine Ints.lit ?_ rfl rfl rfl ?_ ?_; ((focus (simp; done))); all_goals decide) | apply Ints.alloc | apply Ints.drew | refine Ints.gr ?_ (show Gr _ _ from by assumption)))); (focus (repeat (first | assumption | exact Ints.nil _ | (refine Ints.lit ?_ rfl rfl rfl ?_ ?_; ((focus (simp; done))); all_goals decide) | apply Ints.alloc | apply Ints.drew | refine Ints.gr ?_ (show Gr _ _ from by assumption)))); all_goals decide) | (refine TransR.lit1 ?_ ?_ ?_ ?_; ((focus (simp; done))); (focus (repeat (first | assumption | exact Ints.nil _ | (refine Ints.lit ?_ rfl rfl rfl ?_ ?_; ((focus (simp; done))); all_goals decide) | apply Ints.alloc | apply Ints.drew | refine Ints.gr ?_ (show Gr _ _ from by assumption)))); (focus (repeat (first | assumption | exact Ints.nil _ | (refine Ints.lit ?_ rfl rfl rfl ?_ ?_; ((focus (simp; done))); all_goals decide) | apply Ints.alloc | apply Ints.drew | refine Ints.gr ?_ (show Gr _ _ from by assumption)))); all_goals decide) | refine TransR.gr ?_ (show Gr _ _ from by assumption) | refine TransR.gr ?_ ((Gr.refl _).alloc _)))) (by decide)) (by (repeat (first | assumption | exact Ints.nil _ | (refine Ints.lit ?_ rfl rfl rfl ?_ ?_; ((focus (simp; done))); all_goals decide) | apply Ints.alloc | apply Ints.drew | refine Ints.gr ?_ (show Gr _ _ from by assumption)))) (by decide)).mono ?_
  rw [H1.out]; rintro _ w1 ⟨v1, rfl, i1, g1⟩
  obtain ⟨ma, mc, aa, ac, rfl, _, _, _, _, _, _⟩ := i1.open_
  have B0 : w1.cell? ⟨w.heap.size + 5, 0, none⟩ = some (.int .i64 2) := by (repeat (first | (refine lit_at ?_ rfl; (focus (simp; done))) | assumption | refine cell_gr ?_ (show Gr _ _ from by assumption) | refine cell_gr ?_ ((Gr.refl _).alloc _)))
  have B1 : w1.cell? ⟨w.heap.size + 5, 1, none⟩ = some (.slice (some ⟨w.heap.size + 4, 0, none⟩) 2 2) := by (repeat (first | (refine lit_at ?_ rfl; (focus (simp; done))) | assumption | refine cell_gr ?_ (show Gr _ _ from by assumption) | refine cell_gr ?_ ((Gr.refl _).alloc _)))
  have T1 : TransR w1 (.slice (some ⟨w.heap.size + 4, 0, none⟩) 2 2) net4.trans := by (repeat (first | assumption | exact TransR.nil _ | (refine TransR.lit2 ?_ ?_ ?_ ?_ ?_ ?_ ?_; ((focus (simp; done))); (focus (repeat (first | assumption | exact Ints.nil _ | (refine Ints.lit ?_ rfl rfl rfl ?_ ?_; ((focus (simp; done))); all_goals decide) | apply Ints.alloc | apply Ints.drew | refine Ints.gr ?_ (show Gr _ _ from by assumption)))); (focus (repeat (first | assumption | exact Ints.nil _ | (refine Ints.lit ?_ rfl rfl rfl ?_ ?_; ((focus (simp; done))); all_goals decide) | apply Ints.alloc | apply Ints.drew | refine Ints.gr ?_ (show Gr _ _ from by assumption)))); (focus (repeat (first | assumption | exact Ints.nil _ | (refine Ints.lit ?_ rfl rfl rfl ?_ ?_; ((focus (simp; done))); all_goals decide) | apply Ints.alloc | apply Ints.drew | refine Ints.gr ?_ (show Gr _ _ from by assumption)))); (focus (repeat (first | assumption | exact Ints.nil _ | (refine Ints.lit ?_ rfl rfl rfl ?_ ?_; ((focus (simp; done))); all_goals decide) | apply Ints.alloc | apply Ints.drew | refine Ints.gr ?_ (show Gr _ _ from by assumption)))); all_goals decide) | (refine TransR.lit1 ?_ ?_ ?_ ?_; ((focus (simp; done))); (focus (repeat (first | assumption | exact Ints.nil _ | (refine Ints.lit ?_ rfl rfl rfl ?_ ?_; ((focus (simp; done))); all_goals decide) | apply Ints.alloc | apply Ints.drew | refine Ints.gr ?_ (show Gr _ _ from by assumption)))); (focus (repeat (first | assumption | exact Ints.nil _ | (refine Ints.lit ?_ rfl rfl rfl ?_ ?_; ((focus (simp; done))); all_goals decide) | apply Ints.alloc | apply Ints.drew | refine Ints.gr ?_ (show Gr _ _ from by assumption)))); all_goals decide) | refine TransR.gr ?_ (show Gr _ _ from by assumption) | refine TransR.gr ?_ ((Gr.refl _).alloc _)))
  have GW1 : Gr w w1 := by (repeat (first | exact Gr.refl _ | assumption | apply Gr.alloc | apply Gr.drew | apply Gr.drewN | refine Gr.trans ?_ (by assumption)))
  have GS : Gr w1 (w1.alloc (.cells #[.slice ma 3 mc, .slice aa 4 ac] 40)) := (Gr.refl _).alloc _
  have S0 : (w1.alloc (.cells #[.slice ma 3 mc, .slice aa 4 ac] 40)).cell? ⟨w1.heap.size, 0, none⟩ = some (.slice ma 3 mc) := box_cell (Gr.refl _) (i := 0) rfl
  have S1 : (w1.alloc (.cells #[.slice ma 3 mc, .slice aa 4 ac] 40)).cell? ⟨w1.heap.size, 1, none⟩ = some (.slice aa 4 ac) := box_cell (Gr.refl _) (i := 1) rfl
  replace B0 := cell_gr B0 GS
  replace B1 := cell_gr B1 GS
  replace T1 := T1.gr GS
  clear g1
  go_wp2_with fail
  refine (Path_calls _ _ _ net4 [2, 0] [0, 2] 9 _ (NetR.mk_ (N := net4) (T1.gr (by (repeat (first | exact Gr.refl _ | assumption | apply Gr.alloc | apply Gr.drew | apply Gr.drewN | refine Gr.trans ?_ (by assumption))))) (by decide)) (by (repeat (first | assumption | exact Ints.nil _ | (refine Ints.lit ?_ rfl rfl rfl ?_ ?_; ((focus (simp; done))); all_goals decide) | apply Ints.alloc | apply Ints.drew | refine Ints.gr ?_ (show Gr _ _ from by assumption)))) (by (repeat (first | assumption | exact Ints.nil _ | (refine Ints.lit ?_ rfl rfl rfl ?_ ?_; ((focus (simp; done))); all_goals decide) | apply Ints.alloc | apply Ints.drew | refine Ints.gr ?_ (show Gr _ _ from by assumption)))) (by decide)).mono ?_
  rw [H2.out]; rintro _ w3 ⟨v3, rfl, i3, g3⟩
  have G23 : Gr (w1.alloc (.cells #[.slice ma 3 mc, .slice aa 4 ac] 40)) w3 := by (repeat (first | exact Gr.refl _ | assumption | apply Gr.alloc | apply Gr.drew | apply Gr.drewN | refine Gr.trans ?_ (by assumption)))
  replace B0 := cell_gr B0 G23
  replace B1 := cell_gr B1 G23
  replace S0 := cell_gr S0 G23
  replace S1 := cell_gr S1 G23
  replace T1 := T1.gr G23
  obtain ⟨pa, pc, rfl, _, _⟩ := i3.ints.len
  have I3 := i3.ints
  clear g3 i3
  go_wp2_with fail
  refine (Graph_calls _ _ net4 [2, 0] 2 _ (NetR.mk_ (N := net4) (T1.gr (by (repeat (first | exact Gr.refl _ | assumption | apply Gr.alloc | apply Gr.drew | apply Gr.drewN | refine Gr.trans ?_ (by assumption))))) (by decide)) (by (repeat (first | assumption | exact Ints.nil _ | (refine Ints.lit ?_ rfl rfl rfl ?_ ?_; ((focus (simp; done))); all_goals decide) | apply Ints.alloc | apply Ints.drew | refine Ints.gr ?_ (show Gr _ _ from by assumption)))) (by decide)).mono ?_
  rw [H3.out]; rintro _ w4 ⟨v4, rfl, i4, g4⟩
  obtain ⟨ma', mc', aa', ac', rfl⟩ := i4.open0
  have G34 : Gr w3 w4 := by (repeat (first | exact Gr.refl _ | assumption | apply Gr.alloc | apply Gr.drew | apply Gr.drewN | refine Gr.trans ?_ (by assumption)))
  have GS4 : Gr w4 (w4.alloc (.cells #[.slice ma' 0 mc', .slice aa' 0 ac'] 40)) := (Gr.refl _).alloc _
  replace S0 := cell_gr (cell_gr S0 G34) GS4
  replace S1 := cell_gr (cell_gr S1 G34) GS4
  replace I3 := I3.gr (G34.trans GS4)
  have GW := (((GW1.trans GS).trans G23).trans G34).trans GS4
  clear g4 i4 B0 B1 T1 GW1 GS G23 G34
  go_wp2_with fail
  refine (Equal_calls _ _ [0, 0] [0, 0] _ (I3.gr (by (repeat (first | exact Gr.refl _ | assumption | apply Gr.alloc | apply Gr.drew | apply Gr.drewN | refine Gr.trans ?_ (by assumption))))) (by (repeat (first | assumption | exact Ints.nil _ | (refine Ints.lit ?_ rfl rfl rfl ?_ ?_; ((focus (simp; done))); all_goals decide) | apply Ints.alloc | apply Ints.drew | refine Ints.gr ?_ (show Gr _ _ from by assumption))))).mono ?_
  rw [e4]; rintro _ w5 ⟨rfl, g5⟩
  go_wp2_with fail
  go_ret
  exact ⟨rfl, GW.trans (by (repeat (first | exact Gr.refl _ | assumption | apply Gr.alloc | apply Gr.drew | apply Gr.drewN | refine Gr.trans ?_ (by assumption))))⟩
end Go.Proofs.Ytelfbfjegmncaaa
