/- The call alive16 answers true, in whatever world; nothing that lay there turns. -/
import Derived.Test.YtidpppfimkhgkaaCases6
import Derived.Test.YtidpppfimkhgkaaBusy2
import Derived.Test.YtidpppfimkhgkaaEqErr
import Derived.Test.YtidpppfimkhgkaaPA
namespace Go.Proofs.Ytidpppfimkhgkaa
open Go.RowKit Go.Tok
set_option linter.unusedVariables false

abbrev net16 : NetD := ⟨2, [⟨3, [1, 0], [0, 1]⟩]⟩
def cops16 : List CopD := [⟨3, 0⟩, ⟨2, 0⟩, ⟨2, 0⟩, ⟨3, 0⟩]
theorem cops16_I : ∀ x ∈ cops16, copI x := by
  intro x hx
  simp only [cops16, List.mem_cons, List.not_mem_nil, or_false] at hx
  rcases hx with rfl | rfl | rfl | rfl <;> (unfold copI; decide)
set_option maxHeartbeats 2000000 in
set_option maxRecDepth 100000 in
theorem alive16_calls (w : World) : Calls Try.prog 47 #[] w fun e w' => e = .returned (.bool true) ∧ Gr w w' := by
  have e1 : playF net16 0 cops16 = ((⟨[0, 1], [0]⟩, [3, 0, 3, 0]), 0) := by decide +kernel
  have e2 : busyNF net16 = (⟨3, [⟨0, [1, 0, 0], [0, 0, 1]⟩, ⟨3, [0, 0, 1], [0, 1, 0]⟩]⟩, 0) := by decide +kernel
  have e3 : eqB [3, 0, 3, 0] [3, 0, 3, 0] = true := by decide +kernel
  have e4 : eqB [0, 1] [0, 1] = true := by decide +kernel
  have e5 : eqB [0] [0] = true := by decide +kernel
  have HE := Lib.hid e1
  have HB := Lib.hid e2
  clear e1 e2
  go_enter Try.func47, Try.ntmps47
  go_wp2_with fail
  refine (Play_calls _ _ net16 0 cops16 _ (NetR.mk_ (N := net16) (by (repeat (first | assumption | exact TransR.nil _ | (refine TransR.lit2 ?_ ?_ ?_ ?_ ?_ ?_ ?_; ((focus (simp; done))); (focus (repeat (first | assumption | exact Ints.nil _ | (refine Ints.lit ?_ rfl rfl rfl ?_ ?_; ((focus (simp; done))); all_goals decide) | apply Ints.alloc | apply Ints.drew | refine Ints.gr ?_ (show Gr _ _ from by assumption)))); (focus (repeat (first | assumption | exact Ints.nil _ | (refine Ints.lit ?_ rfl rfl rfl ?_ ?_; ((focus (simp; done))); all_goals decide) | apply Ints.alloc | apply Ints.drew | refine Ints.gr ?_ (show Gr _ _ from by assumption)))); (focus (repeat (first | assumption | exact Ints.nil _ | (refine Ints.lit ?_ rfl rfl rfl ?_ ?_; ((focus (simp; done))); all_goals decide) | apply Ints.alloc | apply Ints.drew | refine Ints.gr ?_ (show Gr _ _ from by assumption)))); (focus (repeat (first | assumption | exact Ints.nil _ | (refine Ints.lit ?_ rfl rfl rfl ?_ ?_; ((focus (simp; done))); all_goals decide) | apply Ints.alloc | apply Ints.drew | refine Ints.gr ?_ (show Gr _ _ from by assumption)))); all_goals decide) | (refine TransR.lit1 ?_ ?_ ?_ ?_; ((focus (simp; done))); (focus (repeat (first | assumption | exact Ints.nil _ | (refine Ints.lit ?_ rfl rfl rfl ?_ ?_; ((focus (simp; done))); all_goals decide) | apply Ints.alloc | apply Ints.drew | refine Ints.gr ?_ (show Gr _ _ from by assumption)))); (focus (repeat (first | assumption | exact Ints.nil _ | (refine Ints.lit ?_ rfl rfl rfl ?_ ?_; ((focus (simp; done))); all_goals decide) | apply Ints.alloc | apply Ints.drew | refine Ints.gr ?_ (show Gr _ _ from by assumption)))); all_goals decide) | refine TransR.gr ?_ (show Gr _ _ from by assumption) | refine TransR.gr ?_ ((Gr.refl _).alloc _)))) (by decide)) (by decide) ?_ (by decide)).mono ?_
  · exact (own_cops (S := All) (base := 0) (by simp) rfl rfl rfl cops16_I (by decide) (Nat.zero_le _)).rd
  rw [HE.out]; rintro _ w1 ⟨v1, u1, rfl, i1, j1, g1⟩
  obtain ⟨xa, xn, ya, yn, rfl, _, _, _, _, iM, iB⟩ := i1.open_
  obtain ⟨ja, jn, rfl, _, _⟩ := j1.len
  have B0 : w1.cell? ⟨w.heap.size + 3, 0, none⟩ = some (.int .i64 2) := by (repeat (first | (refine lit_at ?_ rfl; (focus (simp; done))) | assumption | refine cell_gr ?_ (show Gr _ _ from by assumption) | refine cell_gr ?_ ((Gr.refl _).alloc _)))
  have B1 : w1.cell? ⟨w.heap.size + 3, 1, none⟩ = some (.slice (some ⟨w.heap.size + 2, 0, none⟩) 1 1) := by (repeat (first | (refine lit_at ?_ rfl; (focus (simp; done))) | assumption | refine cell_gr ?_ (show Gr _ _ from by assumption) | refine cell_gr ?_ ((Gr.refl _).alloc _)))
  have T1 : TransR w1 (.slice (some ⟨w.heap.size + 2, 0, none⟩) 1 1) net16.trans := by (repeat (first | assumption | exact TransR.nil _ | (refine TransR.lit2 ?_ ?_ ?_ ?_ ?_ ?_ ?_; ((focus (simp; done))); (focus (repeat (first | assumption | exact Ints.nil _ | (refine Ints.lit ?_ rfl rfl rfl ?_ ?_; ((focus (simp; done))); all_goals decide) | apply Ints.alloc | apply Ints.drew | refine Ints.gr ?_ (show Gr _ _ from by assumption)))); (focus (repeat (first | assumption | exact Ints.nil _ | (refine Ints.lit ?_ rfl rfl rfl ?_ ?_; ((focus (simp; done))); all_goals decide) | apply Ints.alloc | apply Ints.drew | refine Ints.gr ?_ (show Gr _ _ from by assumption)))); (focus (repeat (first | assumption | exact Ints.nil _ | (refine Ints.lit ?_ rfl rfl rfl ?_ ?_; ((focus (simp; done))); all_goals decide) | apply Ints.alloc | apply Ints.drew | refine Ints.gr ?_ (show Gr _ _ from by assumption)))); (focus (repeat (first | assumption | exact Ints.nil _ | (refine Ints.lit ?_ rfl rfl rfl ?_ ?_; ((focus (simp; done))); all_goals decide) | apply Ints.alloc | apply Ints.drew | refine Ints.gr ?_ (show Gr _ _ from by assumption)))); all_goals decide) | (refine TransR.lit1 ?_ ?_ ?_ ?_; ((focus (simp; done))); (focus (repeat (first | assumption | exact Ints.nil _ | (refine Ints.lit ?_ rfl rfl rfl ?_ ?_; ((focus (simp; done))); all_goals decide) | apply Ints.alloc | apply Ints.drew | refine Ints.gr ?_ (show Gr _ _ from by assumption)))); (focus (repeat (first | assumption | exact Ints.nil _ | (refine Ints.lit ?_ rfl rfl rfl ?_ ?_; ((focus (simp; done))); all_goals decide) | apply Ints.alloc | apply Ints.drew | refine Ints.gr ?_ (show Gr _ _ from by assumption)))); all_goals decide) | refine TransR.gr ?_ (show Gr _ _ from by assumption) | refine TransR.gr ?_ ((Gr.refl _).alloc _)))
  have P1 := fun o => cell_gr B0 ((Gr.refl w1).alloc o)
  have P2 := fun o => cell_gr B1 ((Gr.refl w1).alloc o)
  go_wp2_with fail
  refine (Busy_calls _ net16 _ (NetR.mk_ (N := net16) (by (repeat (first | assumption | exact TransR.nil _ | (refine TransR.lit2 ?_ ?_ ?_ ?_ ?_ ?_ ?_; ((focus (simp; done))); (focus (repeat (first | assumption | exact Ints.nil _ | (refine Ints.lit ?_ rfl rfl rfl ?_ ?_; ((focus (simp; done))); all_goals decide) | apply Ints.alloc | apply Ints.drew | refine Ints.gr ?_ (show Gr _ _ from by assumption)))); (focus (repeat (first | assumption | exact Ints.nil _ | (refine Ints.lit ?_ rfl rfl rfl ?_ ?_; ((focus (simp; done))); all_goals decide) | apply Ints.alloc | apply Ints.drew | refine Ints.gr ?_ (show Gr _ _ from by assumption)))); (focus (repeat (first | assumption | exact Ints.nil _ | (refine Ints.lit ?_ rfl rfl rfl ?_ ?_; ((focus (simp; done))); all_goals decide) | apply Ints.alloc | apply Ints.drew | refine Ints.gr ?_ (show Gr _ _ from by assumption)))); (focus (repeat (first | assumption | exact Ints.nil _ | (refine Ints.lit ?_ rfl rfl rfl ?_ ?_; ((focus (simp; done))); all_goals decide) | apply Ints.alloc | apply Ints.drew | refine Ints.gr ?_ (show Gr _ _ from by assumption)))); all_goals decide) | (refine TransR.lit1 ?_ ?_ ?_ ?_; ((focus (simp; done))); (focus (repeat (first | assumption | exact Ints.nil _ | (refine Ints.lit ?_ rfl rfl rfl ?_ ?_; ((focus (simp; done))); all_goals decide) | apply Ints.alloc | apply Ints.drew | refine Ints.gr ?_ (show Gr _ _ from by assumption)))); (focus (repeat (first | assumption | exact Ints.nil _ | (refine Ints.lit ?_ rfl rfl rfl ?_ ?_; ((focus (simp; done))); all_goals decide) | apply Ints.alloc | apply Ints.drew | refine Ints.gr ?_ (show Gr _ _ from by assumption)))); all_goals decide) | refine TransR.gr ?_ (show Gr _ _ from by assumption) | refine TransR.gr ?_ ((Gr.refl _).alloc _)))) (by decide))).mono ?_
  rw [HB.out]; rintro _ w2 ⟨v2, rfl, n2, g2⟩
  obtain ⟨na, nc, rfl, _, _, _, _⟩ := n2.open_
  have Q0 : w2.cell? ⟨w1.heap.size, 0, none⟩ = some (.slice xa 2 xn) := box_cell g2 (i := 0) rfl
  have Q1 : w2.cell? ⟨w1.heap.size, 1, none⟩ = some (.slice ya 1 yn) := box_cell g2 (i := 1) rfl
  have N0 : (w2.alloc (.cells #[.int .i64 3, .slice na 2 nc] 28)).cell? ⟨w2.heap.size, 0, none⟩ = some (.int .i64 3) := box_cell (Gr.refl _) (i := 0) rfl
  have N1 : (w2.alloc (.cells #[.int .i64 3, .slice na 2 nc] 28)).cell? ⟨w2.heap.size, 1, none⟩ = some (.slice na 2 nc) := box_cell (Gr.refl _) (i := 1) rfl
  have G12 : Gr w1 w2 := by (repeat (first | exact Gr.refl _ | assumption | apply Gr.alloc | apply Gr.drew | apply Gr.drewN | refine Gr.trans ?_ (by assumption)))
  go_wp2_with fail
  refine (EqualE_calls _ _ [3, 0, 3, 0] [3, 0, 3, 0] _ (j1.gr (by (repeat (first | exact Gr.refl _ | assumption | apply Gr.alloc | apply Gr.drew | apply Gr.drewN | refine Gr.trans ?_ (by assumption))))) (by (repeat (first | assumption | exact Ints.nil _ | (refine Ints.lit ?_ rfl rfl rfl ?_ ?_; ((focus (simp; done))); all_goals decide) | apply Ints.alloc | apply Ints.drew | refine Ints.gr ?_ (show Gr _ _ from by assumption))))).mono ?_
  rw [e3]; rintro _ w3 ⟨rfl, g3⟩
  have G3' : Gr (w2.alloc (.cells #[.int .i64 3, .slice na 2 nc] 28)) w3 := by (repeat (first | exact Gr.refl _ | assumption | apply Gr.alloc | apply Gr.drew | apply Gr.drewN | refine Gr.trans ?_ (by assumption)))
  have G3 : Gr w2 w3 := ((Gr.refl w2).alloc _).trans G3'
  replace Q0 := cell_gr Q0 G3
  replace Q1 := cell_gr Q1 G3
  replace N0 := cell_gr N0 G3'
  replace N1 := cell_gr N1 G3'
  have I3 := iM.gr (G12.trans G3)
  have J3 := iB.gr (G12.trans G3)
  have GW : Gr w w3 := Gr.trans (Gr.trans (by (repeat (first | exact Gr.refl _ | assumption | apply Gr.alloc | apply Gr.drew | apply Gr.drewN | refine Gr.trans ?_ (by assumption)))) G12) G3
  clear G3 G3' g3 g2 g1 G12
  go_wp2_with fail
  refine (Equal_calls _ _ [0, 1] [0, 1] _ (I3.gr (by (repeat (first | exact Gr.refl _ | assumption | apply Gr.alloc | apply Gr.drew | apply Gr.drewN | refine Gr.trans ?_ (by assumption))))) (by (repeat (first | assumption | exact Ints.nil _ | (refine Ints.lit ?_ rfl rfl rfl ?_ ?_; ((focus (simp; done))); all_goals decide) | apply Ints.alloc | apply Ints.drew | refine Ints.gr ?_ (show Gr _ _ from by assumption))))).mono ?_
  rw [e4]; rintro _ w4 ⟨rfl, g4⟩
  have G4 : Gr w3 w4 := by (repeat (first | exact Gr.refl _ | assumption | apply Gr.alloc | apply Gr.drew | apply Gr.drewN | refine Gr.trans ?_ (by assumption)))
  replace Q1 := cell_gr Q1 G4
  replace N0 := cell_gr N0 G4
  replace N1 := cell_gr N1 G4
  clear g4
  go_wp2_with fail
  refine (Equal_calls _ _ [0] [0] _ (J3.gr (by (repeat (first | exact Gr.refl _ | assumption | apply Gr.alloc | apply Gr.drew | apply Gr.drewN | refine Gr.trans ?_ (by assumption))))) (by (repeat (first | assumption | exact Ints.nil _ | (refine Ints.lit ?_ rfl rfl rfl ?_ ?_; ((focus (simp; done))); all_goals decide) | apply Ints.alloc | apply Ints.drew | refine Ints.gr ?_ (show Gr _ _ from by assumption))))).mono ?_
  rw [e5]; rintro _ w5 ⟨rfl, g5⟩
  have G5 : Gr w4 w5 := by (repeat (first | exact Gr.refl _ | assumption | apply Gr.alloc | apply Gr.drew | apply Gr.drewN | refine Gr.trans ?_ (by assumption)))
  replace N0 := cell_gr N0 G5
  replace N1 := cell_gr N1 G5
  go_wp2_with fail
  go_ret
  exact ⟨rfl, (GW.trans G4).trans G5⟩
end Go.Proofs.Ytidpppfimkhgkaa
