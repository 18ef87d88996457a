/- The call alive1 answers true, in whatever world; nothing that lay there turns. No conditions. -/
import Derived.Test.YtkpbhkfpkoiilaaZip
namespace Go.Proofs.Ytkpbhkfpkoiilaa
open Go.RowKit Go.Tok
set_option linter.unusedVariables false

set_option maxHeartbeats 1000000 in
theorem alive1_calls (w : World) : Calls Try.prog 21 #[] w fun e w' => e = .returned (.bool true) ∧ Gr w w' := by
  have e1 : zipF plusf [1, 2] [0, 1, 4] = ([1, 3, 4], 0) := by decide +kernel
  have e2 : zipF minusf [1, 3, 4] [1, 2, 4] = ([0, 1, 0], 0) := by decide +kernel
  have e3 : zipF minusf [1] [0, 1] = ([], 3) := by decide +kernel
  have e4 : sameB [1, 3, 4] [1, 3, 4] = true := by decide +kernel
  have e5 : sameB [0, 1, 0] [0, 1] = true := by decide +kernel
  have e6 : coversB [1, 3, 4] [0, 1, 0] = true := by decide +kernel
  have e7 : coversB [0, 1, 0] [1, 3, 4] = false := by decide +kernel
  have e8 : Tok.rightB [-1] = false := by decide +kernel
  go_enter Try.func21, Try.ntmps21
  go_wp2_with fail
  refine (Plus_calls _ _ [1, 2] [0, 1, 4] _ (by (repeat (first | assumption | exact Ints.nil _ | exact Ints.lit (by simp) rfl rfl rfl (by decide) (by decide) | apply Ints.alloc | apply Ints.drew | refine Ints.gr ?_ (show Gr _ _ from by assumption)))) (by (repeat (first | assumption | exact Ints.nil _ | exact Ints.lit (by simp) rfl rfl rfl (by decide) (by decide) | apply Ints.alloc | apply Ints.drew | refine Ints.gr ?_ (show Gr _ _ from by assumption)))) (by decide) (by decide)).mono ?_
  rw [e1]; rintro e w1 ⟨v1, rfl, hi1, hb1⟩
  go_wp2_with fail
  refine (Minus_calls _ _ [1, 3, 4] [1, 2, 4] _ (by (repeat (first | assumption | exact Ints.nil _ | exact Ints.lit (by simp) rfl rfl rfl (by decide) (by decide) | apply Ints.alloc | apply Ints.drew | refine Ints.gr ?_ (show Gr _ _ from by assumption)))) (by (repeat (first | assumption | exact Ints.nil _ | exact Ints.lit (by simp) rfl rfl rfl (by decide) (by decide) | apply Ints.alloc | apply Ints.drew | refine Ints.gr ?_ (show Gr _ _ from by assumption)))) (by decide) (by decide)).mono ?_
  rw [e2]; rintro e w2 ⟨v2, rfl, hi2, hb2⟩
  go_wp2_with fail
  refine (Minus_calls _ _ [1] [0, 1] _ (by (repeat (first | assumption | exact Ints.nil _ | exact Ints.lit (by simp) rfl rfl rfl (by decide) (by decide) | apply Ints.alloc | apply Ints.drew | refine Ints.gr ?_ (show Gr _ _ from by assumption)))) (by (repeat (first | assumption | exact Ints.nil _ | exact Ints.lit (by simp) rfl rfl rfl (by decide) (by decide) | apply Ints.alloc | apply Ints.drew | refine Ints.gr ?_ (show Gr _ _ from by assumption)))) (by decide) (by decide)).mono ?_
  rw [e3]; rintro e w3 ⟨v3, rfl, hi3, hb3⟩
  go_wp2_with fail
  refine (Same_calls _ _ [1, 3, 4] [1, 3, 4] _ (by (repeat (first | assumption | exact Ints.nil _ | exact Ints.lit (by simp) rfl rfl rfl (by decide) (by decide) | apply Ints.alloc | apply Ints.drew | refine Ints.gr ?_ (show Gr _ _ from by assumption)))) (by (repeat (first | assumption | exact Ints.nil _ | exact Ints.lit (by simp) rfl rfl rfl (by decide) (by decide) | apply Ints.alloc | apply Ints.drew | refine Ints.gr ?_ (show Gr _ _ from by assumption))))).mono ?_
  rw [e4]; rintro e w' ⟨rfl, rfl⟩
  go_wp2_with fail
  refine (Same_calls _ _ [0, 1, 0] [0, 1] _ (by (repeat (first | assumption | exact Ints.nil _ | exact Ints.lit (by simp) rfl rfl rfl (by decide) (by decide) | apply Ints.alloc | apply Ints.drew | refine Ints.gr ?_ (show Gr _ _ from by assumption)))) (by (repeat (first | assumption | exact Ints.nil _ | exact Ints.lit (by simp) rfl rfl rfl (by decide) (by decide) | apply Ints.alloc | apply Ints.drew | refine Ints.gr ?_ (show Gr _ _ from by assumption))))).mono ?_
  rw [e5]; rintro e w' ⟨rfl, rfl⟩
  go_wp2_with fail
  refine (Covers_calls _ _ [1, 3, 4] [0, 1, 0] _ (by (repeat (first | assumption | exact Ints.nil _ | exact Ints.lit (by simp) rfl rfl rfl (by decide) (by decide) | apply Ints.alloc | apply Ints.drew | refine Ints.gr ?_ (show Gr _ _ from by assumption)))) (by (repeat (first | assumption | exact Ints.nil _ | exact Ints.lit (by simp) rfl rfl rfl (by decide) (by decide) | apply Ints.alloc | apply Ints.drew | refine Ints.gr ?_ (show Gr _ _ from by assumption))))).mono ?_
  rw [e6]; rintro e w' ⟨rfl, rfl⟩
  go_wp2_with fail
  refine (Covers_calls _ _ [0, 1, 0] [1, 3, 4] _ (by (repeat (first | assumption | exact Ints.nil _ | exact Ints.lit (by simp) rfl rfl rfl (by decide) (by decide) | apply Ints.alloc | apply Ints.drew | refine Ints.gr ?_ (show Gr _ _ from by assumption)))) (by (repeat (first | assumption | exact Ints.nil _ | exact Ints.lit (by simp) rfl rfl rfl (by decide) (by decide) | apply Ints.alloc | apply Ints.drew | refine Ints.gr ?_ (show Gr _ _ from by assumption))))).mono ?_
  rw [e7]; rintro e w' ⟨rfl, rfl⟩
  go_wp2_with fail
  refine (Right_calls _ [-1] _ (by (repeat (first | assumption | exact Ints.nil _ | exact Ints.lit (by simp) rfl rfl rfl (by decide) (by decide) | apply Ints.alloc | apply Ints.drew | refine Ints.gr ?_ (show Gr _ _ from by assumption))))).mono ?_
  rw [e8]; rintro e w' ⟨rfl, rfl⟩
  go_wp2_with fail
  go_ret
  exact ⟨rfl, by (repeat (first | exact Gr.refl _ | assumption | apply Gr.alloc | apply Gr.drew | apply Gr.drewN | refine Gr.trans ?_ (by assumption)))⟩
end Go.Proofs.Ytkpbhkfpkoiilaa
