/- The call alive18 answers true, in whatever world; nothing that lay there turns. No conditions. -/
import Derived.Test.YtkpbhkfpkoiilaaJour4
namespace Go.Proofs.Ytkpbhkfpkoiilaa
open Go.RowKit Go.Tok
set_option linter.unusedVariables false

def op300 : OpD := ⟨2, 0, 0, 300, 0⟩
theorem op300_I : opI op300 := by unfold opI I64 op300; simp only []; omega
theorem read300 : ReadsTo (seven op300 ++ [1, 2]) 1 0 := .all 1 ((GoodTo.zero _).succ (by decide +kernel)) (by decide +kernel) (by decide +kernel)
theorem ops300 : opsTo (seven op300 ++ [1, 2]) 1 = [op300] := by decide +kernel

set_option maxHeartbeats 2000000 in
theorem alive18_calls (w : World) : Calls Try.prog 17 #[] w fun e w' => e = .returned (.bool true) ∧ Gr w w' := by
  have h1 : opOkB op300 = true := by decide +kernel
  have hw := fun w => Write_ok op300 w op300_I h1
  have HS := Lib.hid (show ∀ y ∈ [1, 2], y < 256 by decide)
  have hn1 : ((seven op300).length + [1, 2].length) * 1 ≤ 140737488355328 := by rw [seven_len]; decide
  have hn2 : (seven op300).length + [1, 2].length ≤ maxLen := by rw [seven_len]; decide
  go_enter Try.func17, Try.ntmps17
  go_wp2_with fail
  refine (hw _).mono ?_
  rintro _ w1 ⟨v1, rfl, o1, g1⟩
  obtain ⟨a1, cp1, rfl, q1, q2⟩ := o1.len
  rw [seven_len] at o1 q1 ⊢
  have o2 : OwnR byteK 5 w1.heap.size All (w1.alloc (.cells #[.int .u8 1, .int .u8 2] 5)) (.slice (some ⟨w1.heap.size, 0, none⟩) 2 2) [1, 2] := own_bytes rfl rfl rfl rfl (by decide) (by decide) (Nat.le_refl _)
  go_wp2_with (at_builtin; refine app_flat byteTy _ _ w.heap.size All _ _ (seven op300) [1, 2] rfl rfl (by rfl) (by rfl) (o1.gr (by (repeat (first | exact Gr.refl _ | assumption | apply Gr.alloc | apply Gr.drew | apply Gr.drewN | refine Gr.trans ?_ (by assumption))))) o2.rd HS.out hn1 hn2 (Gr.le (by (repeat (first | exact Gr.refl _ | assumption | apply Gr.alloc | apply Gr.drew | apply Gr.drewN | refine Gr.trans ?_ (by assumption))))) ?_; intro v' w' ho' hg' _ _)
  have G : Gr w w' := hg' w (Nat.le_refl _) (by (repeat (first | exact Gr.refl _ | assumption | apply Gr.alloc | apply Gr.drew | apply Gr.drewN | refine Gr.trans ?_ (by assumption))))
  refine (Read_calls _ _ 1 0 _ ho'.rd read300 (by decide)).mono ?_
  rw [ops300]; rintro _ w3 ⟨v3, rfl, o3, g3⟩
  rcases o3.form with ⟨_, h⟩ | ⟨g, cp, rfl, _, _, _, _⟩
  · cases h
  obtain ⟨b, o, hb, c0, c1, c2, c3, c4, _⟩ := o3.rd.op (i := 0) (by decide)
  cases hb
  replace c3 : w3.cell? ⟨g, 3, none⟩ = some (.int .i64 300) := by simpa [ix_zero, op300] using c3
  go_wp2_with fail
  go_ret
  exact ⟨rfl, by (repeat (first | exact Gr.refl _ | assumption | apply Gr.alloc | apply Gr.drew | apply Gr.drewN | refine Gr.trans ?_ (by assumption)))⟩
end Go.Proofs.Ytkpbhkfpkoiilaa
