/- The call ShapeTurned answers true at any net that reads as data (lists that the memory holds); nothing that lay there turns. -/
import Derived.Test.YtmigejcejnofiaaAlive8
import Derived.Test.YtmigejcejnofiaaNet4
namespace Go.Proofs.Ytmigejcejnofiaa
open Go.RowKit Go.Tok
set_option linter.unusedVariables false

set_option maxHeartbeats 4000000 in
set_option maxRecDepth 100000 in
theorem ShapeTurned_walk {v : Value} {N : NetD} {i o : Int} (w : World) (h1 : NetR w v N ∧ NetSmall N) (hi : I64 i) (ho : I64 o) :
    Calls Try.prog 3 #[v, .int .i64 i, .int .i64 o] w fun e w' => e = .returned (.bool true) ∧ Gr w w' := by
  obtain ⟨hN, hS⟩ := h1
  have hN' := hN
  obtain ⟨a, cap, rfl, hnl, hncap, hpl, hT⟩ := hN.open_
  have hpl1 := hpl.1
  have hpl2 := hpl.2
  obtain ⟨c, hc⟩ : ∃ c, c = shapeC N i o := ⟨_, rfl⟩
  have ht : shapeC (turnN N) o i = c := by rw [shape_turn, hc]
  have HT := Lib.hid ht
  have HC := Lib.hid hc.symm
  have hcc : (c == c) = true := by simp
  clear ht hc
  go_enter Try.func3, Try.ntmps3
  go_wp2_with fail
  refine (alive8_calls _).mono ?_
  rintro _ w1 ⟨rfl, g1⟩
  have B0 := box_cell g1 (i := 0) rfl
  have B1 := box_cell g1 (i := 1) rfl
  have K4 : NetR w1 (.agg #[.int .i64 N.places, .slice a N.trans.length cap]) N := by (repeat (first | assumption | refine NetR.gr ?_ (show Gr _ _ from by assumption) | apply NetR.alloc | apply NetR.drew))
  go_wp2_with fail
  go_region_held3 (fun w' => w'.cell? ⟨w.heap.size, 0, none⟩ = some (.int .i64 N.places) ∧ w'.cell? ⟨w.heap.size, 1, none⟩ = some (.slice a N.trans.length cap)) (first | go_keep | exact ⟨cell_gr B0 (by (repeat (first | exact Gr.refl _ | assumption | apply Gr.alloc | apply Gr.drew | apply Gr.drewN | refine Gr.trans ?_ (by assumption)))), cell_gr B1 (by (repeat (first | exact Gr.refl _ | assumption | apply Gr.alloc | apply Gr.drew | apply Gr.drewN | refine Gr.trans ?_ (by assumption))))⟩) (first | (go_at_call 19; (with_reducible refine (Turned_calls _ N _ (K4.gr (by (repeat (first | exact Gr.refl _ | assumption | apply Gr.alloc | apply Gr.drew | apply Gr.drewN | refine Gr.trans ?_ (by assumption))))) hS).mono ?_); rintro _ w3 ⟨v3, rfl, n3, g3⟩; obtain ⟨a3, c3, rfl, _, _, _, _⟩ := n3.open_) | (go_at_call 18; (first | (with_reducible refine (ShapeWrong_calls _ N i o _ (K4.gr (by (repeat (first | exact Gr.refl _ | assumption | apply Gr.alloc | apply Gr.drew | apply Gr.drewN | refine Gr.trans ?_ (by assumption))))) hi ho).mono ?_); rw [HC.out]; rintro _ w2 ⟨rfl, g2⟩ | (with_reducible refine (ShapeWrong_calls _ (turnN N) o i _ (n3.gr (by (repeat (first | exact Gr.refl _ | assumption | apply Gr.alloc | apply Gr.drew | apply Gr.drewN | refine Gr.trans ?_ (by assumption))))) ho hi).mono ?_); rw [HT.out]; rintro _ w4 ⟨rfl, g4⟩)))
  all_goals go_wp2_with fail
  all_goals go_ret
  all_goals exact ⟨rfl, by (repeat (first | exact Gr.refl _ | assumption | apply Gr.alloc | apply Gr.drew | apply Gr.drewN | refine Gr.trans ?_ (by assumption)))⟩
end Go.Proofs.Ytmigejcejnofiaa
