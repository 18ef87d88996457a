/- The call NetBack answers true at any net, marking and sequence that read as data (lists of at most 17592186043904 elements each); nothing that lay there turns. -/
import Derived.Test.YtkpbhkfpkoiilaaAlive2
import Derived.Test.YtkpbhkfpkoiilaaRev
import Derived.Test.YtkpbhkfpkoiilaaNet4
namespace Go.Proofs.Ytkpbhkfpkoiilaa
open Go.RowKit Go.Tok
set_option linter.unusedVariables false

theorem netSmall_of {N : NetD} {m : List Int} (h : fitsB N m = true) : NetSmall N := by
  have hs := fits_sizes h
  refine ⟨by omega, fun k hk => ?_⟩
  have F := netOk_tr (fits_ok h) hk
  have := F.pre; have := F.post
  omega

set_option maxHeartbeats 4000000 in
set_option maxRecDepth 100000 in
theorem NetBack_walk {v u s : Value} {N : NetD} {m seq : List Int} (w : World) (hN : NetR w v N) (h1 : Ints w u m ∧ m.length ≤ 17592186043904) (h2 : Ints w s seq ∧ seq.length ≤ 17592186043904) :
    Calls Try.prog 11 #[v, u, s] w fun e w' => e = .returned (.bool true) ∧ Gr w w' := by
  obtain ⟨hu, lm⟩ := h1
  obtain ⟨hs, ls⟩ := h2
  have hN' := hN
  obtain ⟨a, cap, rfl, hnl, hncap, hpl, hT⟩ := hN.open_
  have hpl1 := hpl.1
  have hpl2 := hpl.2
  obtain ⟨ua, uc, rfl, ul, ul'⟩ := hu.len
  obtain ⟨sa, sc, rfl, sl, sl'⟩ := hs.len
  rcases hr : runF N m seq with ⟨x, e⟩
  have HR := Lib.hid hr
  by_cases he : e = 0
  · subst he
    have hS := netSmall_of (runF_of hr).1
    have HB := Lib.hid (net_back hr)
    have e1 := eqB_yes (rfl : m = m)
    clear hr
    go_enter Try.func11, Try.ntmps11
    go_wp2_with fail
    refine (alive2_calls _).mono ?_
    rintro _ w1 ⟨rfl, g1⟩
    have B0 := box_cell g1 (i := 0) rfl
    have B1 := box_cell g1 (i := 1) rfl
    go_wp2_with fail
    refine (Run_calls _ _ _ N m seq _ (by (repeat (first | assumption | refine NetR.gr ?_ (show Gr _ _ from by assumption) | apply NetR.alloc | apply NetR.drew))) (by (repeat (first | assumption | exact Ints.nil _ | (refine Ints.lit ?_ rfl rfl rfl ?_ ?_; ((focus (simp; done))); all_goals decide) | apply Ints.alloc | apply Ints.drew | refine Ints.gr ?_ (show Gr _ _ from by assumption)))) (by (repeat (first | assumption | exact Ints.nil _ | (refine Ints.lit ?_ rfl rfl rfl ?_ ?_; ((focus (simp; done))); all_goals decide) | apply Ints.alloc | apply Ints.drew | refine Ints.gr ?_ (show Gr _ _ from by assumption))))).mono ?_
    rw [HR.out]; rintro _ w2 ⟨v2, rfl, i2, g2⟩
    replace B0 : w2.cell? ⟨w.heap.size, 0, none⟩ = some (.int .i64 N.places) := by (repeat (first | (refine lit_at ?_ rfl; (focus (simp; done))) | assumption | refine cell_gr ?_ (show Gr _ _ from by assumption) | refine cell_gr ?_ ((Gr.refl _).alloc _)))
    replace B1 : w2.cell? ⟨w.heap.size, 1, none⟩ = some (.slice a N.trans.length cap) := by (repeat (first | (refine lit_at ?_ rfl; (focus (simp; done))) | assumption | refine cell_gr ?_ (show Gr _ _ from by assumption) | refine cell_gr ?_ ((Gr.refl _).alloc _)))
    go_wp2_with fail
    refine (Clone_calls _ seq _ (by (repeat (first | assumption | exact Ints.nil _ | (refine Ints.lit ?_ rfl rfl rfl ?_ ?_; ((focus (simp; done))); all_goals decide) | apply Ints.alloc | apply Ints.drew | refine Ints.gr ?_ (show Gr _ _ from by assumption)))) (by omega)).mono ?_
    rintro _ w3 ⟨v3, rfl, o3, g3⟩
    obtain ⟨a3, c3, rfl, q3, q3'⟩ := o3.ints.len
    go_wp2_with fail
    refine (Reverse_calls _ seq _ _ o3 g3.le).mono ?_
    rintro _ w4 ⟨rfl, o4, g4'⟩
    have g4 : Gr w2 w4 := g4' _ (Nat.le_refl _) g3
    have i4 := o4.ints
    clear g3 g4' o3
    replace B0 : w4.cell? ⟨w.heap.size, 0, none⟩ = some (.int .i64 N.places) := by (repeat (first | (refine lit_at ?_ rfl; (focus (simp; done))) | assumption | refine cell_gr ?_ (show Gr _ _ from by assumption) | refine cell_gr ?_ ((Gr.refl _).alloc _)))
    replace B1 : w4.cell? ⟨w.heap.size, 1, none⟩ = some (.slice a N.trans.length cap) := by (repeat (first | (refine lit_at ?_ rfl; (focus (simp; done))) | assumption | refine cell_gr ?_ (show Gr _ _ from by assumption) | refine cell_gr ?_ ((Gr.refl _).alloc _)))
    go_wp2_with fail
    refine (Turned_calls _ N _ (by (repeat (first | assumption | refine NetR.gr ?_ (show Gr _ _ from by assumption) | apply NetR.alloc | apply NetR.drew))) hS).mono ?_
    rintro _ w5 ⟨v5, rfl, n5, g5⟩
    have n5' := n5
    obtain ⟨a5, c5, rfl, _, _, _, _⟩ := n5.open_
    go_wp2_with fail
    refine (Run_calls _ _ _ (turnN N) x seq.reverse _ n5' (by (repeat (first | assumption | exact Ints.nil _ | (refine Ints.lit ?_ rfl rfl rfl ?_ ?_; ((focus (simp; done))); all_goals decide) | apply Ints.alloc | apply Ints.drew | refine Ints.gr ?_ (show Gr _ _ from by assumption)))) (by (repeat (first | assumption | exact Ints.nil _ | (refine Ints.lit ?_ rfl rfl rfl ?_ ?_; ((focus (simp; done))); all_goals decide) | apply Ints.alloc | apply Ints.drew | refine Ints.gr ?_ (show Gr _ _ from by assumption))))).mono ?_
    rw [HB.out]; rintro _ w6 ⟨v6, rfl, i6, g6⟩
    go_wp2_with fail
    refine (Equal_calls _ _ m m _ (by (repeat (first | assumption | exact Ints.nil _ | (refine Ints.lit ?_ rfl rfl rfl ?_ ?_; ((focus (simp; done))); all_goals decide) | apply Ints.alloc | apply Ints.drew | refine Ints.gr ?_ (show Gr _ _ from by assumption)))) (by (repeat (first | assumption | exact Ints.nil _ | (refine Ints.lit ?_ rfl rfl rfl ?_ ?_; ((focus (simp; done))); all_goals decide) | apply Ints.alloc | apply Ints.drew | refine Ints.gr ?_ (show Gr _ _ from by assumption))))).mono ?_
    rw [e1]; rintro _ w7 ⟨rfl, g7⟩
    go_wp2_with fail
    go_ret
    exact ⟨rfl, by (repeat (first | exact Gr.refl _ | assumption | apply Gr.alloc | apply Gr.drew | apply Gr.drewN | refine Gr.trans ?_ (by assumption)))⟩
  · obtain ⟨rfl, _⟩ := runF_bad hr he
    have q2 : (e != 0) = true := by simpa using he
    clear hr he
    go_enter Try.func11, Try.ntmps11
    go_wp2_with fail
    refine (alive2_calls _).mono ?_
    rintro _ w1 ⟨rfl, g1⟩
    have B0 := box_cell g1 (i := 0) rfl
    have B1 := box_cell g1 (i := 1) rfl
    go_wp2_with fail
    refine (Run_calls _ _ _ N m seq _ (by (repeat (first | assumption | refine NetR.gr ?_ (show Gr _ _ from by assumption) | apply NetR.alloc | apply NetR.drew))) (by (repeat (first | assumption | exact Ints.nil _ | (refine Ints.lit ?_ rfl rfl rfl ?_ ?_; ((focus (simp; done))); all_goals decide) | apply Ints.alloc | apply Ints.drew | refine Ints.gr ?_ (show Gr _ _ from by assumption)))) (by (repeat (first | assumption | exact Ints.nil _ | (refine Ints.lit ?_ rfl rfl rfl ?_ ?_; ((focus (simp; done))); all_goals decide) | apply Ints.alloc | apply Ints.drew | refine Ints.gr ?_ (show Gr _ _ from by assumption))))).mono ?_
    rw [HR.out]; rintro _ w2 ⟨v2, rfl, i2, g2⟩
    obtain ⟨a2, c2, rfl, q2, q2'⟩ := i2.len
    go_wp2_with fail
    go_ret
    exact ⟨rfl, by (repeat (first | exact Gr.refl _ | assumption | apply Gr.alloc | apply Gr.drew | apply Gr.drewN | refine Gr.trans ?_ (by assumption)))⟩
end Go.Proofs.Ytkpbhkfpkoiilaa
