/- The call NetParts answers true at any net, marking, sequences and number that read as data (each list of at most 1048576 elements); nothing that lay there turns. -/
import Derived.Test.YtkpbhkfpkoiilaaAlive2
import Derived.Test.YtkpbhkfpkoiilaaNetLaw
import Derived.Test.YtkpbhkfpkoiilaaSl2
import Derived.Deep.RegionHeld3
namespace Go.Proofs.Ytkpbhkfpkoiilaa
open Go.RowKit Go.Tok
set_option linter.unusedVariables false

theorem flatten2 (a b : List Int) : [a, b].flatten = a ++ b := by simp


set_option maxHeartbeats 4000000 in
set_option maxRecDepth 100000 in
theorem NetParts_unfit (v u p q : Value) (N : NetD) (m sa sb : List Int) (t : Int) (w : World) (hN : NetR w v N) (hu : Ints w u m) (hp : Ints w p sa) (hq : Ints w q sb) (ht : I64 t) (la : sa.length ≤ 1048576) (lb : sb.length ≤ 1048576) (hf : fitsB N m = false) :
    Calls Try.prog 16 #[v, u, p, q, .int .i64 t] w fun e w' => e = .returned (.bool true) ∧ Gr w w' := by
  have hN' := hN
  obtain ⟨a, cap, rfl, hnl, hncap, hpl, hT⟩ := hN.open_
  have hpl1 := hpl.1
  have hpl2 := hpl.2
  rcases hy : runF N [] sb with ⟨y, f⟩
  have HX := Lib.hid (runF_unfit (s := sa) hf)
  have HY := Lib.hid hy
  have HZ := Lib.hid (runF_unfit (s := sa ++ sb) hf)
  have HE := Lib.hid (enabledF_unfit hf)
  have HF := Lib.hid (fireF_unfit (t := t) hf)
  clear hy hf
  obtain ⟨pa, pc, rfl, pl, pl'⟩ := hp.len
  obtain ⟨qa, qc, rfl, ql, ql'⟩ := hq.len
  go_enter Try.func16, Try.ntmps16
  go_wp2_with fail
  refine (alive2_calls _).mono ?_
  rintro _ w1 ⟨rfl, g1⟩
  have B0 := box_cell g1 (i := 0) rfl
  have B1 := box_cell g1 (i := 1) rfl
  go_wp2_with fail
  refine (Run_calls _ _ _ N m sa _ (by (repeat (first | assumption | refine NetR.gr ?_ (show Gr _ _ from by assumption) | apply NetR.alloc | apply NetR.drew))) (by (repeat (first | assumption | exact Ints.nil _ | (refine Ints.lit ?_ rfl rfl rfl ?_ ?_; ((focus (simp; done))); all_goals decide) | apply Ints.alloc | apply Ints.drew | refine Ints.gr ?_ (show Gr _ _ from by assumption)))) (by (repeat (first | assumption | exact Ints.nil _ | (refine Ints.lit ?_ rfl rfl rfl ?_ ?_; ((focus (simp; done))); all_goals decide) | apply Ints.alloc | apply Ints.drew | refine Ints.gr ?_ (show Gr _ _ from by assumption))))).mono ?_
  rw [HX.out]; rintro _ w2 ⟨v2, rfl, i2, g2⟩
  replace B0 : w2.cell? ⟨w.heap.size, 0, none⟩ = some (.int .i64 N.places) := cell_gr B0 (by (repeat (first | exact Gr.refl _ | assumption | apply Gr.alloc | apply Gr.drew | apply Gr.drewN | refine Gr.trans ?_ (by assumption))))
  replace B1 := cell_gr (w' := w2) B1 (by (repeat (first | exact Gr.refl _ | assumption | apply Gr.alloc | apply Gr.drew | apply Gr.drewN | refine Gr.trans ?_ (by assumption))))
  go_wp2_with fail
  refine (Run_calls _ _ _ N [] sb _ (by (repeat (first | assumption | refine NetR.gr ?_ (show Gr _ _ from by assumption) | apply NetR.alloc | apply NetR.drew))) (by (repeat (first | assumption | exact Ints.nil _ | (refine Ints.lit ?_ rfl rfl rfl ?_ ?_; ((focus (simp; done))); all_goals decide) | apply Ints.alloc | apply Ints.drew | refine Ints.gr ?_ (show Gr _ _ from by assumption)))) (by (repeat (first | assumption | exact Ints.nil _ | (refine Ints.lit ?_ rfl rfl rfl ?_ ?_; ((focus (simp; done))); all_goals decide) | apply Ints.alloc | apply Ints.drew | refine Ints.gr ?_ (show Gr _ _ from by assumption))))).mono ?_
  rw [HY.out]; rintro _ w3 ⟨v3, rfl, i3, g3⟩
  replace B0 : w3.cell? ⟨w.heap.size, 0, none⟩ = some (.int .i64 N.places) := cell_gr B0 (by (repeat (first | exact Gr.refl _ | assumption | apply Gr.alloc | apply Gr.drew | apply Gr.drewN | refine Gr.trans ?_ (by assumption))))
  replace B1 := cell_gr (w' := w3) B1 (by (repeat (first | exact Gr.refl _ | assumption | apply Gr.alloc | apply Gr.drew | apply Gr.drewN | refine Gr.trans ?_ (by assumption))))
  go_wp2_with fail
  have K1 : Ints w3 u m := by (repeat (first | assumption | exact Ints.nil _ | (refine Ints.lit ?_ rfl rfl rfl ?_ ?_; ((focus (simp; done))); all_goals decide) | apply Ints.alloc | apply Ints.drew | refine Ints.gr ?_ (show Gr _ _ from by assumption)))
  have K2 : Ints w3 (.slice pa sa.length pc) sa := by (repeat (first | assumption | exact Ints.nil _ | (refine Ints.lit ?_ rfl rfl rfl ?_ ?_; ((focus (simp; done))); all_goals decide) | apply Ints.alloc | apply Ints.drew | refine Ints.gr ?_ (show Gr _ _ from by assumption)))
  have K3 : Ints w3 (.slice qa sb.length qc) sb := by (repeat (first | assumption | exact Ints.nil _ | (refine Ints.lit ?_ rfl rfl rfl ?_ ?_; ((focus (simp; done))); all_goals decide) | apply Ints.alloc | apply Ints.drew | refine Ints.gr ?_ (show Gr _ _ from by assumption)))
  have K4 : NetR w3 (.agg #[.int .i64 N.places, .slice a N.trans.length cap]) N := by (repeat (first | assumption | refine NetR.gr ?_ (show Gr _ _ from by assumption) | apply NetR.alloc | apply NetR.drew))
  go_region_held3 (fun w' => w'.cell? ⟨w.heap.size, 0, none⟩ = some (.int .i64 N.places) ∧ w'.cell? ⟨w.heap.size, 1, none⟩ = some (.slice a N.trans.length cap)) (first | go_keep | exact ⟨cell_gr B0 (by (repeat (first | exact Gr.refl _ | assumption | apply Gr.alloc | apply Gr.drew | apply Gr.drewN | refine Gr.trans ?_ (by assumption)))), cell_gr B1 (by (repeat (first | exact Gr.refl _ | assumption | apply Gr.alloc | apply Gr.drew | apply Gr.drewN | refine Gr.trans ?_ (by assumption))))⟩) (first | (go_at_call 43; refine (Concat_calls _ [sa, sb] _ ((Mat.lit2 (by first | rfl | (simp; done)) (K2.gr (by (repeat (first | exact Gr.refl _ | assumption | apply Gr.alloc | apply Gr.drew | apply Gr.drewN | refine Gr.trans ?_ (by assumption))))) (K3.gr (by (repeat (first | exact Gr.refl _ | assumption | apply Gr.alloc | apply Gr.drew | apply Gr.drewN | refine Gr.trans ?_ (by assumption)))))).gr ((Gr.refl _).drew)) (by rw [flatten2]; simp; omega)).mono ?_; rw [flatten2]; rintro _ w4 ⟨v4, rfl, o4, g4⟩) | (go_at_call 31; refine (Run_calls _ _ _ N m (sa ++ sb) _ (K4.gr (by (repeat (first | exact Gr.refl _ | assumption | apply Gr.alloc | apply Gr.drew | apply Gr.drewN | refine Gr.trans ?_ (by assumption))))) (K1.gr (by (repeat (first | exact Gr.refl _ | assumption | apply Gr.alloc | apply Gr.drew | apply Gr.drewN | refine Gr.trans ?_ (by assumption))))) o4.ints).mono ?_; rw [HZ.out]; rintro _ w5 ⟨v5, rfl, i5, g5⟩))
  replace B0 : w5.cell? ⟨w.heap.size, 0, none⟩ = some (.int .i64 N.places) := cell_gr B0 (by (repeat (first | exact Gr.refl _ | assumption | apply Gr.alloc | apply Gr.drew | apply Gr.drewN | refine Gr.trans ?_ (by assumption))))
  replace B1 := cell_gr (w' := w5) B1 (by (repeat (first | exact Gr.refl _ | assumption | apply Gr.alloc | apply Gr.drew | apply Gr.drewN | refine Gr.trans ?_ (by assumption))))
  go_wp2_with fail
  refine (Enabled_calls _ _ N m _ (by (repeat (first | assumption | refine NetR.gr ?_ (show Gr _ _ from by assumption) | apply NetR.alloc | apply NetR.drew))) (by (repeat (first | assumption | exact Ints.nil _ | (refine Ints.lit ?_ rfl rfl rfl ?_ ?_; ((focus (simp; done))); all_goals decide) | apply Ints.alloc | apply Ints.drew | refine Ints.gr ?_ (show Gr _ _ from by assumption))))).mono ?_
  rw [HE.out]; rintro _ w7 ⟨v7, rfl, i7, g7⟩
  replace B0 : w7.cell? ⟨w.heap.size, 0, none⟩ = some (.int .i64 N.places) := cell_gr B0 (by (repeat (first | exact Gr.refl _ | assumption | apply Gr.alloc | apply Gr.drew | apply Gr.drewN | refine Gr.trans ?_ (by assumption))))
  replace B1 := cell_gr (w' := w7) B1 (by (repeat (first | exact Gr.refl _ | assumption | apply Gr.alloc | apply Gr.drew | apply Gr.drewN | refine Gr.trans ?_ (by assumption))))
  go_wp2_with fail
  refine (Fire_calls _ _ N m t _ (by (repeat (first | assumption | refine NetR.gr ?_ (show Gr _ _ from by assumption) | apply NetR.alloc | apply NetR.drew))) (by (repeat (first | assumption | exact Ints.nil _ | (refine Ints.lit ?_ rfl rfl rfl ?_ ?_; ((focus (simp; done))); all_goals decide) | apply Ints.alloc | apply Ints.drew | refine Ints.gr ?_ (show Gr _ _ from by assumption)))) ht).mono ?_
  rw [HF.out]; rintro _ w8 ⟨v8, rfl, i8, g8⟩
  go_wp2_with fail
  go_ret
  exact ⟨rfl, by (repeat (first | exact Gr.refl _ | assumption | apply Gr.alloc | apply Gr.drew | apply Gr.drewN | refine Gr.trans ?_ (by assumption)))⟩

set_option maxHeartbeats 4000000 in
set_option maxRecDepth 100000 in
theorem NetParts_bad (v u p q : Value) (N : NetD) (m sa sb : List Int) (t : Int) (w : World) (hN : NetR w v N) (hu : Ints w u m) (hp : Ints w p sa) (hq : Ints w q sb) (ht : I64 t) (la : sa.length ≤ 1048576) (lb : sb.length ≤ 1048576) {e i : Int} {c : Bool} {l' : List Int} (hf : fitsB N m = true) (hx : runF N m sa = ([], e)) (he : e ≠ 0) (hfi : fireF N m t = (l', i)) (hc : hasB (enabledL N m) t = c) (hic : (c == (i != 3)) = true) :
    Calls Try.prog 16 #[v, u, p, q, .int .i64 t] w fun e w' => e = .returned (.bool true) ∧ Gr w w' := by
  have hN' := hN
  obtain ⟨a, cap, rfl, hnl, hncap, hpl, hT⟩ := hN.open_
  have hpl1 := hpl.1
  have hpl2 := hpl.2
  rcases hy : runF N [] sb with ⟨y, f⟩
  have HX := Lib.hid hx
  have HY := Lib.hid hy
  have HZ := Lib.hid (parts_bad (b := sb) hx he)
  have HE := Lib.hid (enabledF_fit hf)
  have HF := Lib.hid hfi
  have q1 : (e != 0) = true := by simpa using he
  have q2 : (e == 0) = false := by simpa using he
  clear hy hf hx he hfi
  obtain ⟨pa, pc, rfl, pl, pl'⟩ := hp.len
  obtain ⟨qa, qc, rfl, ql, ql'⟩ := hq.len
  go_enter Try.func16, Try.ntmps16
  go_wp2_with fail
  refine (alive2_calls _).mono ?_
  rintro _ w1 ⟨rfl, g1⟩
  have B0 := box_cell g1 (i := 0) rfl
  have B1 := box_cell g1 (i := 1) rfl
  go_wp2_with fail
  refine (Run_calls _ _ _ N m sa _ (by (repeat (first | assumption | refine NetR.gr ?_ (show Gr _ _ from by assumption) | apply NetR.alloc | apply NetR.drew))) (by (repeat (first | assumption | exact Ints.nil _ | (refine Ints.lit ?_ rfl rfl rfl ?_ ?_; ((focus (simp; done))); all_goals decide) | apply Ints.alloc | apply Ints.drew | refine Ints.gr ?_ (show Gr _ _ from by assumption)))) (by (repeat (first | assumption | exact Ints.nil _ | (refine Ints.lit ?_ rfl rfl rfl ?_ ?_; ((focus (simp; done))); all_goals decide) | apply Ints.alloc | apply Ints.drew | refine Ints.gr ?_ (show Gr _ _ from by assumption))))).mono ?_
  rw [HX.out]; rintro _ w2 ⟨v2, rfl, i2, g2⟩
  replace B0 : w2.cell? ⟨w.heap.size, 0, none⟩ = some (.int .i64 N.places) := cell_gr B0 (by (repeat (first | exact Gr.refl _ | assumption | apply Gr.alloc | apply Gr.drew | apply Gr.drewN | refine Gr.trans ?_ (by assumption))))
  replace B1 := cell_gr (w' := w2) B1 (by (repeat (first | exact Gr.refl _ | assumption | apply Gr.alloc | apply Gr.drew | apply Gr.drewN | refine Gr.trans ?_ (by assumption))))
  go_wp2_with fail
  refine (Run_calls _ _ _ N [] sb _ (by (repeat (first | assumption | refine NetR.gr ?_ (show Gr _ _ from by assumption) | apply NetR.alloc | apply NetR.drew))) (by (repeat (first | assumption | exact Ints.nil _ | (refine Ints.lit ?_ rfl rfl rfl ?_ ?_; ((focus (simp; done))); all_goals decide) | apply Ints.alloc | apply Ints.drew | refine Ints.gr ?_ (show Gr _ _ from by assumption)))) (by (repeat (first | assumption | exact Ints.nil _ | (refine Ints.lit ?_ rfl rfl rfl ?_ ?_; ((focus (simp; done))); all_goals decide) | apply Ints.alloc | apply Ints.drew | refine Ints.gr ?_ (show Gr _ _ from by assumption))))).mono ?_
  rw [HY.out]; rintro _ w3 ⟨v3, rfl, i3, g3⟩
  replace B0 : w3.cell? ⟨w.heap.size, 0, none⟩ = some (.int .i64 N.places) := cell_gr B0 (by (repeat (first | exact Gr.refl _ | assumption | apply Gr.alloc | apply Gr.drew | apply Gr.drewN | refine Gr.trans ?_ (by assumption))))
  replace B1 := cell_gr (w' := w3) B1 (by (repeat (first | exact Gr.refl _ | assumption | apply Gr.alloc | apply Gr.drew | apply Gr.drewN | refine Gr.trans ?_ (by assumption))))
  go_wp2_with fail
  have K1 : Ints w3 u m := by (repeat (first | assumption | exact Ints.nil _ | (refine Ints.lit ?_ rfl rfl rfl ?_ ?_; ((focus (simp; done))); all_goals decide) | apply Ints.alloc | apply Ints.drew | refine Ints.gr ?_ (show Gr _ _ from by assumption)))
  have K2 : Ints w3 (.slice pa sa.length pc) sa := by (repeat (first | assumption | exact Ints.nil _ | (refine Ints.lit ?_ rfl rfl rfl ?_ ?_; ((focus (simp; done))); all_goals decide) | apply Ints.alloc | apply Ints.drew | refine Ints.gr ?_ (show Gr _ _ from by assumption)))
  have K3 : Ints w3 (.slice qa sb.length qc) sb := by (repeat (first | assumption | exact Ints.nil _ | (refine Ints.lit ?_ rfl rfl rfl ?_ ?_; ((focus (simp; done))); all_goals decide) | apply Ints.alloc | apply Ints.drew | refine Ints.gr ?_ (show Gr _ _ from by assumption)))
  have K4 : NetR w3 (.agg #[.int .i64 N.places, .slice a N.trans.length cap]) N := by (repeat (first | assumption | refine NetR.gr ?_ (show Gr _ _ from by assumption) | apply NetR.alloc | apply NetR.drew))
  go_region_held3 (fun w' => w'.cell? ⟨w.heap.size, 0, none⟩ = some (.int .i64 N.places) ∧ w'.cell? ⟨w.heap.size, 1, none⟩ = some (.slice a N.trans.length cap)) (first | go_keep | exact ⟨cell_gr B0 (by (repeat (first | exact Gr.refl _ | assumption | apply Gr.alloc | apply Gr.drew | apply Gr.drewN | refine Gr.trans ?_ (by assumption)))), cell_gr B1 (by (repeat (first | exact Gr.refl _ | assumption | apply Gr.alloc | apply Gr.drew | apply Gr.drewN | refine Gr.trans ?_ (by assumption))))⟩) (first | (go_at_call 43; refine (Concat_calls _ [sa, sb] _ ((Mat.lit2 (by first | rfl | (simp; done)) (K2.gr (by (repeat (first | exact Gr.refl _ | assumption | apply Gr.alloc | apply Gr.drew | apply Gr.drewN | refine Gr.trans ?_ (by assumption))))) (K3.gr (by (repeat (first | exact Gr.refl _ | assumption | apply Gr.alloc | apply Gr.drew | apply Gr.drewN | refine Gr.trans ?_ (by assumption)))))).gr ((Gr.refl _).drew)) (by rw [flatten2]; simp; omega)).mono ?_; rw [flatten2]; rintro _ w4 ⟨v4, rfl, o4, g4⟩) | (go_at_call 31; refine (Run_calls _ _ _ N m (sa ++ sb) _ (K4.gr (by (repeat (first | exact Gr.refl _ | assumption | apply Gr.alloc | apply Gr.drew | apply Gr.drewN | refine Gr.trans ?_ (by assumption))))) (K1.gr (by (repeat (first | exact Gr.refl _ | assumption | apply Gr.alloc | apply Gr.drew | apply Gr.drewN | refine Gr.trans ?_ (by assumption))))) o4.ints).mono ?_; rw [HZ.out]; rintro _ w5 ⟨v5, rfl, i5, g5⟩))
  replace B0 : w5.cell? ⟨w.heap.size, 0, none⟩ = some (.int .i64 N.places) := cell_gr B0 (by (repeat (first | exact Gr.refl _ | assumption | apply Gr.alloc | apply Gr.drew | apply Gr.drewN | refine Gr.trans ?_ (by assumption))))
  replace B1 := cell_gr (w' := w5) B1 (by (repeat (first | exact Gr.refl _ | assumption | apply Gr.alloc | apply Gr.drew | apply Gr.drewN | refine Gr.trans ?_ (by assumption))))
  go_wp2_with fail
  refine (Enabled_calls _ _ N m _ (by (repeat (first | assumption | refine NetR.gr ?_ (show Gr _ _ from by assumption) | apply NetR.alloc | apply NetR.drew))) (by (repeat (first | assumption | exact Ints.nil _ | (refine Ints.lit ?_ rfl rfl rfl ?_ ?_; ((focus (simp; done))); all_goals decide) | apply Ints.alloc | apply Ints.drew | refine Ints.gr ?_ (show Gr _ _ from by assumption))))).mono ?_
  rw [HE.out]; rintro _ w7 ⟨v7, rfl, i7, g7⟩
  replace B0 : w7.cell? ⟨w.heap.size, 0, none⟩ = some (.int .i64 N.places) := cell_gr B0 (by (repeat (first | exact Gr.refl _ | assumption | apply Gr.alloc | apply Gr.drew | apply Gr.drewN | refine Gr.trans ?_ (by assumption))))
  replace B1 := cell_gr (w' := w7) B1 (by (repeat (first | exact Gr.refl _ | assumption | apply Gr.alloc | apply Gr.drew | apply Gr.drewN | refine Gr.trans ?_ (by assumption))))
  go_wp2_with fail
  refine (Fire_calls _ _ N m t _ (by (repeat (first | assumption | refine NetR.gr ?_ (show Gr _ _ from by assumption) | apply NetR.alloc | apply NetR.drew))) (by (repeat (first | assumption | exact Ints.nil _ | (refine Ints.lit ?_ rfl rfl rfl ?_ ?_; ((focus (simp; done))); all_goals decide) | apply Ints.alloc | apply Ints.drew | refine Ints.gr ?_ (show Gr _ _ from by assumption)))) ht).mono ?_
  rw [HF.out]; rintro _ w8 ⟨v8, rfl, i8, g8⟩
  go_wp2_with fail
  refine (Contains_calls _ (enabledL N m) t _ (by (repeat (first | assumption | exact Ints.nil _ | (refine Ints.lit ?_ rfl rfl rfl ?_ ?_; ((focus (simp; done))); all_goals decide) | apply Ints.alloc | apply Ints.drew | refine Ints.gr ?_ (show Gr _ _ from by assumption))))).mono ?_
  rw [hc]; rintro _ _ ⟨rfl, rfl⟩
  go_wp2_with fail
  go_ret
  exact ⟨rfl, by (repeat (first | exact Gr.refl _ | assumption | apply Gr.alloc | apply Gr.drew | apply Gr.drewN | refine Gr.trans ?_ (by assumption)))⟩

set_option maxHeartbeats 4000000 in
set_option maxRecDepth 100000 in
theorem NetParts_ok (v u p q : Value) (N : NetD) (m sa sb : List Int) (t : Int) (w : World) (hN : NetR w v N) (hu : Ints w u m) (hp : Ints w p sa) (hq : Ints w q sb) (ht : I64 t) (la : sa.length ≤ 1048576) (lb : sb.length ≤ 1048576) {f i : Int} {c : Bool} {x y l' : List Int} (hf : fitsB N m = true) (hx : runF N m sa = (x, 0)) (hy : runF N x sb = (y, f)) (hfi : fireF N m t = (l', i)) (hc : hasB (enabledL N m) t = c) (hic : (c == (i != 3)) = true) :
    Calls Try.prog 16 #[v, u, p, q, .int .i64 t] w fun e w' => e = .returned (.bool true) ∧ Gr w w' := by
  have hN' := hN
  obtain ⟨a, cap, rfl, hnl, hncap, hpl, hT⟩ := hN.open_
  have hpl1 := hpl.1
  have hpl2 := hpl.2
  have HX := Lib.hid hx
  have HY := Lib.hid hy
  have HZ := Lib.hid ((parts_ok (b := sb) hx).trans hy)
  have HE := Lib.hid (enabledF_fit hf)
  have HF := Lib.hid hfi
  have e3 := eqB_yes (rfl : y = y)
  clear hy hf hx hfi
  obtain ⟨pa, pc, rfl, pl, pl'⟩ := hp.len
  obtain ⟨qa, qc, rfl, ql, ql'⟩ := hq.len
  go_enter Try.func16, Try.ntmps16
  go_wp2_with fail
  refine (alive2_calls _).mono ?_
  rintro _ w1 ⟨rfl, g1⟩
  have B0 := box_cell g1 (i := 0) rfl
  have B1 := box_cell g1 (i := 1) rfl
  go_wp2_with fail
  refine (Run_calls _ _ _ N m sa _ (by (repeat (first | assumption | refine NetR.gr ?_ (show Gr _ _ from by assumption) | apply NetR.alloc | apply NetR.drew))) (by (repeat (first | assumption | exact Ints.nil _ | (refine Ints.lit ?_ rfl rfl rfl ?_ ?_; ((focus (simp; done))); all_goals decide) | apply Ints.alloc | apply Ints.drew | refine Ints.gr ?_ (show Gr _ _ from by assumption)))) (by (repeat (first | assumption | exact Ints.nil _ | (refine Ints.lit ?_ rfl rfl rfl ?_ ?_; ((focus (simp; done))); all_goals decide) | apply Ints.alloc | apply Ints.drew | refine Ints.gr ?_ (show Gr _ _ from by assumption))))).mono ?_
  rw [HX.out]; rintro _ w2 ⟨v2, rfl, i2, g2⟩
  replace B0 : w2.cell? ⟨w.heap.size, 0, none⟩ = some (.int .i64 N.places) := cell_gr B0 (by (repeat (first | exact Gr.refl _ | assumption | apply Gr.alloc | apply Gr.drew | apply Gr.drewN | refine Gr.trans ?_ (by assumption))))
  replace B1 := cell_gr (w' := w2) B1 (by (repeat (first | exact Gr.refl _ | assumption | apply Gr.alloc | apply Gr.drew | apply Gr.drewN | refine Gr.trans ?_ (by assumption))))
  go_wp2_with fail
  refine (Run_calls _ _ _ N x sb _ (by (repeat (first | assumption | refine NetR.gr ?_ (show Gr _ _ from by assumption) | apply NetR.alloc | apply NetR.drew))) (by (repeat (first | assumption | exact Ints.nil _ | (refine Ints.lit ?_ rfl rfl rfl ?_ ?_; ((focus (simp; done))); all_goals decide) | apply Ints.alloc | apply Ints.drew | refine Ints.gr ?_ (show Gr _ _ from by assumption)))) (by (repeat (first | assumption | exact Ints.nil _ | (refine Ints.lit ?_ rfl rfl rfl ?_ ?_; ((focus (simp; done))); all_goals decide) | apply Ints.alloc | apply Ints.drew | refine Ints.gr ?_ (show Gr _ _ from by assumption))))).mono ?_
  rw [HY.out]; rintro _ w3 ⟨v3, rfl, i3, g3⟩
  replace B0 : w3.cell? ⟨w.heap.size, 0, none⟩ = some (.int .i64 N.places) := cell_gr B0 (by (repeat (first | exact Gr.refl _ | assumption | apply Gr.alloc | apply Gr.drew | apply Gr.drewN | refine Gr.trans ?_ (by assumption))))
  replace B1 := cell_gr (w' := w3) B1 (by (repeat (first | exact Gr.refl _ | assumption | apply Gr.alloc | apply Gr.drew | apply Gr.drewN | refine Gr.trans ?_ (by assumption))))
  go_wp2_with fail
  have K1 : Ints w3 u m := by (repeat (first | assumption | exact Ints.nil _ | (refine Ints.lit ?_ rfl rfl rfl ?_ ?_; ((focus (simp; done))); all_goals decide) | apply Ints.alloc | apply Ints.drew | refine Ints.gr ?_ (show Gr _ _ from by assumption)))
  have K2 : Ints w3 (.slice pa sa.length pc) sa := by (repeat (first | assumption | exact Ints.nil _ | (refine Ints.lit ?_ rfl rfl rfl ?_ ?_; ((focus (simp; done))); all_goals decide) | apply Ints.alloc | apply Ints.drew | refine Ints.gr ?_ (show Gr _ _ from by assumption)))
  have K3 : Ints w3 (.slice qa sb.length qc) sb := by (repeat (first | assumption | exact Ints.nil _ | (refine Ints.lit ?_ rfl rfl rfl ?_ ?_; ((focus (simp; done))); all_goals decide) | apply Ints.alloc | apply Ints.drew | refine Ints.gr ?_ (show Gr _ _ from by assumption)))
  have K4 : NetR w3 (.agg #[.int .i64 N.places, .slice a N.trans.length cap]) N := by (repeat (first | assumption | refine NetR.gr ?_ (show Gr _ _ from by assumption) | apply NetR.alloc | apply NetR.drew))
  go_region_held3 (fun w' => w'.cell? ⟨w.heap.size, 0, none⟩ = some (.int .i64 N.places) ∧ w'.cell? ⟨w.heap.size, 1, none⟩ = some (.slice a N.trans.length cap)) (first | go_keep | exact ⟨cell_gr B0 (by (repeat (first | exact Gr.refl _ | assumption | apply Gr.alloc | apply Gr.drew | apply Gr.drewN | refine Gr.trans ?_ (by assumption)))), cell_gr B1 (by (repeat (first | exact Gr.refl _ | assumption | apply Gr.alloc | apply Gr.drew | apply Gr.drewN | refine Gr.trans ?_ (by assumption))))⟩) (first | (go_at_call 43; refine (Concat_calls _ [sa, sb] _ ((Mat.lit2 (by first | rfl | (simp; done)) (K2.gr (by (repeat (first | exact Gr.refl _ | assumption | apply Gr.alloc | apply Gr.drew | apply Gr.drewN | refine Gr.trans ?_ (by assumption))))) (K3.gr (by (repeat (first | exact Gr.refl _ | assumption | apply Gr.alloc | apply Gr.drew | apply Gr.drewN | refine Gr.trans ?_ (by assumption)))))).gr ((Gr.refl _).drew)) (by rw [flatten2]; simp; omega)).mono ?_; rw [flatten2]; rintro _ w4 ⟨v4, rfl, o4, g4⟩) | (go_at_call 31; refine (Run_calls _ _ _ N m (sa ++ sb) _ (K4.gr (by (repeat (first | exact Gr.refl _ | assumption | apply Gr.alloc | apply Gr.drew | apply Gr.drewN | refine Gr.trans ?_ (by assumption))))) (K1.gr (by (repeat (first | exact Gr.refl _ | assumption | apply Gr.alloc | apply Gr.drew | apply Gr.drewN | refine Gr.trans ?_ (by assumption))))) o4.ints).mono ?_; rw [HZ.out]; rintro _ w5 ⟨v5, rfl, i5, g5⟩))
  replace B0 : w5.cell? ⟨w.heap.size, 0, none⟩ = some (.int .i64 N.places) := cell_gr B0 (by (repeat (first | exact Gr.refl _ | assumption | apply Gr.alloc | apply Gr.drew | apply Gr.drewN | refine Gr.trans ?_ (by assumption))))
  replace B1 := cell_gr (w' := w5) B1 (by (repeat (first | exact Gr.refl _ | assumption | apply Gr.alloc | apply Gr.drew | apply Gr.drewN | refine Gr.trans ?_ (by assumption))))
  go_wp2_with fail
  refine (Equal_calls _ _ y y _ (by (repeat (first | assumption | exact Ints.nil _ | (refine Ints.lit ?_ rfl rfl rfl ?_ ?_; ((focus (simp; done))); all_goals decide) | apply Ints.alloc | apply Ints.drew | refine Ints.gr ?_ (show Gr _ _ from by assumption)))) (by (repeat (first | assumption | exact Ints.nil _ | (refine Ints.lit ?_ rfl rfl rfl ?_ ?_; ((focus (simp; done))); all_goals decide) | apply Ints.alloc | apply Ints.drew | refine Ints.gr ?_ (show Gr _ _ from by assumption))))).mono ?_
  rw [e3]; rintro _ w6 ⟨rfl, g6⟩
  replace B0 : w6.cell? ⟨w.heap.size, 0, none⟩ = some (.int .i64 N.places) := cell_gr B0 (by (repeat (first | exact Gr.refl _ | assumption | apply Gr.alloc | apply Gr.drew | apply Gr.drewN | refine Gr.trans ?_ (by assumption))))
  replace B1 := cell_gr (w' := w6) B1 (by (repeat (first | exact Gr.refl _ | assumption | apply Gr.alloc | apply Gr.drew | apply Gr.drewN | refine Gr.trans ?_ (by assumption))))
  go_wp2_with fail
  refine (Enabled_calls _ _ N m _ (by (repeat (first | assumption | refine NetR.gr ?_ (show Gr _ _ from by assumption) | apply NetR.alloc | apply NetR.drew))) (by (repeat (first | assumption | exact Ints.nil _ | (refine Ints.lit ?_ rfl rfl rfl ?_ ?_; ((focus (simp; done))); all_goals decide) | apply Ints.alloc | apply Ints.drew | refine Ints.gr ?_ (show Gr _ _ from by assumption))))).mono ?_
  rw [HE.out]; rintro _ w7 ⟨v7, rfl, i7, g7⟩
  replace B0 : w7.cell? ⟨w.heap.size, 0, none⟩ = some (.int .i64 N.places) := cell_gr B0 (by (repeat (first | exact Gr.refl _ | assumption | apply Gr.alloc | apply Gr.drew | apply Gr.drewN | refine Gr.trans ?_ (by assumption))))
  replace B1 := cell_gr (w' := w7) B1 (by (repeat (first | exact Gr.refl _ | assumption | apply Gr.alloc | apply Gr.drew | apply Gr.drewN | refine Gr.trans ?_ (by assumption))))
  go_wp2_with fail
  refine (Fire_calls _ _ N m t _ (by (repeat (first | assumption | refine NetR.gr ?_ (show Gr _ _ from by assumption) | apply NetR.alloc | apply NetR.drew))) (by (repeat (first | assumption | exact Ints.nil _ | (refine Ints.lit ?_ rfl rfl rfl ?_ ?_; ((focus (simp; done))); all_goals decide) | apply Ints.alloc | apply Ints.drew | refine Ints.gr ?_ (show Gr _ _ from by assumption)))) ht).mono ?_
  rw [HF.out]; rintro _ w8 ⟨v8, rfl, i8, g8⟩
  go_wp2_with fail
  refine (Contains_calls _ (enabledL N m) t _ (by (repeat (first | assumption | exact Ints.nil _ | (refine Ints.lit ?_ rfl rfl rfl ?_ ?_; ((focus (simp; done))); all_goals decide) | apply Ints.alloc | apply Ints.drew | refine Ints.gr ?_ (show Gr _ _ from by assumption))))).mono ?_
  rw [hc]; rintro _ _ ⟨rfl, rfl⟩
  go_wp2_with fail
  go_ret
  exact ⟨rfl, by (repeat (first | exact Gr.refl _ | assumption | apply Gr.alloc | apply Gr.drew | apply Gr.drewN | refine Gr.trans ?_ (by assumption)))⟩

theorem NetParts_walk {v u p q : Value} {N : NetD} {m sa sb : List Int} {t : Int} (w : World) (hN : NetR w v N) (hu : Ints w u m ∧ m.length ≤ 1048576) (hp : Ints w p sa ∧ sa.length ≤ 1048576) (hq : Ints w q sb ∧ sb.length ≤ 1048576) (ht : I64 t) :
    Calls Try.prog 16 #[v, u, p, q, .int .i64 t] w fun e w' => e = .returned (.bool true) ∧ Gr w w' := by
  cases hf : fitsB N m
  · exact NetParts_unfit v u p q N m sa sb t w hN hu.1 hp.1 hq.1 ht hp.2 hq.2 hf
  · rcases hx : runF N m sa with ⟨x, e⟩
    obtain ⟨l', h⟩ := fire_enabled hf t
    by_cases he : e = 0
    · subst he
      rcases hy : runF N x sb with ⟨y, f⟩
      rcases h with ⟨h1, h2⟩ | ⟨h1, h2⟩ | ⟨h1, h2⟩
      all_goals exact NetParts_ok v u p q N m sa sb t w hN hu.1 hp.1 hq.1 ht hp.2 hq.2 hf hx hy h1 h2 (by decide)
    · obtain ⟨rfl, _⟩ := runF_bad hx he
      rcases h with ⟨h1, h2⟩ | ⟨h1, h2⟩ | ⟨h1, h2⟩
      all_goals exact NetParts_bad v u p q N m sa sb t w hN hu.1 hp.1 hq.1 ht hp.2 hq.2 hf hx he h1 h2 (by decide)
end Go.Proofs.Ytkpbhkfpkoiilaa
