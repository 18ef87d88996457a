/- The call alive7 answers true, in whatever world; nothing that lay there turns. -/
import Derived.Test.YtbopachnkbjmfaaLive8
import Derived.Test.YtbopachnkbjmfaaPA
namespace Go.Tok
open Go.RowKit
/-- a literal of rows that was laid last -/
theorem Rd.rows_lit {w : World} {H n m : Nat} {t : TypeId} {cs : Array Value} {rows : List (List Int)} (hH : w.heap.size = H) (hn : n = rows.length) (hm : m = rows.length) (hl : rows.length ≤ 1000) (h : ∀ i, i < rows.length → ∃ u, cs[i]? = some u ∧ Ints w u (ix rows i)) :
    Rd rowK (w.alloc (.cells cs t)) (.slice (some ⟨H, 0, none⟩) n m) rows := by
  subst hH hn hm
  refine rd_mk rfl (Nat.le_refl _) (by unfold maxLen; omega) (fun e => by cases e) fun i hi => ?_
  obtain ⟨u, h1, h2⟩ := h i hi
  refine ⟨w.heap.size, 0, [u], rfl, ⟨u, rfl, h2.alloc _⟩, fun j x hj => ?_⟩
  cases j with
  | zero =>
    simp at hj; subst hj
    rw [show 0 + i * rowK.size + 0 = i by show 0 + i * 1 + 0 = _; omega]
    exact box_cell (Gr.refl _) h1
  | succ j => simp at hj
end Go.Tok
namespace Go.Proofs.Ytbopachnkbjmfaa
open Go.RowKit Go.Tok
set_option linter.unusedVariables false
theorem s7_arcs : ∀ x ∈ space7.arcs, arcI x := by unfold arcI; decide
theorem s7b_arcs : ∀ x ∈ space7b.arcs, arcI x := by unfold arcI; decide
set_option maxHeartbeats 4000000 in
set_option maxRecDepth 100000 in
theorem alive7_calls (w : World) : Calls Try.prog 44 #[] w fun e w' => e = .returned (.bool true) ∧ Gr w w' := by
  have H1 := Lib.hid s7_right
  have H2 := Lib.hid s7_dead
  have H3 := Lib.hid s7_live
  have H4 := Lib.hid s7_stuck
  have H5 := Lib.hid s7_home
  have H6 := Lib.hid s7_bound
  have H7 := Lib.hid s7b_live
  have e3 : eqB [3] [3] = true := by decide +kernel
  have e2 : eqB [2] [2] = true := by decide +kernel
  have e0 : eqB [0] [0] = true := by decide +kernel
  have hms : ∀ m ∈ space7.marks, m.length ≤ 1000000 := by intro m hm; simp at hm; rcases hm with rfl | rfl | rfl <;> simp
  obtain ⟨wS, hwS⟩ : ∃ wS, wS = ((((((w.alloc (.cells #[.int .i64 1, .int .i64 0] 3)).alloc (.cells #[.int .i64 0, .int .i64 2] 3)).alloc (.cells #[.int .i64 0, .int .i64 0] 3)).alloc (.cells #[.slice (some ⟨w.heap.size, 0, none⟩) 2 2, .slice (some ⟨w.heap.size + 1, 0, none⟩) 2 2, .slice (some ⟨w.heap.size + 2, 0, none⟩) 2 2] 25)).alloc (.cells #[.int .i64 0, .int .i64 0, .int .i64 1, .int .i64 1, .int .i64 1, .int .i64 0, .int .i64 1, .int .i64 2, .int .i64 2] 90)).alloc (.cells #[.slice (some ⟨w.heap.size + 3, 0, none⟩) 3 3, .slice (some ⟨w.heap.size + 4, 0, none⟩) 3 3] 76)) := ⟨_, rfl⟩
  have GS : Gr w wS := by rw [hwS]; (repeat (first | exact Gr.refl _ | assumption | apply Gr.alloc | apply Gr.drew | apply Gr.drewN | refine Gr.trans ?_ (by assumption)))
  have S0 : wS.cell? ⟨w.heap.size + 5, 0, none⟩ = some (.slice (some ⟨w.heap.size + 3, 0, none⟩) 3 3) := by rw [hwS]; exact lit_at (by simp) rfl
  have S1 : wS.cell? ⟨w.heap.size + 5, 1, none⟩ = some (.slice (some ⟨w.heap.size + 4, 0, none⟩) 3 3) := by rw [hwS]; exact lit_at (by simp) rfl
  have hsz : wS.heap.size = w.heap.size + 6 := by rw [hwS]; simp
  have hS : SpaceR wS (.agg #[.slice (some ⟨w.heap.size + 3, 0, none⟩) 3 3, .slice (some ⟨w.heap.size + 4, 0, none⟩) 3 3]) space7 := by
    rw [hwS]
    refine SpaceR.mk_ ?_ ?_
    · refine Rd.gr (w := ((((w.alloc (.cells #[.int .i64 1, .int .i64 0] 3)).alloc (.cells #[.int .i64 0, .int .i64 2] 3)).alloc (.cells #[.int .i64 0, .int .i64 0] 3)).alloc (.cells #[.slice (some ⟨w.heap.size, 0, none⟩) 2 2, .slice (some ⟨w.heap.size + 1, 0, none⟩) 2 2, .slice (some ⟨w.heap.size + 2, 0, none⟩) 2 2] 25))) ?_ (by (repeat (first | exact Gr.refl _ | assumption | apply Gr.alloc | apply Gr.drew | apply Gr.drewN | refine Gr.trans ?_ (by assumption))))
      refine Rd.rows_lit (by simp) rfl rfl (by simp) fun i hi => ?_
      have h3 : i = 0 ∨ i = 1 ∨ i = 2 := by simp at hi; omega
      rcases h3 with rfl | rfl | rfl
      · refine ⟨.slice (some ⟨w.heap.size, 0, none⟩) 2 2, rfl, ?_⟩
        rw [show ix space7.marks 0 = [1, 0] by decide +kernel]
        (repeat (first | assumption | exact Ints.nil _ | (refine Ints.lit ?_ rfl rfl rfl ?_ ?_; ((focus (simp; done))); all_goals decide) | apply Ints.alloc | apply Ints.drew | refine Ints.gr ?_ (show Gr _ _ from by assumption)))
      · refine ⟨.slice (some ⟨w.heap.size + 1, 0, none⟩) 2 2, rfl, ?_⟩
        rw [show ix space7.marks 1 = [0, 2] by decide +kernel]
        (repeat (first | assumption | exact Ints.nil _ | (refine Ints.lit ?_ rfl rfl rfl ?_ ?_; ((focus (simp; done))); all_goals decide) | apply Ints.alloc | apply Ints.drew | refine Ints.gr ?_ (show Gr _ _ from by assumption)))
      · refine ⟨.slice (some ⟨w.heap.size + 2, 0, none⟩) 2 2, rfl, ?_⟩
        rw [show ix space7.marks 2 = [0, 0] by decide +kernel]
        (repeat (first | assumption | exact Ints.nil _ | (refine Ints.lit ?_ rfl rfl rfl ?_ ?_; ((focus (simp; done))); all_goals decide) | apply Ints.alloc | apply Ints.drew | refine Ints.gr ?_ (show Gr _ _ from by assumption)))
    · refine Rd.alloc ?_ _
      exact (own_arcs (S := All) (base := 0) (by simp) rfl rfl rfl s7_arcs (by simp) (Nat.zero_le _)).rd
  go_enter Try.func44, Try.ntmps44
  go_wp2_with fail
  have hwS' : ((((((w.alloc (.cells #[.int .i64 1, .int .i64 0] 3)).alloc (.cells #[.int .i64 0, .int .i64 2] 3)).alloc (.cells #[.int .i64 0, .int .i64 0] 3)).alloc (.cells #[.slice (some ⟨w.heap.size, 0, none⟩) 2 2, .slice (some ⟨w.heap.size + 1, 0, none⟩) 2 2, .slice (some ⟨w.heap.size + 1 + 1, 0, none⟩) 2 2] 25)).alloc (.cells #[.int .i64 0, .int .i64 0, .int .i64 1, .int .i64 1, .int .i64 1, .int .i64 0, .int .i64 1, .int .i64 2, .int .i64 2] 90)).alloc (.cells #[.slice (some ⟨w.heap.size + 1 + 1 + 1, 0, none⟩) 3 3, .slice (some ⟨w.heap.size + 1 + 1 + 1 + 1, 0, none⟩) 3 3] 76)) = wS := hwS.symm
  clear hwS
  rw [hwS']
  clear hwS'
  refine (SRight_calls _ space7 _ hS).mono ?_
  rw [H1.out]; rintro _ w1 ⟨rfl, g1⟩
  replace S0 := cell_gr S0 g1
  replace S1 := cell_gr S1 g1
  replace GS := GS.trans g1
  replace hS := hS.gr g1
  go_wp2_with fail
  refine (Dead_calls _ space7 4 _ hS (by decide) (by simp)).mono ?_
  rw [H2.out]; rintro _ w2 ⟨v2, rfl, o2, g2⟩
  obtain ⟨a2, c2, rfl, _, _⟩ := o2.ints.len
  replace S0 := cell_gr S0 g2
  replace S1 := cell_gr S1 g2
  replace GS := GS.trans g2
  replace hS := hS.gr g2
  go_wp2_with fail
  refine (Equal_calls _ _ [3] [3] _ (o2.ints.gr (by (repeat (first | exact Gr.refl _ | assumption | apply Gr.alloc | apply Gr.drew | apply Gr.drewN | refine Gr.trans ?_ (by assumption))))) (by (repeat (first | assumption | exact Ints.nil _ | (refine Ints.lit ?_ rfl rfl rfl ?_ ?_; ((focus (simp; done))); all_goals decide) | apply Ints.alloc | apply Ints.drew | refine Ints.gr ?_ (show Gr _ _ from by assumption))))).mono ?_
  rw [e3]; rintro _ w3 ⟨rfl, g3⟩
  have G3 : Gr w2 w3 := by (repeat (first | exact Gr.refl _ | assumption | apply Gr.alloc | apply Gr.drew | apply Gr.drewN | refine Gr.trans ?_ (by assumption)))
  replace S0 := cell_gr S0 G3
  replace S1 := cell_gr S1 G3
  replace GS := GS.trans G3
  replace hS := hS.gr G3
  clear o2 g1 g2 g3 G3
  go_wp2_with fail
  refine (Live_calls _ space7 4 _ hS (by decide) (by simp) (by simp)).mono ?_
  rw [H3.out]; rintro _ w4 ⟨v4, rfl, o4, g4⟩
  obtain ⟨a4, c4, rfl, _, _⟩ := o4.ints.len
  replace S0 := cell_gr S0 g4
  replace S1 := cell_gr S1 g4
  replace GS := GS.trans g4
  replace hS := hS.gr g4
  clear o4 g4
  go_wp2_with fail
  refine (Stuck_calls _ space7 _ hS H1.out (by simp) (by simp)).mono ?_
  rw [H4.out]; rintro _ w5 ⟨v5, rfl, o5, g5⟩
  obtain ⟨a5, c5, rfl, _, _⟩ := o5.ints.len
  replace S0 := cell_gr S0 g5
  replace S1 := cell_gr S1 g5
  replace GS := GS.trans g5
  replace hS := hS.gr g5
  go_wp2_with fail
  refine (Equal_calls _ _ [2] [2] _ (o5.ints.gr (by (repeat (first | exact Gr.refl _ | assumption | apply Gr.alloc | apply Gr.drew | apply Gr.drewN | refine Gr.trans ?_ (by assumption))))) (by (repeat (first | assumption | exact Ints.nil _ | (refine Ints.lit ?_ rfl rfl rfl ?_ ?_; ((focus (simp; done))); all_goals decide) | apply Ints.alloc | apply Ints.drew | refine Ints.gr ?_ (show Gr _ _ from by assumption))))).mono ?_
  rw [e2]; rintro _ w6 ⟨rfl, g6⟩
  have G6 : Gr w5 w6 := by (repeat (first | exact Gr.refl _ | assumption | apply Gr.alloc | apply Gr.drew | apply Gr.drewN | refine Gr.trans ?_ (by assumption)))
  replace S0 := cell_gr S0 G6
  replace S1 := cell_gr S1 G6
  replace GS := GS.trans G6
  replace hS := hS.gr G6
  clear o5 g5 g6 G6
  go_wp2_with fail
  refine (Home_calls _ space7 _ hS (by simp) (by simp)).mono ?_
  rw [H5.out]; rintro _ w7 ⟨v7, rfl, o7, g7⟩
  obtain ⟨a7, c7, rfl, _, _⟩ := o7.ints.len
  replace S0 := cell_gr S0 g7
  replace S1 := cell_gr S1 g7
  replace GS := GS.trans g7
  replace hS := hS.gr g7
  go_wp2_with fail
  refine (Equal_calls _ _ [2] [2] _ (o7.ints.gr (by (repeat (first | exact Gr.refl _ | assumption | apply Gr.alloc | apply Gr.drew | apply Gr.drewN | refine Gr.trans ?_ (by assumption))))) (by (repeat (first | assumption | exact Ints.nil _ | (refine Ints.lit ?_ rfl rfl rfl ?_ ?_; ((focus (simp; done))); all_goals decide) | apply Ints.alloc | apply Ints.drew | refine Ints.gr ?_ (show Gr _ _ from by assumption))))).mono ?_
  rw [e2]; rintro _ w8 ⟨rfl, g8⟩
  have G8 : Gr w7 w8 := by (repeat (first | exact Gr.refl _ | assumption | apply Gr.alloc | apply Gr.drew | apply Gr.drewN | refine Gr.trans ?_ (by assumption)))
  replace S0 := cell_gr S0 G8
  replace S1 := cell_gr S1 G8
  replace GS := GS.trans G8
  replace hS := hS.gr G8
  clear o7 g7 g8 G8
  go_wp2_with fail
  refine (Bound_calls _ space7 _ hS hms).mono ?_
  rw [H6.out]; rintro _ w9 ⟨rfl, g9⟩
  replace GS := GS.trans g9
  clear S0 S1 hS g9
  have hB : SpaceR (((w9.alloc (.cells #[.int .i64 1] 3)).alloc (.cells #[.slice (some ⟨w9.heap.size, 0, none⟩) 1 1] 25)).alloc (.cells #[.int .i64 0, .int .i64 0, .int .i64 0] 90)) (.agg #[.slice (some ⟨w9.heap.size + 1, 0, none⟩) 1 1, .slice (some ⟨w9.heap.size + 1 + 1, 0, none⟩) 1 1]) space7b := by
    refine SpaceR.mk_ ?_ ?_
    · refine Rd.alloc ?_ _
      refine Rd.rows_lit (by simp) rfl rfl (by simp) fun i hi => ?_
      obtain rfl : i = 0 := by simp at hi; omega
      refine ⟨.slice (some ⟨w9.heap.size, 0, none⟩) 1 1, rfl, ?_⟩
      rw [show ix space7b.marks 0 = [1] by decide +kernel]
      (repeat (first | assumption | exact Ints.nil _ | (refine Ints.lit ?_ rfl rfl rfl ?_ ?_; ((focus (simp; done))); all_goals decide) | apply Ints.alloc | apply Ints.drew | refine Ints.gr ?_ (show Gr _ _ from by assumption)))
    · exact (own_arcs (S := All) (base := 0) (by simp) rfl rfl rfl s7b_arcs (by simp) (Nat.zero_le _)).rd
  go_wp2_with fail
  refine (Live_calls _ space7b 2 _ hB (by decide) (by simp) (by simp)).mono ?_
  rw [H7.out]; rintro _ wA ⟨vA, rfl, oA, gA⟩
  obtain ⟨aA, cA, rfl, _, _⟩ := oA.ints.len
  have GA : Gr w9 wA := by (repeat (first | exact Gr.refl _ | assumption | apply Gr.alloc | apply Gr.drew | apply Gr.drewN | refine Gr.trans ?_ (by assumption)))
  go_wp2_with fail
  refine (Equal_calls _ _ [0] [0] _ (oA.ints.gr (by (repeat (first | exact Gr.refl _ | assumption | apply Gr.alloc | apply Gr.drew | apply Gr.drewN | refine Gr.trans ?_ (by assumption))))) (by (repeat (first | assumption | exact Ints.nil _ | (refine Ints.lit ?_ rfl rfl rfl ?_ ?_; ((focus (simp; done))); all_goals decide) | apply Ints.alloc | apply Ints.drew | refine Ints.gr ?_ (show Gr _ _ from by assumption))))).mono ?_
  rw [e0]; rintro _ wB ⟨rfl, gB⟩
  have GB : Gr wA wB := by (repeat (first | exact Gr.refl _ | assumption | apply Gr.alloc | apply Gr.drew | apply Gr.drewN | refine Gr.trans ?_ (by assumption)))
  go_wp2_with fail
  go_ret
  exact ⟨rfl, (GS.trans GA).trans GB⟩
end Go.Proofs.Ytbopachnkbjmfaa
