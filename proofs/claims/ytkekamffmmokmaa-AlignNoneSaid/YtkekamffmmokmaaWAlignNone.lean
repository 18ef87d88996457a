/- The walk of AlignNone: at every net, marks, trace and label it answers true. -/
import Derived.Test.YtkekamffmmokmaaAlive21
import Derived.Test.YtkekamffmmokmaaAl6
namespace Go.Proofs.Ytkekamffmmokmaa
open Go.RowKit Go.Tok
set_option linter.unusedVariables false
set_option maxHeartbeats 4000000 in
set_option maxRecDepth 100000 in
theorem AlignNone_walk {v u : Value} {N : NetD} {i o b : Int} {tr : List Int} (w : World) (hN : NetR w v N) (hi : I64 i) (ho : I64 o) (h2 : Ints w u tr ∧ tr.length ≤ 17592186043904) (hb : I64 b) :
    Calls Try.prog 9 #[v, .int .i64 i, .int .i64 o, u, .int .i64 b] w fun e w' => e = .returned (.bool true) ∧ Gr w w' := by
  obtain ⟨hu, hul⟩ := h2
  have hN' := hN
  obtain ⟨a, cap, rfl, hnl, hncap, hpl, hT⟩ := hN.open_
  have hpl1 := hpl.1
  have hpl2 := hpl.2
  obtain ⟨ua, uc, rfl, _, _⟩ := hu.len
  have b0 : Blk (w.alloc (.cells #[.int .i64 N.places, .slice a N.trans.length cap] 24)) w.heap.size 24 #[.int .i64 N.places, .slice a N.trans.length cap] := Blk.new rfl
  have G0 : Gr w (w.alloc (.cells #[.int .i64 N.places, .slice a N.trans.length cap] 24)) := (Gr.refl _).alloc _
  go_enter Try.func9, Try.ntmps9
  go_wp2_with fail
  refine (alive21_calls _).mono ?_
  rintro _ w1 ⟨rfl, g1⟩
  have b1 := b0.gr g1
  have C0 := b1.cell (i := 0) (v := .int .i64 N.places) rfl
  have C1 := b1.cell (i := 1) (v := .slice a N.trans.length cap) rfl
  have GW := G0.trans g1
  clear b0 G0 g1
  go_wp2_with fail
  refine (Align_calls _ _ N i o [] _ (hN'.gr GW) hi ho (Ints.nil _)).mono ?_
  rintro _ w2 ⟨v2, l0, c0, x0, rfl, r2, g2, hM0, hc0⟩
  obtain ⟨la, lc, rfl, _, _⟩ := r2.len
  replace C0 := cell_gr C0 g2
  replace C1 := cell_gr C1 g2
  have G2 := GW.trans g2
  clear b1 r2 g2 GW
  go_wp2_with fail
  refine (Least_calls _ N i o _ (hN'.gr G2) hi ho).mono ?_
  rintro _ w3 ⟨k, f, rfl, g3, hL⟩
  have HN := Lib.hid (none_law hM0 hL)
  obtain rfl : x0 = f := HN.out.1
  replace C0 := cell_gr C0 g3
  replace C1 := cell_gr C1 g3
  have G3 := G2.trans g3
  clear hM0 hL g3 G2
  go_wp2_with fail
  refine (Align_calls _ _ N i o tr _ (hN'.gr G3) hi ho (hu.gr G3)).mono ?_
  rintro _ w4 ⟨v4, l1, c1, x1, rfl, r4, g4, hM1, hc1⟩
  obtain ⟨ma, mc, rfl, _, _⟩ := r4.len
  replace C0 := cell_gr C0 g4
  replace C1 := cell_gr C1 g4
  have G4 := G3.trans g4
  have HM1 := Lib.hid hM1
  have HU := Lib.hid (hu.gr G4)
  have HN4 := Lib.hid (hN'.gr G4)
  clear r4 g4 G3 hM1 hT hN hN' hu
  go_wp2_with fail
  refine cut15 (S := fun w' => w'.cell? ⟨w.heap.size, 0, none⟩ = some (.int .i64 N.places) ∧ w'.cell? ⟨w.heap.size, 1, none⟩ = some (.slice a N.trans.length cap)) (by kernel_rfl) (by kernel_rfl) ⟨cell_gr C0 (by (repeat (first | exact Gr.refl _ | assumption | apply Gr.alloc | apply Gr.drew | apply Gr.drewN | refine Gr.trans ?_ (by assumption)))), cell_gr C1 (by (repeat (first | exact Gr.refl _ | assumption | apply Gr.alloc | apply Gr.drew | apply Gr.drewN | refine Gr.trans ?_ (by assumption))))⟩ (fun hHeld => ?_)
  (refine hold0 (v := ?_) (by kernel_rfl) (by kernel_rfl) (by kernel_rfl) (fun _ _ _ h => h) (by rfl) (fun w' hSw => ?_) (by assumption) ?_; rotate_left 1; · ((try dsimp only at hSw); (try go_simp); (try (with_reducible rfl))); (try simp only [Act.put, List.setIfInBounds_toArray, List.set_cons_zero, List.set_cons_succ]))
  (refine hold1 (v := ?_) (by kernel_rfl) (by kernel_rfl) (by kernel_rfl) (fun _ _ _ h => h) (by rfl) (fun w' hSw => ?_) (by assumption) ?_; rotate_left 1; · ((try dsimp only at hSw); (try go_simp); (try (with_reducible rfl))); (try simp only [Act.put, List.setIfInBounds_toArray, List.set_cons_zero, List.set_cons_succ]))
  (refine hold2 (v := ?_) (by kernel_rfl) (by kernel_rfl) (by kernel_rfl) (fun _ _ _ h => h) (by rfl) (fun w' hSw => ?_) (by assumption) ?_; rotate_left 1; · ((try dsimp only at hSw); (try go_simp); (try (with_reducible rfl))); (try simp only [Act.put, List.setIfInBounds_toArray, List.set_cons_zero, List.set_cons_succ]))
  (refine hold3 (v := ?_) (by kernel_rfl) (by kernel_rfl) (by kernel_rfl) (fun _ _ _ h => h) (by rfl) (fun w' hSw => ?_) (by assumption) ?_; rotate_left 1; · ((try dsimp only at hSw); (try go_simp); (try (with_reducible rfl))); (try simp only [Act.put, List.setIfInBounds_toArray, List.set_cons_zero, List.set_cons_succ]))
  (refine hold5 (v := ?_) (by kernel_rfl) (by kernel_rfl) (by kernel_rfl) (fun _ _ _ h => h) (by rfl) (fun w' hSw => ?_) (by assumption) ?_; rotate_left 1; · ((try dsimp only at hSw); (try go_simp); (try (with_reducible rfl))); (try simp only [Act.put, List.setIfInBounds_toArray, List.set_cons_zero, List.set_cons_succ]))
  refine wpAnyH_ready (rs := [4, 6]) (by kernel_rfl) (by simp) (AllReadyH.cons (o := _) rfl (fun K hK => ?_) (AllReadyH.cons (o := _) rfl (fun K hK => ?_) AllReadyH.nil))
  · go_simp
    go_at_call 38
    refine (Clone_calls _ tr _ (HU.out.gr (by (repeat (first | exact Gr.refl _ | assumption | apply Gr.alloc | apply Gr.drew | apply Gr.drewN | refine Gr.trans ?_ (by assumption))))) (by omega)).mono ?_
    rintro _ x1' ⟨v5, rfl, o5, g5⟩
    obtain ⟨va, vc, rfl, _, _⟩ := o5.ints.len
    (refine hK.out _ _ ?_ (fun hHeld => ?_); · (exact ⟨cell_gr C0 (by (repeat (first | exact Gr.refl _ | assumption | apply Gr.alloc | apply Gr.drew | apply Gr.drewN | refine Gr.trans ?_ (by assumption)))), cell_gr C1 (by (repeat (first | exact Gr.refl _ | assumption | apply Gr.alloc | apply Gr.drew | apply Gr.drewN | refine Gr.trans ?_ (by assumption))))⟩))
    clear hK K
    try simp only [Act.put, List.setIfInBounds_toArray, List.set_cons_zero, List.set_cons_succ]
    refine next6 (by kernel_rfl) (fun K hK => ?_)
    go_simp
    (refine hK.out _ _ ?_ (fun hHeld => ?_); · (exact ⟨cell_gr C0 (by (repeat (first | exact Gr.refl _ | assumption | apply Gr.alloc | apply Gr.drew | apply Gr.drewN | refine Gr.trans ?_ (by assumption)))), cell_gr C1 (by (repeat (first | exact Gr.refl _ | assumption | apply Gr.alloc | apply Gr.drew | apply Gr.drewN | refine Gr.trans ?_ (by assumption))))⟩))
    clear hK K
    try simp only [Act.put, List.setIfInBounds_toArray, List.set_cons_zero, List.set_cons_succ]
    refine next7 (by kernel_rfl) (fun K hK => ?_)
    refine step_app_int intTy (by rfl) _ _ (by rfl) w4.drew.heap.size (.slice va tr.length vc) tr ⟨x1'.heap.size, 0, none⟩ b (by rfl) (by rfl) (OwnI.gr o5 (by (repeat (first | exact Gr.refl _ | assumption | apply Gr.alloc | apply Gr.drew | apply Gr.drewN | refine Gr.trans ?_ (by assumption))))) (cell_gr (lit_cell rfl) (by (repeat (first | exact Gr.refl _ | assumption | apply Gr.alloc | apply Gr.drew | apply Gr.drewN | refine Gr.trans ?_ (by assumption))))) hb (by omega) (by have := g5.le; simp at this ⊢; omega) ?_
    intro g cp w6 ho6 hgs6 hgb6 hat6 hlt6
    have G6 := hgs6 w4 (by simp) (by (repeat (first | exact Gr.refl _ | assumption | apply Gr.alloc | apply Gr.drew | apply Gr.drewN | refine Gr.trans ?_ (by assumption))))
    (refine hK.out _ _ ?_ (fun hHeld => ?_); · (exact ⟨cell_gr C0 G6, cell_gr C1 G6⟩))
    clear hK K
    try simp only [Act.put, List.setIfInBounds_toArray, List.set_cons_zero, List.set_cons_succ]
    refine next8 (by kernel_rfl) (fun K hK => ?_)
    go_simp
    go_at_call 34
    refine (Align_calls _ _ N i o (tr ++ [b]) _ (HN4.out.gr (G6.trans (by (repeat (first | exact Gr.refl _ | assumption | apply Gr.alloc | apply Gr.drew | apply Gr.drewN | refine Gr.trans ?_ (by assumption)))))) hi ho (by rw [show tr.length + 1 = (tr ++ [b]).length by simp] at ho6 ⊢; exact (OwnI.gr ho6 (by (repeat (first | exact Gr.refl _ | assumption | apply Gr.alloc | apply Gr.drew | apply Gr.drewN | refine Gr.trans ?_ (by assumption))))).ints)).mono ?_
    rintro _ w7 ⟨v7, l2, c2, x2, rfl, r7, g7, hM2, hc2⟩
    obtain ⟨pa, pc, rfl, _, _⟩ := r7.len
    have G67 : Gr w4 w7 := G6.trans (by (repeat (first | exact Gr.refl _ | assumption | apply Gr.alloc | apply Gr.drew | apply Gr.drewN | refine Gr.trans ?_ (by assumption))))
    (refine hK.out _ _ ?_ (fun hHeld => ?_); · (exact ⟨cell_gr C0 G67, cell_gr C1 G67⟩))
    clear hK K
    try simp only [Act.put, List.setIfInBounds_toArray, List.set_cons_zero, List.set_cons_succ]
    have G5 := G4.trans G67
    have HM2 := Lib.hid hM2
    clear r7 hM2 g7 ho6 hgs6 hgb6 hat6 hlt6 o5 g5
    (refine hold9 (v := ?_) (by kernel_rfl) (by kernel_rfl) (by kernel_rfl) (fun _ _ _ h => h) (by rfl) (fun w' hSw => ?_) (by assumption) ?_; rotate_left 1; · ((try dsimp only at hSw); (try go_simp); (try (with_reducible rfl))); (try simp only [Act.put, List.setIfInBounds_toArray, List.set_cons_zero, List.set_cons_succ]))
    (refine hold10 (v := ?_) (by kernel_rfl) (by kernel_rfl) (by kernel_rfl) (fun _ _ _ h => h) (by rfl) (fun w' hSw => ?_) (by assumption) ?_; rotate_left 1; · ((try dsimp only at hSw); (try go_simp); (try (with_reducible rfl))); (try simp only [Act.put, List.setIfInBounds_toArray, List.set_cons_zero, List.set_cons_succ]))
    (refine hold11 (v := ?_) (by kernel_rfl) (by kernel_rfl) (by kernel_rfl) (fun _ _ _ h => h) (by rfl) (fun w' hSw => ?_) (by assumption) ?_; rotate_left 1; · ((try dsimp only at hSw); (try go_simp); (try (with_reducible rfl))); (try simp only [Act.put, List.setIfInBounds_toArray, List.set_cons_zero, List.set_cons_succ]))
    (refine hold12 (v := ?_) (by kernel_rfl) (by kernel_rfl) (by kernel_rfl) (fun _ _ _ h => h) (by rfl) (fun w' hSw => ?_) (by assumption) ?_; rotate_left 1; · ((try dsimp only at hSw); (try go_simp); (try (with_reducible rfl))); (try simp only [Act.put, List.setIfInBounds_toArray, List.set_cons_zero, List.set_cons_succ]))
    (refine hold13 (v := ?_) (by kernel_rfl) (by kernel_rfl) (by kernel_rfl) (fun _ _ _ h => h) (by rfl) (fun w' hSw => ?_) (by assumption) ?_; rotate_left 1; · ((try dsimp only at hSw); (try go_simp); (try (with_reducible rfl))); (try simp only [Act.put, List.setIfInBounds_toArray, List.set_cons_zero, List.set_cons_succ]))
    (refine hold14 (v := ?_) (by kernel_rfl) (by kernel_rfl) (by kernel_rfl) (fun _ _ _ h => h) (by rfl) (fun w' hSw => ?_) (by assumption) ?_; rotate_left 1; · ((try dsimp only at hSw); (try go_simp); (try (with_reducible rfl))); (try simp only [Act.put, List.setIfInBounds_toArray, List.set_cons_zero, List.set_cons_succ]))
    refine ends15 (by kernel_rfl) (fun K hK => ?_)
    go_simp
    refine hK.out _ _ ?_
    by_cases h1 : x1 = 0
    case neg =>
      have q1 : (x1 == 0) = false := by rw [Bool.eq_false_iff]; intro h; exact h1 (by simpa using h)
      by_cases hx0 : x0 = 0
      · have hck := (HN.out.2 hx0).symm
        subst hck
        subst hx0
        clear HN
        go_wp2_with fail
        go_ret
        exact ⟨rfl, G5.trans (by (repeat (first | exact Gr.refl _ | assumption | apply Gr.alloc | apply Gr.drew | apply Gr.drewN | refine Gr.trans ?_ (by assumption))))⟩
      · have q7 : (x0 != 0) = true := by simpa using hx0
        clear HN
        go_wp2_with fail
        go_ret
        exact ⟨rfl, G5.trans (by (repeat (first | exact Gr.refl _ | assumption | apply Gr.alloc | apply Gr.drew | apply Gr.drewN | refine Gr.trans ?_ (by assumption))))⟩
    case pos =>
      subst h1
      by_cases h2 : x2 = 0
      case neg =>
        have q2 : (x2 == 0) = false := by rw [Bool.eq_false_iff]; intro h; exact h2 (by simpa using h)
        by_cases hx0 : x0 = 0
        · have hck := (HN.out.2 hx0).symm
          subst hck
          subst hx0
          clear HN
          go_wp2_with fail
          go_ret
          exact ⟨rfl, G5.trans (by (repeat (first | exact Gr.refl _ | assumption | apply Gr.alloc | apply Gr.drew | apply Gr.drewN | refine Gr.trans ?_ (by assumption))))⟩
        · have q7 : (x0 != 0) = true := by simpa using hx0
          clear HN
          go_wp2_with fail
          go_ret
          exact ⟨rfl, G5.trans (by (repeat (first | exact Gr.refl _ | assumption | apply Gr.alloc | apply Gr.drew | apply Gr.drewN | refine Gr.trans ?_ (by assumption))))⟩
      case pos =>
        subst h2
        obtain ⟨hm1, hm2⟩ := more_law HM1.out HM2.out
        have q3 : decide ((c1 : Int) + 1 < (c2 : Int)) = false := by simp; omega
        have q4 : decide ((c2 : Int) < (c1 : Int) - 1) = false := by simp; omega
        have q5 : ¬ (c1 : Int) + 1 < (c2 : Int) := by omega
        have q6 : ¬ (c2 : Int) < (c1 : Int) - 1 := by omega
        by_cases hx0 : x0 = 0
        · have hck := (HN.out.2 hx0).symm
          subst hck
          subst hx0
          clear HN
          go_wp2_with fail
          go_ret
          exact ⟨rfl, G5.trans (by (repeat (first | exact Gr.refl _ | assumption | apply Gr.alloc | apply Gr.drew | apply Gr.drewN | refine Gr.trans ?_ (by assumption))))⟩
        · have q7 : (x0 != 0) = true := by simpa using hx0
          clear HN
          go_wp2_with fail
          go_ret
          exact ⟨rfl, G5.trans (by (repeat (first | exact Gr.refl _ | assumption | apply Gr.alloc | apply Gr.drew | apply Gr.drewN | refine Gr.trans ?_ (by assumption))))⟩
  · go_simp
    (refine hK.out _ _ ?_ (fun hHeld => ?_); · (exact ⟨cell_gr C0 (by (repeat (first | exact Gr.refl _ | assumption | apply Gr.alloc | apply Gr.drew | apply Gr.drewN | refine Gr.trans ?_ (by assumption)))), cell_gr C1 (by (repeat (first | exact Gr.refl _ | assumption | apply Gr.alloc | apply Gr.drew | apply Gr.drewN | refine Gr.trans ?_ (by assumption))))⟩))
    clear hK K
    try simp only [Act.put, List.setIfInBounds_toArray, List.set_cons_zero, List.set_cons_succ]
    refine next4 (by kernel_rfl) (fun K hK => ?_)
    go_simp
    go_at_call 38
    refine (Clone_calls _ tr _ (HU.out.gr (by (repeat (first | exact Gr.refl _ | assumption | apply Gr.alloc | apply Gr.drew | apply Gr.drewN | refine Gr.trans ?_ (by assumption))))) (by omega)).mono ?_
    rintro _ x1' ⟨v5, rfl, o5, g5⟩
    obtain ⟨va, vc, rfl, _, _⟩ := o5.ints.len
    (refine hK.out _ _ ?_ (fun hHeld => ?_); · (exact ⟨cell_gr C0 (by (repeat (first | exact Gr.refl _ | assumption | apply Gr.alloc | apply Gr.drew | apply Gr.drewN | refine Gr.trans ?_ (by assumption)))), cell_gr C1 (by (repeat (first | exact Gr.refl _ | assumption | apply Gr.alloc | apply Gr.drew | apply Gr.drewN | refine Gr.trans ?_ (by assumption))))⟩))
    clear hK K
    try simp only [Act.put, List.setIfInBounds_toArray, List.set_cons_zero, List.set_cons_succ]
    refine next7 (by kernel_rfl) (fun K hK => ?_)
    refine step_app_int intTy (by rfl) _ _ (by rfl) (w4.drew.alloc (.cells #[.int .i64 b] 3)).heap.size (.slice va tr.length vc) tr ⟨w4.heap.size, 0, none⟩ b (by rfl) (by rfl) (OwnI.gr o5 (by (repeat (first | exact Gr.refl _ | assumption | apply Gr.alloc | apply Gr.drew | apply Gr.drewN | refine Gr.trans ?_ (by assumption))))) (cell_gr (show (w4.alloc (.cells #[.int .i64 b] 3)).cell? ⟨w4.heap.size, 0, none⟩ = some (.int .i64 b) from lit_cell rfl) (by (repeat (first | exact Gr.refl _ | assumption | apply Gr.alloc | apply Gr.drew | apply Gr.drewN | refine Gr.trans ?_ (by assumption))))) hb (by omega) (by have := g5.le; simp at this ⊢; omega) ?_
    intro g cp w6 ho6 hgs6 hgb6 hat6 hlt6
    have G6 := hgs6 w4 (by simp) (by (repeat (first | exact Gr.refl _ | assumption | apply Gr.alloc | apply Gr.drew | apply Gr.drewN | refine Gr.trans ?_ (by assumption))))
    (refine hK.out _ _ ?_ (fun hHeld => ?_); · (exact ⟨cell_gr C0 G6, cell_gr C1 G6⟩))
    clear hK K
    try simp only [Act.put, List.setIfInBounds_toArray, List.set_cons_zero, List.set_cons_succ]
    refine next8 (by kernel_rfl) (fun K hK => ?_)
    go_simp
    go_at_call 34
    refine (Align_calls _ _ N i o (tr ++ [b]) _ (HN4.out.gr (G6.trans (by (repeat (first | exact Gr.refl _ | assumption | apply Gr.alloc | apply Gr.drew | apply Gr.drewN | refine Gr.trans ?_ (by assumption)))))) hi ho (by rw [show tr.length + 1 = (tr ++ [b]).length by simp] at ho6 ⊢; exact (OwnI.gr ho6 (by (repeat (first | exact Gr.refl _ | assumption | apply Gr.alloc | apply Gr.drew | apply Gr.drewN | refine Gr.trans ?_ (by assumption))))).ints)).mono ?_
    rintro _ w7 ⟨v7, l2, c2, x2, rfl, r7, g7, hM2, hc2⟩
    obtain ⟨pa, pc, rfl, _, _⟩ := r7.len
    have G67 : Gr w4 w7 := G6.trans (by (repeat (first | exact Gr.refl _ | assumption | apply Gr.alloc | apply Gr.drew | apply Gr.drewN | refine Gr.trans ?_ (by assumption))))
    (refine hK.out _ _ ?_ (fun hHeld => ?_); · (exact ⟨cell_gr C0 G67, cell_gr C1 G67⟩))
    clear hK K
    try simp only [Act.put, List.setIfInBounds_toArray, List.set_cons_zero, List.set_cons_succ]
    have G5 := G4.trans G67
    have HM2 := Lib.hid hM2
    clear r7 hM2 g7 ho6 hgs6 hgb6 hat6 hlt6 o5 g5
    (refine hold9 (v := ?_) (by kernel_rfl) (by kernel_rfl) (by kernel_rfl) (fun _ _ _ h => h) (by rfl) (fun w' hSw => ?_) (by assumption) ?_; rotate_left 1; · ((try dsimp only at hSw); (try go_simp); (try (with_reducible rfl))); (try simp only [Act.put, List.setIfInBounds_toArray, List.set_cons_zero, List.set_cons_succ]))
    (refine hold10 (v := ?_) (by kernel_rfl) (by kernel_rfl) (by kernel_rfl) (fun _ _ _ h => h) (by rfl) (fun w' hSw => ?_) (by assumption) ?_; rotate_left 1; · ((try dsimp only at hSw); (try go_simp); (try (with_reducible rfl))); (try simp only [Act.put, List.setIfInBounds_toArray, List.set_cons_zero, List.set_cons_succ]))
    (refine hold11 (v := ?_) (by kernel_rfl) (by kernel_rfl) (by kernel_rfl) (fun _ _ _ h => h) (by rfl) (fun w' hSw => ?_) (by assumption) ?_; rotate_left 1; · ((try dsimp only at hSw); (try go_simp); (try (with_reducible rfl))); (try simp only [Act.put, List.setIfInBounds_toArray, List.set_cons_zero, List.set_cons_succ]))
    (refine hold12 (v := ?_) (by kernel_rfl) (by kernel_rfl) (by kernel_rfl) (fun _ _ _ h => h) (by rfl) (fun w' hSw => ?_) (by assumption) ?_; rotate_left 1; · ((try dsimp only at hSw); (try go_simp); (try (with_reducible rfl))); (try simp only [Act.put, List.setIfInBounds_toArray, List.set_cons_zero, List.set_cons_succ]))
    (refine hold13 (v := ?_) (by kernel_rfl) (by kernel_rfl) (by kernel_rfl) (fun _ _ _ h => h) (by rfl) (fun w' hSw => ?_) (by assumption) ?_; rotate_left 1; · ((try dsimp only at hSw); (try go_simp); (try (with_reducible rfl))); (try simp only [Act.put, List.setIfInBounds_toArray, List.set_cons_zero, List.set_cons_succ]))
    (refine hold14 (v := ?_) (by kernel_rfl) (by kernel_rfl) (by kernel_rfl) (fun _ _ _ h => h) (by rfl) (fun w' hSw => ?_) (by assumption) ?_; rotate_left 1; · ((try dsimp only at hSw); (try go_simp); (try (with_reducible rfl))); (try simp only [Act.put, List.setIfInBounds_toArray, List.set_cons_zero, List.set_cons_succ]))
    refine ends15 (by kernel_rfl) (fun K hK => ?_)
    go_simp
    refine hK.out _ _ ?_
    by_cases h1 : x1 = 0
    case neg =>
      have q1 : (x1 == 0) = false := by rw [Bool.eq_false_iff]; intro h; exact h1 (by simpa using h)
      by_cases hx0 : x0 = 0
      · have hck := (HN.out.2 hx0).symm
        subst hck
        subst hx0
        clear HN
        go_wp2_with fail
        go_ret
        exact ⟨rfl, G5.trans (by (repeat (first | exact Gr.refl _ | assumption | apply Gr.alloc | apply Gr.drew | apply Gr.drewN | refine Gr.trans ?_ (by assumption))))⟩
      · have q7 : (x0 != 0) = true := by simpa using hx0
        clear HN
        go_wp2_with fail
        go_ret
        exact ⟨rfl, G5.trans (by (repeat (first | exact Gr.refl _ | assumption | apply Gr.alloc | apply Gr.drew | apply Gr.drewN | refine Gr.trans ?_ (by assumption))))⟩
    case pos =>
      subst h1
      by_cases h2 : x2 = 0
      case neg =>
        have q2 : (x2 == 0) = false := by rw [Bool.eq_false_iff]; intro h; exact h2 (by simpa using h)
        by_cases hx0 : x0 = 0
        · have hck := (HN.out.2 hx0).symm
          subst hck
          subst hx0
          clear HN
          go_wp2_with fail
          go_ret
          exact ⟨rfl, G5.trans (by (repeat (first | exact Gr.refl _ | assumption | apply Gr.alloc | apply Gr.drew | apply Gr.drewN | refine Gr.trans ?_ (by assumption))))⟩
        · have q7 : (x0 != 0) = true := by simpa using hx0
          clear HN
          go_wp2_with fail
          go_ret
          exact ⟨rfl, G5.trans (by (repeat (first | exact Gr.refl _ | assumption | apply Gr.alloc | apply Gr.drew | apply Gr.drewN | refine Gr.trans ?_ (by assumption))))⟩
      case pos =>
        subst h2
        obtain ⟨hm1, hm2⟩ := more_law HM1.out HM2.out
        have q3 : decide ((c1 : Int) + 1 < (c2 : Int)) = false := by simp; omega
        have q4 : decide ((c2 : Int) < (c1 : Int) - 1) = false := by simp; omega
        have q5 : ¬ (c1 : Int) + 1 < (c2 : Int) := by omega
        have q6 : ¬ (c2 : Int) < (c1 : Int) - 1 := by omega
        by_cases hx0 : x0 = 0
        · have hck := (HN.out.2 hx0).symm
          subst hck
          subst hx0
          clear HN
          go_wp2_with fail
          go_ret
          exact ⟨rfl, G5.trans (by (repeat (first | exact Gr.refl _ | assumption | apply Gr.alloc | apply Gr.drew | apply Gr.drewN | refine Gr.trans ?_ (by assumption))))⟩
        · have q7 : (x0 != 0) = true := by simpa using hx0
          clear HN
          go_wp2_with fail
          go_ret
          exact ⟨rfl, G5.trans (by (repeat (first | exact Gr.refl _ | assumption | apply Gr.alloc | apply Gr.drew | apply Gr.drewN | refine Gr.trans ?_ (by assumption))))⟩
end Go.Proofs.Ytkekamffmmokmaa
