/- The call SiphonUnion answers true at any net and places that read as data (lists of at most 1048576 elements each); nothing that lay there turns. -/
import Derived.Test.YtmigejcejnofiaaAlive6
import Derived.Test.YtmigejcejnofiaaSorted
import Derived.Test.YtmigejcejnofiaaSl2
import Derived.Test.YtmigejcejnofiaaSkip
namespace Go.Proofs.Ytmigejcejnofiaa
open Go.RowKit Go.Tok
set_option linter.unusedVariables false

theorem flat2 (a b : List Int) : [a, b].flatten = a ++ b := by simp
theorem SiphonUnion1_answers (W : World) (H : Nat) (n : Int) (hc : W.cell? ⟨H, 0, none⟩ = some (.int .i64 n)) (hn : I64 n) : AnswersAt Try.prog 28 #[.pointer (some ⟨H, 0, none⟩)] (outB n) W := by
  intro x hx
  have h1 := hx.1
  have h2 := hx.2
  have h3 := hn.1
  have h4 := hn.2
  by_cases h : x < 0
  · go_enter Try.func28, Try.ntmps28
    go_wp2
    go_ret
    exact ⟨ret_bool (by rw [outB_def]; simp [h]), rfl⟩
  · have h : 0 ≤ x := by omega
    go_enter Try.func28, Try.ntmps28
    go_wp2
    all_goals go_ret
    all_goals exact ⟨ret_bool (by rw [outB_def, Bool.eq_iff_iff]; simp; omega), rfl⟩

set_option maxHeartbeats 4000000 in
set_option maxRecDepth 100000 in
theorem SiphonUnion_walk {v p q : Value} {N : NetD} {sa sb : List Int} (w : World) (hN : NetR w v N) (h1 : Ints w p sa ∧ sa.length ≤ 1048576) (h2 : Ints w q sb ∧ sb.length ≤ 1048576) :
    Calls Try.prog 5 #[v, p, q] w fun e w' => e = .returned (.bool true) ∧ Gr w w' := by
  obtain ⟨hp, la⟩ := h1
  obtain ⟨hq, lb⟩ := h2
  have hN' := hN
  obtain ⟨a, cap, rfl, hnl, hncap, hpl, hT⟩ := hN.open_
  have hpl1 := hpl.1
  have hpl2 := hpl.2
  obtain ⟨pa, pc, rfl, ul, ul'⟩ := hp.len
  obtain ⟨qa, qc, rfl, sl, sl'⟩ := hq.len
  have eg : ∀ args w, (callFunc 28 args).run Try.prog w = .ok (.enter 28 args) w := (Go.Proofs.enters_of Try.func28 (by kernel_rfl) rfl)
  cases ha : siphonB N sa
  case false =>
    go_enter Try.func5, Try.ntmps5
    go_wp2_with fail
    refine (alive6_calls _).mono ?_
    rintro _ w1 ⟨rfl, g1⟩
    have B0 := box_cell g1 (i := 0) rfl
    have B1 := box_cell g1 (i := 1) rfl
    have K1 : Ints w1 (.slice pa sa.length pc) sa := by (repeat (first | assumption | exact Ints.nil _ | (refine Ints.lit ?_ rfl rfl rfl ?_ ?_; ((focus (simp; done))); all_goals decide) | apply Ints.alloc | apply Ints.drew | refine Ints.gr ?_ (show Gr _ _ from by assumption)))
    have K2 : Ints w1 (.slice qa sb.length qc) sb := by (repeat (first | assumption | exact Ints.nil _ | (refine Ints.lit ?_ rfl rfl rfl ?_ ?_; ((focus (simp; done))); all_goals decide) | apply Ints.alloc | apply Ints.drew | refine Ints.gr ?_ (show Gr _ _ from by assumption)))
    have K4 : NetR w1 (.agg #[.int .i64 N.places, .slice a N.trans.length cap]) N := by (repeat (first | assumption | refine NetR.gr ?_ (show Gr _ _ from by assumption) | apply NetR.alloc | apply NetR.drew))
    go_wp2_with fail
    refine cut16 (S := fun w' => w'.cell? ⟨w.heap.size, 0, none⟩ = some (.int .i64 N.places) ∧ w'.cell? ⟨w.heap.size, 1, none⟩ = some (.slice a N.trans.length cap)) (by kernel_rfl) (by kernel_rfl) (by exact ⟨cell_gr B0 (by (repeat (first | exact Gr.refl _ | assumption | apply Gr.alloc | apply Gr.drew | apply Gr.drewN | refine Gr.trans ?_ (by assumption)))), cell_gr B1 (by (repeat (first | exact Gr.refl _ | assumption | apply Gr.alloc | apply Gr.drew | apply Gr.drewN | refine Gr.trans ?_ (by assumption))))⟩) (fun hHeld => ?_)
    (refine hold0 (v := ?_) (by kernel_rfl) (by kernel_rfl) (by kernel_rfl) (fun _ _ _ h => h) (by rfl) (fun w' hSw => ?_) (by assumption) ?_; rotate_left 1; · ((try dsimp only at hSw); (try go_simp); (try (with_reducible rfl))); (try simp only [Act.put, List.setIfInBounds_toArray, List.set_cons_zero, List.set_cons_succ]))
    (refine hold1 (v := ?_) (by kernel_rfl) (by kernel_rfl) (by kernel_rfl) (fun _ _ _ h => h) (by rfl) (fun w' hSw => ?_) (by assumption) ?_; rotate_left 1; · ((try dsimp only at hSw); (try go_simp); (try (with_reducible rfl))); (try simp only [Act.put, List.setIfInBounds_toArray, List.set_cons_zero, List.set_cons_succ]))
    refine next2 (by kernel_rfl) (fun K hK => ?_)
    go_simp
    refine (Siphon_calls _ _ N sa _ (K4.gr (by (repeat (first | exact Gr.refl _ | assumption | apply Gr.alloc | apply Gr.drew | apply Gr.drewN | refine Gr.trans ?_ (by assumption))))) (K1.gr (by (repeat (first | exact Gr.refl _ | assumption | apply Gr.alloc | apply Gr.drew | apply Gr.drewN | refine Gr.trans ?_ (by assumption)))))).mono ?_
    rw [ha]; rintro _ w2 ⟨rfl, g2⟩
    (refine hK.out _ _ ?_ (fun hHeld => ?_); · (exact ⟨cell_gr B0 (by (repeat (first | exact Gr.refl _ | assumption | apply Gr.alloc | apply Gr.drew | apply Gr.drewN | refine Gr.trans ?_ (by assumption)))), cell_gr B1 (by (repeat (first | exact Gr.refl _ | assumption | apply Gr.alloc | apply Gr.drew | apply Gr.drewN | refine Gr.trans ?_ (by assumption))))⟩))
    clear hK K
    try simp only [Act.put, List.setIfInBounds_toArray, List.set_cons_zero, List.set_cons_succ]
    (refine hold3 (v := ?_) (by kernel_rfl) (by kernel_rfl) (by kernel_rfl) (fun _ _ _ h => h) (by rfl) (fun w' hSw => ?_) (by assumption) ?_; rotate_left 1; · ((try dsimp only at hSw); (try go_simp); (try (with_reducible rfl))); (try simp only [Act.put, List.setIfInBounds_toArray, List.set_cons_zero, List.set_cons_succ]))
    (refine skip4 (by kernel_rfl) (by kernel_rfl) (by kernel_rfl) (fun _ _ _ h => h) (by rfl) (by assumption) ?_; (try simp only [Act.put, List.setIfInBounds_toArray, List.set_cons_zero, List.set_cons_succ]))
    (refine skip5 (by kernel_rfl) (by kernel_rfl) (by kernel_rfl) (fun _ _ _ h => h) (by rfl) (by assumption) ?_; (try simp only [Act.put, List.setIfInBounds_toArray, List.set_cons_zero, List.set_cons_succ]))
    (refine skip6 (by kernel_rfl) (by kernel_rfl) (by kernel_rfl) (fun _ _ _ h => h) (by rfl) (by assumption) ?_; (try simp only [Act.put, List.setIfInBounds_toArray, List.set_cons_zero, List.set_cons_succ]))
    (refine hold7 (v := ?_) (by kernel_rfl) (by kernel_rfl) (by kernel_rfl) (fun _ _ _ h => h) (by rfl) (fun w' hSw => ?_) (by assumption) ?_; rotate_left 1; · ((try dsimp only at hSw); (try go_simp); (try (with_reducible rfl))); (try simp only [Act.put, List.setIfInBounds_toArray, List.set_cons_zero, List.set_cons_succ]))
    (refine hold8 (v := ?_) (by kernel_rfl) (by kernel_rfl) (by kernel_rfl) (fun _ _ _ h => h) (by rfl) (fun w' hSw => ?_) (by assumption) ?_; rotate_left 1; · ((try dsimp only at hSw); (try go_simp); (try (with_reducible rfl))); (try simp only [Act.put, List.setIfInBounds_toArray, List.set_cons_zero, List.set_cons_succ]))
    (refine skip9 (by kernel_rfl) (by kernel_rfl) (by kernel_rfl) (fun _ _ _ h => h) (by rfl) (by assumption) ?_; (try simp only [Act.put, List.setIfInBounds_toArray, List.set_cons_zero, List.set_cons_succ]))
    (refine skip10 (by kernel_rfl) (by kernel_rfl) (by kernel_rfl) (fun _ _ _ h => h) (by rfl) (by assumption) ?_; (try simp only [Act.put, List.setIfInBounds_toArray, List.set_cons_zero, List.set_cons_succ]))
    (refine skip11 (by kernel_rfl) (by kernel_rfl) (by kernel_rfl) (fun _ _ _ h => h) (by rfl) (by assumption) ?_; (try simp only [Act.put, List.setIfInBounds_toArray, List.set_cons_zero, List.set_cons_succ]))
    (refine skip12 (by kernel_rfl) (by kernel_rfl) (by kernel_rfl) (fun _ _ _ h => h) (by rfl) (by assumption) ?_; (try simp only [Act.put, List.setIfInBounds_toArray, List.set_cons_zero, List.set_cons_succ]))
    (refine skip13 (by kernel_rfl) (by kernel_rfl) (by kernel_rfl) (fun _ _ _ h => h) (by rfl) (by assumption) ?_; (try simp only [Act.put, List.setIfInBounds_toArray, List.set_cons_zero, List.set_cons_succ]))
    (refine skip14 (by kernel_rfl) (by kernel_rfl) (by kernel_rfl) (fun _ _ _ h => h) (by rfl) (by assumption) ?_; (try simp only [Act.put, List.setIfInBounds_toArray, List.set_cons_zero, List.set_cons_succ]))
    (refine skip15 (by kernel_rfl) (by kernel_rfl) (by kernel_rfl) (fun _ _ _ h => h) (by rfl) (by assumption) ?_; (try simp only [Act.put, List.setIfInBounds_toArray, List.set_cons_zero, List.set_cons_succ]))
    refine ends16 (by kernel_rfl) (fun K hK => ?_)
    go_simp
    refine hK.out _ _ ?_
    go_wp2_with fail
    have G1 : Gr w1 w2 := by (repeat (first | exact Gr.refl _ | assumption | apply Gr.alloc | apply Gr.drew | apply Gr.drewN | refine Gr.trans ?_ (by assumption)))
    have J1 := K1.gr G1
    have J2 := K2.gr G1
    have J4 := K4.gr G1
    have D0 := cell_gr B0 G1
    have D1 := cell_gr B1 G1
    refine (Concat_calls _ [sa, sb] _ (Mat.lit2 (by rfl) (J1.gr (by (repeat (first | exact Gr.refl _ | assumption | apply Gr.alloc | apply Gr.drew | apply Gr.drewN | refine Gr.trans ?_ (by assumption))))) (J2.gr (by (repeat (first | exact Gr.refl _ | assumption | apply Gr.alloc | apply Gr.drew | apply Gr.drewN | refine Gr.trans ?_ (by assumption)))))) (by rw [flat2]; simp; omega)).mono ?_
    rw [flat2]; rintro _ w6 ⟨v6, rfl, o6, g6⟩
    have i6 := o6.ints
    have G6 : Gr w2 w6 := by (repeat (first | exact Gr.refl _ | assumption | apply Gr.alloc | apply Gr.drew | apply Gr.drewN | refine Gr.trans ?_ (by assumption)))
    have D0 := cell_gr D0 G6
    have D1 := cell_gr D1 G6
    go_wp2_with fail
    refine (Most_calls _ _ N (sa ++ sb) _ (J4.gr (by (repeat (first | exact Gr.refl _ | assumption | apply Gr.alloc | apply Gr.drew | apply Gr.drewN | refine Gr.trans ?_ (by assumption))))) i6).mono ?_
    intro e7 w7 hm
    cases hn : netOkB N
    case false =>
      have hw : wholeB N (sa ++ sb) = false := by rw [wholeB_def, hn]; rfl
      have e1 := wrongC_no hn
      rcases hm with ⟨h7, _⟩ | ⟨_, rfl, g7⟩
      · rw [hw] at h7; cases h7
      clear hn hw
      have D0 := cell_gr D0 g7
      have D1 := cell_gr D1 g7
      go_wp2_with fail
      refine (Wrong_calls _ N _ (J4.gr (by (repeat (first | exact Gr.refl _ | assumption | apply Gr.alloc | apply Gr.drew | apply Gr.drewN | refine Gr.trans ?_ (by assumption)))))).mono ?_
      rw [e1]; rintro _ w8 ⟨rfl, g8⟩
      have G8 : Gr w w8 := (box_gr g1).trans (by (repeat (first | exact Gr.refl _ | assumption | apply Gr.alloc | apply Gr.drew | apply Gr.drewN | refine Gr.trans ?_ (by assumption))))
      go_wp2_with fail
      go_ret
      exact ⟨rfl, G8⟩
    have e1 := wrongC_yes hn
    cases ho : (sa ++ sb).any (outB N.places)
    case true =>
      have hw : wholeB N (sa ++ sb) = false := by rw [wholeB_def, hn, ho]; rfl
      rcases hm with ⟨h7, _⟩ | ⟨_, rfl, g7⟩
      · rw [hw] at h7; cases h7
      clear hn hw
      have D0 := cell_gr D0 g7
      have D1 := cell_gr D1 g7
      go_wp2_with fail
      refine (Wrong_calls _ N _ (J4.gr (by (repeat (first | exact Gr.refl _ | assumption | apply Gr.alloc | apply Gr.drew | apply Gr.drewN | refine Gr.trans ?_ (by assumption)))))).mono ?_
      rw [e1]; rintro _ w8 ⟨rfl, g8⟩
      have D0 := cell_gr D0 g8
      go_wp2_with fail
      refine (ContainsFuncAt_calls _ (sa ++ sb) _ _ _ _ eg (i6.gr (by (repeat (first | exact Gr.refl _ | assumption | apply Gr.alloc | apply Gr.drew | apply Gr.drewN | refine Gr.trans ?_ (by assumption))))) (SiphonUnion1_answers _ _ N.places D0 hpl)).mono ?_
      rw [ho]; rintro _ _ ⟨rfl, rfl⟩
      have G8 : Gr w w8 := (box_gr g1).trans (by (repeat (first | exact Gr.refl _ | assumption | apply Gr.alloc | apply Gr.drew | apply Gr.drewN | refine Gr.trans ?_ (by assumption))))
      go_wp2_with fail
      go_ret
      exact ⟨rfl, G8⟩
    have hw : wholeB N (sa ++ sb) = true := by rw [wholeB_def, hn, ho]; rfl
    rcases hm with ⟨_, v7, L, rfl, hL, o7, g7⟩ | ⟨h7, _⟩
    case inr => rw [hw] at h7; cases h7
    have hsL := hL.siphon hw
    have hso := hL.sorted
    have HH := Lib.hid hL
    have HS := Lib.hid hso
    clear hn hw hL hso
    have i7 := o7.ints
    obtain ⟨a7, c7, rfl, l7, l7'⟩ := i7.len
    have D0 := cell_gr D0 g7
    have D1 := cell_gr D1 g7
    go_wp2_with fail
    refine (Wrong_calls _ N _ (J4.gr (by (repeat (first | exact Gr.refl _ | assumption | apply Gr.alloc | apply Gr.drew | apply Gr.drewN | refine Gr.trans ?_ (by assumption)))))).mono ?_
    rw [e1]; rintro _ w8 ⟨rfl, g8⟩
    have D0 := cell_gr D0 g8
    have D1 := cell_gr D1 g8
    go_wp2_with fail
    refine (ContainsFuncAt_calls _ (sa ++ sb) _ _ _ _ eg (i6.gr (by (repeat (first | exact Gr.refl _ | assumption | apply Gr.alloc | apply Gr.drew | apply Gr.drewN | refine Gr.trans ?_ (by assumption))))) (SiphonUnion1_answers _ _ N.places D0 hpl)).mono ?_
    rw [ho]; rintro _ _ ⟨rfl, rfl⟩
    go_wp2_with fail
    refine (Siphon_calls _ _ N L _ (J4.gr (by (repeat (first | exact Gr.refl _ | assumption | apply Gr.alloc | apply Gr.drew | apply Gr.drewN | refine Gr.trans ?_ (by assumption))))) (i7.gr (by (repeat (first | exact Gr.refl _ | assumption | apply Gr.alloc | apply Gr.drew | apply Gr.drewN | refine Gr.trans ?_ (by assumption)))))).mono ?_
    rw [hsL]; rintro _ w9 ⟨rfl, g9⟩
    have D0 := cell_gr D0 g9
    have D1 := cell_gr D1 g9
    go_wp2_with fail
    refine (IsSorted_calls _ L _ (i7.gr (by (repeat (first | exact Gr.refl _ | assumption | apply Gr.alloc | apply Gr.drew | apply Gr.drewN | refine Gr.trans ?_ (by assumption))))) HS.out).mono ?_
    rintro _ w10 ⟨rfl, g10⟩
    have D0 := cell_gr D0 g10
    have D1 := cell_gr D1 g10
    go_wp2_with fail
    refine (Siphon_calls _ _ N sa _ (J4.gr (by (repeat (first | exact Gr.refl _ | assumption | apply Gr.alloc | apply Gr.drew | apply Gr.drewN | refine Gr.trans ?_ (by assumption))))) (J1.gr (by (repeat (first | exact Gr.refl _ | assumption | apply Gr.alloc | apply Gr.drew | apply Gr.drewN | refine Gr.trans ?_ (by assumption)))))).mono ?_
    rw [ha]; rintro _ w11 ⟨rfl, g11⟩
    have X7 : Ints w11 (.slice a7 L.length c7) L := i7.gr (by (repeat (first | exact Gr.refl _ | assumption | apply Gr.alloc | apply Gr.drew | apply Gr.drewN | refine Gr.trans ?_ (by assumption))))
    have X1 : Ints w11 (.slice pa sa.length pc) sa := J1.gr (by (repeat (first | exact Gr.refl _ | assumption | apply Gr.alloc | apply Gr.drew | apply Gr.drewN | refine Gr.trans ?_ (by assumption))))
    have G11 : Gr w w11 := (box_gr g1).trans (by (repeat (first | exact Gr.refl _ | assumption | apply Gr.alloc | apply Gr.drew | apply Gr.drewN | refine Gr.trans ?_ (by assumption))))
    go_wp2_with fail
    go_ret
    exact ⟨rfl, G11⟩
  case true =>
    cases hb : siphonB N sb
    case false =>
      go_enter Try.func5, Try.ntmps5
      go_wp2_with fail
      refine (alive6_calls _).mono ?_
      rintro _ w1 ⟨rfl, g1⟩
      have B0 := box_cell g1 (i := 0) rfl
      have B1 := box_cell g1 (i := 1) rfl
      have K1 : Ints w1 (.slice pa sa.length pc) sa := by (repeat (first | assumption | exact Ints.nil _ | (refine Ints.lit ?_ rfl rfl rfl ?_ ?_; ((focus (simp; done))); all_goals decide) | apply Ints.alloc | apply Ints.drew | refine Ints.gr ?_ (show Gr _ _ from by assumption)))
      have K2 : Ints w1 (.slice qa sb.length qc) sb := by (repeat (first | assumption | exact Ints.nil _ | (refine Ints.lit ?_ rfl rfl rfl ?_ ?_; ((focus (simp; done))); all_goals decide) | apply Ints.alloc | apply Ints.drew | refine Ints.gr ?_ (show Gr _ _ from by assumption)))
      have K4 : NetR w1 (.agg #[.int .i64 N.places, .slice a N.trans.length cap]) N := by (repeat (first | assumption | refine NetR.gr ?_ (show Gr _ _ from by assumption) | apply NetR.alloc | apply NetR.drew))
      go_wp2_with fail
      refine cut16 (S := fun w' => w'.cell? ⟨w.heap.size, 0, none⟩ = some (.int .i64 N.places) ∧ w'.cell? ⟨w.heap.size, 1, none⟩ = some (.slice a N.trans.length cap)) (by kernel_rfl) (by kernel_rfl) (by exact ⟨cell_gr B0 (by (repeat (first | exact Gr.refl _ | assumption | apply Gr.alloc | apply Gr.drew | apply Gr.drewN | refine Gr.trans ?_ (by assumption)))), cell_gr B1 (by (repeat (first | exact Gr.refl _ | assumption | apply Gr.alloc | apply Gr.drew | apply Gr.drewN | refine Gr.trans ?_ (by assumption))))⟩) (fun hHeld => ?_)
      (refine hold0 (v := ?_) (by kernel_rfl) (by kernel_rfl) (by kernel_rfl) (fun _ _ _ h => h) (by rfl) (fun w' hSw => ?_) (by assumption) ?_; rotate_left 1; · ((try dsimp only at hSw); (try go_simp); (try (with_reducible rfl))); (try simp only [Act.put, List.setIfInBounds_toArray, List.set_cons_zero, List.set_cons_succ]))
      (refine hold1 (v := ?_) (by kernel_rfl) (by kernel_rfl) (by kernel_rfl) (fun _ _ _ h => h) (by rfl) (fun w' hSw => ?_) (by assumption) ?_; rotate_left 1; · ((try dsimp only at hSw); (try go_simp); (try (with_reducible rfl))); (try simp only [Act.put, List.setIfInBounds_toArray, List.set_cons_zero, List.set_cons_succ]))
      refine next2 (by kernel_rfl) (fun K hK => ?_)
      go_simp
      refine (Siphon_calls _ _ N sa _ (K4.gr (by (repeat (first | exact Gr.refl _ | assumption | apply Gr.alloc | apply Gr.drew | apply Gr.drewN | refine Gr.trans ?_ (by assumption))))) (K1.gr (by (repeat (first | exact Gr.refl _ | assumption | apply Gr.alloc | apply Gr.drew | apply Gr.drewN | refine Gr.trans ?_ (by assumption)))))).mono ?_
      rw [ha]; rintro _ w2 ⟨rfl, g2⟩
      (refine hK.out _ _ ?_ (fun hHeld => ?_); · (exact ⟨cell_gr B0 (by (repeat (first | exact Gr.refl _ | assumption | apply Gr.alloc | apply Gr.drew | apply Gr.drewN | refine Gr.trans ?_ (by assumption)))), cell_gr B1 (by (repeat (first | exact Gr.refl _ | assumption | apply Gr.alloc | apply Gr.drew | apply Gr.drewN | refine Gr.trans ?_ (by assumption))))⟩))
      clear hK K
      try simp only [Act.put, List.setIfInBounds_toArray, List.set_cons_zero, List.set_cons_succ]
      (refine hold3 (v := ?_) (by kernel_rfl) (by kernel_rfl) (by kernel_rfl) (fun _ _ _ h => h) (by rfl) (fun w' hSw => ?_) (by assumption) ?_; rotate_left 1; · ((try dsimp only at hSw); (try go_simp); (try (with_reducible rfl))); (try simp only [Act.put, List.setIfInBounds_toArray, List.set_cons_zero, List.set_cons_succ]))
      (refine hold4 (v := ?_) (by kernel_rfl) (by kernel_rfl) (by kernel_rfl) (fun _ _ _ h => h) (by rfl) (fun w' hSw => ?_) (by assumption) ?_; rotate_left 1; · ((try dsimp only at hSw); (try go_simp); (try (with_reducible rfl))); (try simp only [Act.put, List.setIfInBounds_toArray, List.set_cons_zero, List.set_cons_succ]))
      (refine hold5 (v := ?_) (by kernel_rfl) (by kernel_rfl) (by kernel_rfl) (fun _ _ _ h => h) (by rfl) (fun w' hSw => ?_) (by assumption) ?_; rotate_left 1; · ((try dsimp only at hSw); (try go_simp); (try (with_reducible rfl))); (try simp only [Act.put, List.setIfInBounds_toArray, List.set_cons_zero, List.set_cons_succ]))
      refine next6 (by kernel_rfl) (fun K hK => ?_)
      go_simp
      refine (Siphon_calls _ _ N sb _ (K4.gr (by (repeat (first | exact Gr.refl _ | assumption | apply Gr.alloc | apply Gr.drew | apply Gr.drewN | refine Gr.trans ?_ (by assumption))))) (K2.gr (by (repeat (first | exact Gr.refl _ | assumption | apply Gr.alloc | apply Gr.drew | apply Gr.drewN | refine Gr.trans ?_ (by assumption)))))).mono ?_
      rw [hb]; rintro _ w3 ⟨rfl, g3⟩
      (refine hK.out _ _ ?_ (fun hHeld => ?_); · (exact ⟨cell_gr B0 (by (repeat (first | exact Gr.refl _ | assumption | apply Gr.alloc | apply Gr.drew | apply Gr.drewN | refine Gr.trans ?_ (by assumption)))), cell_gr B1 (by (repeat (first | exact Gr.refl _ | assumption | apply Gr.alloc | apply Gr.drew | apply Gr.drewN | refine Gr.trans ?_ (by assumption))))⟩))
      clear hK K
      try simp only [Act.put, List.setIfInBounds_toArray, List.set_cons_zero, List.set_cons_succ]
      (refine hold7 (v := ?_) (by kernel_rfl) (by kernel_rfl) (by kernel_rfl) (fun _ _ _ h => h) (by rfl) (fun w' hSw => ?_) (by assumption) ?_; rotate_left 1; · ((try dsimp only at hSw); (try go_simp); (try (with_reducible rfl))); (try simp only [Act.put, List.setIfInBounds_toArray, List.set_cons_zero, List.set_cons_succ]))
      (refine hold8 (v := ?_) (by kernel_rfl) (by kernel_rfl) (by kernel_rfl) (fun _ _ _ h => h) (by rfl) (fun w' hSw => ?_) (by assumption) ?_; rotate_left 1; · ((try dsimp only at hSw); (try go_simp); (try (with_reducible rfl))); (try simp only [Act.put, List.setIfInBounds_toArray, List.set_cons_zero, List.set_cons_succ]))
      (refine skip9 (by kernel_rfl) (by kernel_rfl) (by kernel_rfl) (fun _ _ _ h => h) (by rfl) (by assumption) ?_; (try simp only [Act.put, List.setIfInBounds_toArray, List.set_cons_zero, List.set_cons_succ]))
      (refine skip10 (by kernel_rfl) (by kernel_rfl) (by kernel_rfl) (fun _ _ _ h => h) (by rfl) (by assumption) ?_; (try simp only [Act.put, List.setIfInBounds_toArray, List.set_cons_zero, List.set_cons_succ]))
      (refine skip11 (by kernel_rfl) (by kernel_rfl) (by kernel_rfl) (fun _ _ _ h => h) (by rfl) (by assumption) ?_; (try simp only [Act.put, List.setIfInBounds_toArray, List.set_cons_zero, List.set_cons_succ]))
      (refine skip12 (by kernel_rfl) (by kernel_rfl) (by kernel_rfl) (fun _ _ _ h => h) (by rfl) (by assumption) ?_; (try simp only [Act.put, List.setIfInBounds_toArray, List.set_cons_zero, List.set_cons_succ]))
      (refine skip13 (by kernel_rfl) (by kernel_rfl) (by kernel_rfl) (fun _ _ _ h => h) (by rfl) (by assumption) ?_; (try simp only [Act.put, List.setIfInBounds_toArray, List.set_cons_zero, List.set_cons_succ]))
      (refine skip14 (by kernel_rfl) (by kernel_rfl) (by kernel_rfl) (fun _ _ _ h => h) (by rfl) (by assumption) ?_; (try simp only [Act.put, List.setIfInBounds_toArray, List.set_cons_zero, List.set_cons_succ]))
      (refine skip15 (by kernel_rfl) (by kernel_rfl) (by kernel_rfl) (fun _ _ _ h => h) (by rfl) (by assumption) ?_; (try simp only [Act.put, List.setIfInBounds_toArray, List.set_cons_zero, List.set_cons_succ]))
      refine ends16 (by kernel_rfl) (fun K hK => ?_)
      go_simp
      refine hK.out _ _ ?_
      go_wp2_with fail
      have G1 : Gr w1 w3 := by (repeat (first | exact Gr.refl _ | assumption | apply Gr.alloc | apply Gr.drew | apply Gr.drewN | refine Gr.trans ?_ (by assumption)))
      have J1 := K1.gr G1
      have J2 := K2.gr G1
      have J4 := K4.gr G1
      have D0 := cell_gr B0 G1
      have D1 := cell_gr B1 G1
      refine (Concat_calls _ [sa, sb] _ (Mat.lit2 (by rfl) (J1.gr (by (repeat (first | exact Gr.refl _ | assumption | apply Gr.alloc | apply Gr.drew | apply Gr.drewN | refine Gr.trans ?_ (by assumption))))) (J2.gr (by (repeat (first | exact Gr.refl _ | assumption | apply Gr.alloc | apply Gr.drew | apply Gr.drewN | refine Gr.trans ?_ (by assumption)))))) (by rw [flat2]; simp; omega)).mono ?_
      rw [flat2]; rintro _ w6 ⟨v6, rfl, o6, g6⟩
      have i6 := o6.ints
      have G6 : Gr w3 w6 := by (repeat (first | exact Gr.refl _ | assumption | apply Gr.alloc | apply Gr.drew | apply Gr.drewN | refine Gr.trans ?_ (by assumption)))
      have D0 := cell_gr D0 G6
      have D1 := cell_gr D1 G6
      go_wp2_with fail
      refine (Most_calls _ _ N (sa ++ sb) _ (J4.gr (by (repeat (first | exact Gr.refl _ | assumption | apply Gr.alloc | apply Gr.drew | apply Gr.drewN | refine Gr.trans ?_ (by assumption))))) i6).mono ?_
      intro e7 w7 hm
      cases hn : netOkB N
      case false =>
        have hw : wholeB N (sa ++ sb) = false := by rw [wholeB_def, hn]; rfl
        have e1 := wrongC_no hn
        rcases hm with ⟨h7, _⟩ | ⟨_, rfl, g7⟩
        · rw [hw] at h7; cases h7
        clear hn hw
        have D0 := cell_gr D0 g7
        have D1 := cell_gr D1 g7
        go_wp2_with fail
        refine (Wrong_calls _ N _ (J4.gr (by (repeat (first | exact Gr.refl _ | assumption | apply Gr.alloc | apply Gr.drew | apply Gr.drewN | refine Gr.trans ?_ (by assumption)))))).mono ?_
        rw [e1]; rintro _ w8 ⟨rfl, g8⟩
        have G8 : Gr w w8 := (box_gr g1).trans (by (repeat (first | exact Gr.refl _ | assumption | apply Gr.alloc | apply Gr.drew | apply Gr.drewN | refine Gr.trans ?_ (by assumption))))
        go_wp2_with fail
        go_ret
        exact ⟨rfl, G8⟩
      have e1 := wrongC_yes hn
      cases ho : (sa ++ sb).any (outB N.places)
      case true =>
        have hw : wholeB N (sa ++ sb) = false := by rw [wholeB_def, hn, ho]; rfl
        rcases hm with ⟨h7, _⟩ | ⟨_, rfl, g7⟩
        · rw [hw] at h7; cases h7
        clear hn hw
        have D0 := cell_gr D0 g7
        have D1 := cell_gr D1 g7
        go_wp2_with fail
        refine (Wrong_calls _ N _ (J4.gr (by (repeat (first | exact Gr.refl _ | assumption | apply Gr.alloc | apply Gr.drew | apply Gr.drewN | refine Gr.trans ?_ (by assumption)))))).mono ?_
        rw [e1]; rintro _ w8 ⟨rfl, g8⟩
        have D0 := cell_gr D0 g8
        go_wp2_with fail
        refine (ContainsFuncAt_calls _ (sa ++ sb) _ _ _ _ eg (i6.gr (by (repeat (first | exact Gr.refl _ | assumption | apply Gr.alloc | apply Gr.drew | apply Gr.drewN | refine Gr.trans ?_ (by assumption))))) (SiphonUnion1_answers _ _ N.places D0 hpl)).mono ?_
        rw [ho]; rintro _ _ ⟨rfl, rfl⟩
        have G8 : Gr w w8 := (box_gr g1).trans (by (repeat (first | exact Gr.refl _ | assumption | apply Gr.alloc | apply Gr.drew | apply Gr.drewN | refine Gr.trans ?_ (by assumption))))
        go_wp2_with fail
        go_ret
        exact ⟨rfl, G8⟩
      have hw : wholeB N (sa ++ sb) = true := by rw [wholeB_def, hn, ho]; rfl
      rcases hm with ⟨_, v7, L, rfl, hL, o7, g7⟩ | ⟨h7, _⟩
      case inr => rw [hw] at h7; cases h7
      have hsL := hL.siphon hw
      have hso := hL.sorted
      have HH := Lib.hid hL
      have HS := Lib.hid hso
      clear hn hw hL hso
      have i7 := o7.ints
      obtain ⟨a7, c7, rfl, l7, l7'⟩ := i7.len
      have D0 := cell_gr D0 g7
      have D1 := cell_gr D1 g7
      go_wp2_with fail
      refine (Wrong_calls _ N _ (J4.gr (by (repeat (first | exact Gr.refl _ | assumption | apply Gr.alloc | apply Gr.drew | apply Gr.drewN | refine Gr.trans ?_ (by assumption)))))).mono ?_
      rw [e1]; rintro _ w8 ⟨rfl, g8⟩
      have D0 := cell_gr D0 g8
      have D1 := cell_gr D1 g8
      go_wp2_with fail
      refine (ContainsFuncAt_calls _ (sa ++ sb) _ _ _ _ eg (i6.gr (by (repeat (first | exact Gr.refl _ | assumption | apply Gr.alloc | apply Gr.drew | apply Gr.drewN | refine Gr.trans ?_ (by assumption))))) (SiphonUnion1_answers _ _ N.places D0 hpl)).mono ?_
      rw [ho]; rintro _ _ ⟨rfl, rfl⟩
      go_wp2_with fail
      refine (Siphon_calls _ _ N L _ (J4.gr (by (repeat (first | exact Gr.refl _ | assumption | apply Gr.alloc | apply Gr.drew | apply Gr.drewN | refine Gr.trans ?_ (by assumption))))) (i7.gr (by (repeat (first | exact Gr.refl _ | assumption | apply Gr.alloc | apply Gr.drew | apply Gr.drewN | refine Gr.trans ?_ (by assumption)))))).mono ?_
      rw [hsL]; rintro _ w9 ⟨rfl, g9⟩
      have D0 := cell_gr D0 g9
      have D1 := cell_gr D1 g9
      go_wp2_with fail
      refine (IsSorted_calls _ L _ (i7.gr (by (repeat (first | exact Gr.refl _ | assumption | apply Gr.alloc | apply Gr.drew | apply Gr.drewN | refine Gr.trans ?_ (by assumption))))) HS.out).mono ?_
      rintro _ w10 ⟨rfl, g10⟩
      have D0 := cell_gr D0 g10
      have D1 := cell_gr D1 g10
      go_wp2_with fail
      refine (Siphon_calls _ _ N sa _ (J4.gr (by (repeat (first | exact Gr.refl _ | assumption | apply Gr.alloc | apply Gr.drew | apply Gr.drewN | refine Gr.trans ?_ (by assumption))))) (J1.gr (by (repeat (first | exact Gr.refl _ | assumption | apply Gr.alloc | apply Gr.drew | apply Gr.drewN | refine Gr.trans ?_ (by assumption)))))).mono ?_
      rw [ha]; rintro _ w11 ⟨rfl, g11⟩
      have X7 : Ints w11 (.slice a7 L.length c7) L := i7.gr (by (repeat (first | exact Gr.refl _ | assumption | apply Gr.alloc | apply Gr.drew | apply Gr.drewN | refine Gr.trans ?_ (by assumption))))
      have X1 : Ints w11 (.slice pa sa.length pc) sa := J1.gr (by (repeat (first | exact Gr.refl _ | assumption | apply Gr.alloc | apply Gr.drew | apply Gr.drewN | refine Gr.trans ?_ (by assumption))))
      have G11 : Gr w w11 := (box_gr g1).trans (by (repeat (first | exact Gr.refl _ | assumption | apply Gr.alloc | apply Gr.drew | apply Gr.drewN | refine Gr.trans ?_ (by assumption))))
      have HM := Lib.hid (HH.out.has ha (fun p hp => List.mem_append_left _ hp))
      go_wp2_with fail
      go_loop [62] (fun i => ∃ k : Nat, k ≤ sa.length ∧ i = .int .i64 k) (fun i => sa.length - (intOf i).toNat)
      case atStart => exact ⟨0, Nat.zero_le _, rfl⟩
      case round =>
        obtain ⟨k, hk, rfl⟩ := hrel
        by_cases hlt : k < sa.length
        · obtain ⟨b, o, rfl, hcell⟩ := X1.cell hlt
          have hh : hasB L (nth sa k) = true := (hasB_iff _ _).2 (HM.out _ (by rw [nth_lt hlt]; exact List.getElem_mem hlt))
          go_wp2_with fail
          refine (Contains_calls _ L (nth sa k) _ X7).mono ?_
          rw [hh]; rintro _ _ ⟨rfl, rfl⟩
          go_wp2_with fail
          go_round
          case rel => exact ⟨k + 1, by omega, by go_num⟩
          case measure => simp [intOf]; omega
        · go_wp2_with fail
          go_ret
          exact ⟨rfl, G11⟩
    case true =>
      have hab := siphon_union ha hb
      go_enter Try.func5, Try.ntmps5
      go_wp2_with fail
      refine (alive6_calls _).mono ?_
      rintro _ w1 ⟨rfl, g1⟩
      have B0 := box_cell g1 (i := 0) rfl
      have B1 := box_cell g1 (i := 1) rfl
      have K1 : Ints w1 (.slice pa sa.length pc) sa := by (repeat (first | assumption | exact Ints.nil _ | (refine Ints.lit ?_ rfl rfl rfl ?_ ?_; ((focus (simp; done))); all_goals decide) | apply Ints.alloc | apply Ints.drew | refine Ints.gr ?_ (show Gr _ _ from by assumption)))
      have K2 : Ints w1 (.slice qa sb.length qc) sb := by (repeat (first | assumption | exact Ints.nil _ | (refine Ints.lit ?_ rfl rfl rfl ?_ ?_; ((focus (simp; done))); all_goals decide) | apply Ints.alloc | apply Ints.drew | refine Ints.gr ?_ (show Gr _ _ from by assumption)))
      have K4 : NetR w1 (.agg #[.int .i64 N.places, .slice a N.trans.length cap]) N := by (repeat (first | assumption | refine NetR.gr ?_ (show Gr _ _ from by assumption) | apply NetR.alloc | apply NetR.drew))
      go_wp2_with fail
      refine cut16 (S := fun w' => w'.cell? ⟨w.heap.size, 0, none⟩ = some (.int .i64 N.places) ∧ w'.cell? ⟨w.heap.size, 1, none⟩ = some (.slice a N.trans.length cap)) (by kernel_rfl) (by kernel_rfl) (by exact ⟨cell_gr B0 (by (repeat (first | exact Gr.refl _ | assumption | apply Gr.alloc | apply Gr.drew | apply Gr.drewN | refine Gr.trans ?_ (by assumption)))), cell_gr B1 (by (repeat (first | exact Gr.refl _ | assumption | apply Gr.alloc | apply Gr.drew | apply Gr.drewN | refine Gr.trans ?_ (by assumption))))⟩) (fun hHeld => ?_)
      (refine hold0 (v := ?_) (by kernel_rfl) (by kernel_rfl) (by kernel_rfl) (fun _ _ _ h => h) (by rfl) (fun w' hSw => ?_) (by assumption) ?_; rotate_left 1; · ((try dsimp only at hSw); (try go_simp); (try (with_reducible rfl))); (try simp only [Act.put, List.setIfInBounds_toArray, List.set_cons_zero, List.set_cons_succ]))
      (refine hold1 (v := ?_) (by kernel_rfl) (by kernel_rfl) (by kernel_rfl) (fun _ _ _ h => h) (by rfl) (fun w' hSw => ?_) (by assumption) ?_; rotate_left 1; · ((try dsimp only at hSw); (try go_simp); (try (with_reducible rfl))); (try simp only [Act.put, List.setIfInBounds_toArray, List.set_cons_zero, List.set_cons_succ]))
      refine next2 (by kernel_rfl) (fun K hK => ?_)
      go_simp
      refine (Siphon_calls _ _ N sa _ (K4.gr (by (repeat (first | exact Gr.refl _ | assumption | apply Gr.alloc | apply Gr.drew | apply Gr.drewN | refine Gr.trans ?_ (by assumption))))) (K1.gr (by (repeat (first | exact Gr.refl _ | assumption | apply Gr.alloc | apply Gr.drew | apply Gr.drewN | refine Gr.trans ?_ (by assumption)))))).mono ?_
      rw [ha]; rintro _ w2 ⟨rfl, g2⟩
      (refine hK.out _ _ ?_ (fun hHeld => ?_); · (exact ⟨cell_gr B0 (by (repeat (first | exact Gr.refl _ | assumption | apply Gr.alloc | apply Gr.drew | apply Gr.drewN | refine Gr.trans ?_ (by assumption)))), cell_gr B1 (by (repeat (first | exact Gr.refl _ | assumption | apply Gr.alloc | apply Gr.drew | apply Gr.drewN | refine Gr.trans ?_ (by assumption))))⟩))
      clear hK K
      try simp only [Act.put, List.setIfInBounds_toArray, List.set_cons_zero, List.set_cons_succ]
      (refine hold3 (v := ?_) (by kernel_rfl) (by kernel_rfl) (by kernel_rfl) (fun _ _ _ h => h) (by rfl) (fun w' hSw => ?_) (by assumption) ?_; rotate_left 1; · ((try dsimp only at hSw); (try go_simp); (try (with_reducible rfl))); (try simp only [Act.put, List.setIfInBounds_toArray, List.set_cons_zero, List.set_cons_succ]))
      (refine hold4 (v := ?_) (by kernel_rfl) (by kernel_rfl) (by kernel_rfl) (fun _ _ _ h => h) (by rfl) (fun w' hSw => ?_) (by assumption) ?_; rotate_left 1; · ((try dsimp only at hSw); (try go_simp); (try (with_reducible rfl))); (try simp only [Act.put, List.setIfInBounds_toArray, List.set_cons_zero, List.set_cons_succ]))
      (refine hold5 (v := ?_) (by kernel_rfl) (by kernel_rfl) (by kernel_rfl) (fun _ _ _ h => h) (by rfl) (fun w' hSw => ?_) (by assumption) ?_; rotate_left 1; · ((try dsimp only at hSw); (try go_simp); (try (with_reducible rfl))); (try simp only [Act.put, List.setIfInBounds_toArray, List.set_cons_zero, List.set_cons_succ]))
      refine next6 (by kernel_rfl) (fun K hK => ?_)
      go_simp
      refine (Siphon_calls _ _ N sb _ (K4.gr (by (repeat (first | exact Gr.refl _ | assumption | apply Gr.alloc | apply Gr.drew | apply Gr.drewN | refine Gr.trans ?_ (by assumption))))) (K2.gr (by (repeat (first | exact Gr.refl _ | assumption | apply Gr.alloc | apply Gr.drew | apply Gr.drewN | refine Gr.trans ?_ (by assumption)))))).mono ?_
      rw [hb]; rintro _ w3 ⟨rfl, g3⟩
      (refine hK.out _ _ ?_ (fun hHeld => ?_); · (exact ⟨cell_gr B0 (by (repeat (first | exact Gr.refl _ | assumption | apply Gr.alloc | apply Gr.drew | apply Gr.drewN | refine Gr.trans ?_ (by assumption)))), cell_gr B1 (by (repeat (first | exact Gr.refl _ | assumption | apply Gr.alloc | apply Gr.drew | apply Gr.drewN | refine Gr.trans ?_ (by assumption))))⟩))
      clear hK K
      try simp only [Act.put, List.setIfInBounds_toArray, List.set_cons_zero, List.set_cons_succ]
      (refine hold7 (v := ?_) (by kernel_rfl) (by kernel_rfl) (by kernel_rfl) (fun _ _ _ h => h) (by rfl) (fun w' hSw => ?_) (by assumption) ?_; rotate_left 1; · ((try dsimp only at hSw); (try go_simp); (try (with_reducible rfl))); (try simp only [Act.put, List.setIfInBounds_toArray, List.set_cons_zero, List.set_cons_succ]))
      (refine hold8 (v := ?_) (by kernel_rfl) (by kernel_rfl) (by kernel_rfl) (fun _ _ _ h => h) (by rfl) (fun w' hSw => ?_) (by assumption) ?_; rotate_left 1; · ((try dsimp only at hSw); (try go_simp); (try (with_reducible rfl))); (try simp only [Act.put, List.setIfInBounds_toArray, List.set_cons_zero, List.set_cons_succ]))
      (refine hold9 (v := ?_) (by kernel_rfl) (by kernel_rfl) (by kernel_rfl) (fun _ _ _ h => h) (by rfl) (fun w' hSw => ?_) (by assumption) ?_; rotate_left 1; · ((try dsimp only at hSw); (try go_simp); (try (with_reducible rfl))); (try simp only [Act.put, List.setIfInBounds_toArray, List.set_cons_zero, List.set_cons_succ]))
      (refine hold10 (v := ?_) (by kernel_rfl) (by kernel_rfl) (by kernel_rfl) (fun _ _ _ h => h) (by rfl) (fun w' hSw => ?_) (by assumption) ?_; rotate_left 1; · ((try dsimp only at hSw); (try go_simp); (try (with_reducible rfl))); (try simp only [Act.put, List.setIfInBounds_toArray, List.set_cons_zero, List.set_cons_succ]))
      (refine hold11 (v := ?_) (by kernel_rfl) (by kernel_rfl) (by kernel_rfl) (fun _ _ _ h => h) (by rfl) (fun w' hSw => ?_) (by assumption) ?_; rotate_left 1; · ((try dsimp only at hSw); (try go_simp); (try (with_reducible rfl))); (try simp only [Act.put, List.setIfInBounds_toArray, List.set_cons_zero, List.set_cons_succ]))
      refine next12 (by kernel_rfl) (fun K hK => ?_)
      go_simp
      (refine hK.out _ _ ?_ (fun hHeld => ?_); · (exact ⟨cell_gr B0 (by (repeat (first | exact Gr.refl _ | assumption | apply Gr.alloc | apply Gr.drew | apply Gr.drewN | refine Gr.trans ?_ (by assumption)))), cell_gr B1 (by (repeat (first | exact Gr.refl _ | assumption | apply Gr.alloc | apply Gr.drew | apply Gr.drewN | refine Gr.trans ?_ (by assumption))))⟩))
      clear hK K
      try simp only [Act.put, List.setIfInBounds_toArray, List.set_cons_zero, List.set_cons_succ]
      refine next13 (by kernel_rfl) (fun K hK => ?_)
      go_simp
      refine (Concat_calls _ [sa, sb] _ (Mat.lit2 (by rfl) (K1.gr (by (repeat (first | exact Gr.refl _ | assumption | apply Gr.alloc | apply Gr.drew | apply Gr.drewN | refine Gr.trans ?_ (by assumption))))) (K2.gr (by (repeat (first | exact Gr.refl _ | assumption | apply Gr.alloc | apply Gr.drew | apply Gr.drewN | refine Gr.trans ?_ (by assumption)))))) (by rw [flat2]; simp; omega)).mono ?_
      rw [flat2]; rintro _ w4 ⟨v4, rfl, o4, g4⟩
      (refine hK.out _ _ ?_ (fun hHeld => ?_); · (exact ⟨cell_gr B0 (by (repeat (first | exact Gr.refl _ | assumption | apply Gr.alloc | apply Gr.drew | apply Gr.drewN | refine Gr.trans ?_ (by assumption)))), cell_gr B1 (by (repeat (first | exact Gr.refl _ | assumption | apply Gr.alloc | apply Gr.drew | apply Gr.drewN | refine Gr.trans ?_ (by assumption))))⟩))
      clear hK K
      try simp only [Act.put, List.setIfInBounds_toArray, List.set_cons_zero, List.set_cons_succ]
      refine next14 (by kernel_rfl) (fun K hK => ?_)
      go_simp
      refine (Siphon_calls _ _ N (sa ++ sb) _ (K4.gr (by (repeat (first | exact Gr.refl _ | assumption | apply Gr.alloc | apply Gr.drew | apply Gr.drewN | refine Gr.trans ?_ (by assumption))))) o4.ints).mono ?_
      rw [hab]; rintro _ w5 ⟨rfl, g5⟩
      (refine hK.out _ _ ?_ (fun hHeld => ?_); · (exact ⟨cell_gr B0 (by (repeat (first | exact Gr.refl _ | assumption | apply Gr.alloc | apply Gr.drew | apply Gr.drewN | refine Gr.trans ?_ (by assumption)))), cell_gr B1 (by (repeat (first | exact Gr.refl _ | assumption | apply Gr.alloc | apply Gr.drew | apply Gr.drewN | refine Gr.trans ?_ (by assumption))))⟩))
      clear hK K
      try simp only [Act.put, List.setIfInBounds_toArray, List.set_cons_zero, List.set_cons_succ]
      (refine hold15 (v := ?_) (by kernel_rfl) (by kernel_rfl) (by kernel_rfl) (fun _ _ _ h => h) (by rfl) (fun w' hSw => ?_) (by assumption) ?_; rotate_left 1; · ((try dsimp only at hSw); (try go_simp); (try (with_reducible rfl))); (try simp only [Act.put, List.setIfInBounds_toArray, List.set_cons_zero, List.set_cons_succ]))
      refine ends16 (by kernel_rfl) (fun K hK => ?_)
      go_simp
      refine hK.out _ _ ?_
      go_wp2_with fail
      have G1 : Gr w1 w5 := by (repeat (first | exact Gr.refl _ | assumption | apply Gr.alloc | apply Gr.drew | apply Gr.drewN | refine Gr.trans ?_ (by assumption)))
      have J1 := K1.gr G1
      have J2 := K2.gr G1
      have J4 := K4.gr G1
      have D0 := cell_gr B0 G1
      have D1 := cell_gr B1 G1
      refine (Concat_calls _ [sa, sb] _ (Mat.lit2 (by rfl) (J1.gr (by (repeat (first | exact Gr.refl _ | assumption | apply Gr.alloc | apply Gr.drew | apply Gr.drewN | refine Gr.trans ?_ (by assumption))))) (J2.gr (by (repeat (first | exact Gr.refl _ | assumption | apply Gr.alloc | apply Gr.drew | apply Gr.drewN | refine Gr.trans ?_ (by assumption)))))) (by rw [flat2]; simp; omega)).mono ?_
      rw [flat2]; rintro _ w6 ⟨v6, rfl, o6, g6⟩
      have i6 := o6.ints
      have G6 : Gr w5 w6 := by (repeat (first | exact Gr.refl _ | assumption | apply Gr.alloc | apply Gr.drew | apply Gr.drewN | refine Gr.trans ?_ (by assumption)))
      have D0 := cell_gr D0 G6
      have D1 := cell_gr D1 G6
      go_wp2_with fail
      refine (Most_calls _ _ N (sa ++ sb) _ (J4.gr (by (repeat (first | exact Gr.refl _ | assumption | apply Gr.alloc | apply Gr.drew | apply Gr.drewN | refine Gr.trans ?_ (by assumption))))) i6).mono ?_
      intro e7 w7 hm
      cases hn : netOkB N
      case false =>
        have hw : wholeB N (sa ++ sb) = false := by rw [wholeB_def, hn]; rfl
        have e1 := wrongC_no hn
        rcases hm with ⟨h7, _⟩ | ⟨_, rfl, g7⟩
        · rw [hw] at h7; cases h7
        clear hn hw
        have D0 := cell_gr D0 g7
        have D1 := cell_gr D1 g7
        go_wp2_with fail
        refine (Wrong_calls _ N _ (J4.gr (by (repeat (first | exact Gr.refl _ | assumption | apply Gr.alloc | apply Gr.drew | apply Gr.drewN | refine Gr.trans ?_ (by assumption)))))).mono ?_
        rw [e1]; rintro _ w8 ⟨rfl, g8⟩
        have G8 : Gr w w8 := (box_gr g1).trans (by (repeat (first | exact Gr.refl _ | assumption | apply Gr.alloc | apply Gr.drew | apply Gr.drewN | refine Gr.trans ?_ (by assumption))))
        go_wp2_with fail
        go_ret
        exact ⟨rfl, G8⟩
      have e1 := wrongC_yes hn
      cases ho : (sa ++ sb).any (outB N.places)
      case true =>
        have hw : wholeB N (sa ++ sb) = false := by rw [wholeB_def, hn, ho]; rfl
        rcases hm with ⟨h7, _⟩ | ⟨_, rfl, g7⟩
        · rw [hw] at h7; cases h7
        clear hn hw
        have D0 := cell_gr D0 g7
        have D1 := cell_gr D1 g7
        go_wp2_with fail
        refine (Wrong_calls _ N _ (J4.gr (by (repeat (first | exact Gr.refl _ | assumption | apply Gr.alloc | apply Gr.drew | apply Gr.drewN | refine Gr.trans ?_ (by assumption)))))).mono ?_
        rw [e1]; rintro _ w8 ⟨rfl, g8⟩
        have D0 := cell_gr D0 g8
        go_wp2_with fail
        refine (ContainsFuncAt_calls _ (sa ++ sb) _ _ _ _ eg (i6.gr (by (repeat (first | exact Gr.refl _ | assumption | apply Gr.alloc | apply Gr.drew | apply Gr.drewN | refine Gr.trans ?_ (by assumption))))) (SiphonUnion1_answers _ _ N.places D0 hpl)).mono ?_
        rw [ho]; rintro _ _ ⟨rfl, rfl⟩
        have G8 : Gr w w8 := (box_gr g1).trans (by (repeat (first | exact Gr.refl _ | assumption | apply Gr.alloc | apply Gr.drew | apply Gr.drewN | refine Gr.trans ?_ (by assumption))))
        go_wp2_with fail
        go_ret
        exact ⟨rfl, G8⟩
      have hw : wholeB N (sa ++ sb) = true := by rw [wholeB_def, hn, ho]; rfl
      rcases hm with ⟨_, v7, L, rfl, hL, o7, g7⟩ | ⟨h7, _⟩
      case inr => rw [hw] at h7; cases h7
      have hsL := hL.siphon hw
      have hso := hL.sorted
      have HH := Lib.hid hL
      have HS := Lib.hid hso
      clear hn hw hL hso
      have i7 := o7.ints
      obtain ⟨a7, c7, rfl, l7, l7'⟩ := i7.len
      have D0 := cell_gr D0 g7
      have D1 := cell_gr D1 g7
      go_wp2_with fail
      refine (Wrong_calls _ N _ (J4.gr (by (repeat (first | exact Gr.refl _ | assumption | apply Gr.alloc | apply Gr.drew | apply Gr.drewN | refine Gr.trans ?_ (by assumption)))))).mono ?_
      rw [e1]; rintro _ w8 ⟨rfl, g8⟩
      have D0 := cell_gr D0 g8
      have D1 := cell_gr D1 g8
      go_wp2_with fail
      refine (ContainsFuncAt_calls _ (sa ++ sb) _ _ _ _ eg (i6.gr (by (repeat (first | exact Gr.refl _ | assumption | apply Gr.alloc | apply Gr.drew | apply Gr.drewN | refine Gr.trans ?_ (by assumption))))) (SiphonUnion1_answers _ _ N.places D0 hpl)).mono ?_
      rw [ho]; rintro _ _ ⟨rfl, rfl⟩
      go_wp2_with fail
      refine (Siphon_calls _ _ N L _ (J4.gr (by (repeat (first | exact Gr.refl _ | assumption | apply Gr.alloc | apply Gr.drew | apply Gr.drewN | refine Gr.trans ?_ (by assumption))))) (i7.gr (by (repeat (first | exact Gr.refl _ | assumption | apply Gr.alloc | apply Gr.drew | apply Gr.drewN | refine Gr.trans ?_ (by assumption)))))).mono ?_
      rw [hsL]; rintro _ w9 ⟨rfl, g9⟩
      have D0 := cell_gr D0 g9
      have D1 := cell_gr D1 g9
      go_wp2_with fail
      refine (IsSorted_calls _ L _ (i7.gr (by (repeat (first | exact Gr.refl _ | assumption | apply Gr.alloc | apply Gr.drew | apply Gr.drewN | refine Gr.trans ?_ (by assumption))))) HS.out).mono ?_
      rintro _ w10 ⟨rfl, g10⟩
      have D0 := cell_gr D0 g10
      have D1 := cell_gr D1 g10
      go_wp2_with fail
      refine (Siphon_calls _ _ N sa _ (J4.gr (by (repeat (first | exact Gr.refl _ | assumption | apply Gr.alloc | apply Gr.drew | apply Gr.drewN | refine Gr.trans ?_ (by assumption))))) (J1.gr (by (repeat (first | exact Gr.refl _ | assumption | apply Gr.alloc | apply Gr.drew | apply Gr.drewN | refine Gr.trans ?_ (by assumption)))))).mono ?_
      rw [ha]; rintro _ w11 ⟨rfl, g11⟩
      have X7 : Ints w11 (.slice a7 L.length c7) L := i7.gr (by (repeat (first | exact Gr.refl _ | assumption | apply Gr.alloc | apply Gr.drew | apply Gr.drewN | refine Gr.trans ?_ (by assumption))))
      have X1 : Ints w11 (.slice pa sa.length pc) sa := J1.gr (by (repeat (first | exact Gr.refl _ | assumption | apply Gr.alloc | apply Gr.drew | apply Gr.drewN | refine Gr.trans ?_ (by assumption))))
      have G11 : Gr w w11 := (box_gr g1).trans (by (repeat (first | exact Gr.refl _ | assumption | apply Gr.alloc | apply Gr.drew | apply Gr.drewN | refine Gr.trans ?_ (by assumption))))
      have HM := Lib.hid (HH.out.has ha (fun p hp => List.mem_append_left _ hp))
      go_wp2_with fail
      go_loop [62] (fun i => ∃ k : Nat, k ≤ sa.length ∧ i = .int .i64 k) (fun i => sa.length - (intOf i).toNat)
      case atStart => exact ⟨0, Nat.zero_le _, rfl⟩
      case round =>
        obtain ⟨k, hk, rfl⟩ := hrel
        by_cases hlt : k < sa.length
        · obtain ⟨b, o, rfl, hcell⟩ := X1.cell hlt
          have hh : hasB L (nth sa k) = true := (hasB_iff _ _).2 (HM.out _ (by rw [nth_lt hlt]; exact List.getElem_mem hlt))
          go_wp2_with fail
          refine (Contains_calls _ L (nth sa k) _ X7).mono ?_
          rw [hh]; rintro _ _ ⟨rfl, rfl⟩
          go_wp2_with fail
          go_round
          case rel => exact ⟨k + 1, by omega, by go_num⟩
          case measure => simp [intOf]; omega
        · go_wp2_with fail
          go_ret
          exact ⟨rfl, G11⟩
end Go.Proofs.Ytmigejcejnofiaa
