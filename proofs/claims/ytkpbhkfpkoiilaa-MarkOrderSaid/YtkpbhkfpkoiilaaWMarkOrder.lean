/- The call MarkOrder answers true at any three lists of ints of at most 17592186043904 elements each; nothing that lay there turns. -/
import Derived.Test.YtkpbhkfpkoiilaaAlive1
namespace Go.Proofs.Ytkpbhkfpkoiilaa
open Go.RowKit Go.Tok
set_option linter.unusedVariables false


set_option maxHeartbeats 4000000 in
set_option maxRecDepth 100000 in
theorem MarkOrder_A (v0 v1 v2 : Value) (a b c : List Int) (w : World) (h0 : Ints w v0 a) (h1 : Ints w v1 b) (h2 : Ints w v2 c) (l0 : a.length ≤ 17592186043904) (l1 : b.length ≤ 17592186043904)
    {ab ba bc : Bool} (hab : coversB a b = ab) (hba : coversB b a = ba) (hbc : coversB b c = bc) (hra : rightB a = false) :
    Calls Try.prog 7 #[v0, v1, v2] w fun e w' => e = .returned (.bool true) ∧ Gr w w' := by
  have haa := covers_refl a
  have hs := same_covers a b
  rw [hab, hba] at hs
  have hac : ab = true → bc = true → coversB a c = true := fun e1 e2 => covers_trans (hab.trans e1) (hbc.trans e2)
  cases ab <;> cases ba <;> cases bc <;> simp only [Bool.and_true, Bool.and_false, Bool.and_self, true_imp_iff, Bool.false_eq_true, false_imp_iff] at hs hac
  all_goals
    go_enter Try.func7, Try.ntmps7
    go_wp2_with fail
    refine (alive1_calls _).mono ?_
    rintro _ w1 ⟨rfl, g1⟩
    go_wp2_with fail
    refine (Right_calls _ a _ (by (repeat (first | assumption | exact Ints.nil _ | exact Ints.lit (by simp) rfl rfl rfl (by decide) (by decide) | apply Ints.alloc | apply Ints.drew | refine Ints.gr ?_ (show Gr _ _ from by assumption))))).mono ?_
    rw [hra]; rintro _ _ ⟨rfl, rfl⟩
    have j0 : Ints w1 v0 a := by (repeat (first | assumption | exact Ints.nil _ | exact Ints.lit (by simp) rfl rfl rfl (by decide) (by decide) | apply Ints.alloc | apply Ints.drew | refine Ints.gr ?_ (show Gr _ _ from by assumption)))
    have j1 : Ints w1 v1 b := by (repeat (first | assumption | exact Ints.nil _ | exact Ints.lit (by simp) rfl rfl rfl (by decide) (by decide) | apply Ints.alloc | apply Ints.drew | refine Ints.gr ?_ (show Gr _ _ from by assumption)))
    have j2 : Ints w1 v2 c := by (repeat (first | assumption | exact Ints.nil _ | exact Ints.lit (by simp) rfl rfl rfl (by decide) (by decide) | apply Ints.alloc | apply Ints.drew | refine Ints.gr ?_ (show Gr _ _ from by assumption)))
    clear h0 h1 h2
    go_wp2_with (first | (go_at_call 25; refine (Covers_calls _ _ _ _ _ (by assumption) (by assumption)).mono ?_; rintro e w' ⟨rfl, rfl⟩) | (go_at_call 23; refine (Same_calls _ _ _ _ _ (by assumption) (by assumption)).mono ?_; rintro e w' ⟨rfl, rfl⟩))
    go_ret
    exact ⟨rfl, by (repeat (first | exact Gr.refl _ | assumption | apply Gr.alloc | apply Gr.drew | apply Gr.drewN | refine Gr.trans ?_ (by assumption)))⟩

set_option maxHeartbeats 4000000 in
set_option maxRecDepth 100000 in
theorem MarkOrder_B (v0 v1 v2 : Value) (a b c : List Int) (w : World) (h0 : Ints w v0 a) (h1 : Ints w v1 b) (h2 : Ints w v2 c) (l0 : a.length ≤ 17592186043904) (l1 : b.length ≤ 17592186043904)
    {ab ba bc : Bool} (hab : coversB a b = ab) (hba : coversB b a = ba) (hbc : coversB b c = bc) (hra : rightB a = true) (hrb : rightB b = false) :
    Calls Try.prog 7 #[v0, v1, v2] w fun e w' => e = .returned (.bool true) ∧ Gr w w' := by
  have haa := covers_refl a
  have hs := same_covers a b
  rw [hab, hba] at hs
  have hac : ab = true → bc = true → coversB a c = true := fun e1 e2 => covers_trans (hab.trans e1) (hbc.trans e2)
  cases ab <;> cases ba <;> cases bc <;> simp only [Bool.and_true, Bool.and_false, Bool.and_self, true_imp_iff, Bool.false_eq_true, false_imp_iff] at hs hac
  all_goals
    go_enter Try.func7, Try.ntmps7
    go_wp2_with fail
    refine (alive1_calls _).mono ?_
    rintro _ w1 ⟨rfl, g1⟩
    go_wp2_with fail
    refine (Right_calls _ a _ (by (repeat (first | assumption | exact Ints.nil _ | exact Ints.lit (by simp) rfl rfl rfl (by decide) (by decide) | apply Ints.alloc | apply Ints.drew | refine Ints.gr ?_ (show Gr _ _ from by assumption))))).mono ?_
    rw [hra]; rintro _ _ ⟨rfl, rfl⟩
    go_wp2_with fail
    refine (Right_calls _ b _ (by (repeat (first | assumption | exact Ints.nil _ | exact Ints.lit (by simp) rfl rfl rfl (by decide) (by decide) | apply Ints.alloc | apply Ints.drew | refine Ints.gr ?_ (show Gr _ _ from by assumption))))).mono ?_
    rw [hrb]; rintro _ _ ⟨rfl, rfl⟩
    have j0 : Ints w1 v0 a := by (repeat (first | assumption | exact Ints.nil _ | exact Ints.lit (by simp) rfl rfl rfl (by decide) (by decide) | apply Ints.alloc | apply Ints.drew | refine Ints.gr ?_ (show Gr _ _ from by assumption)))
    have j1 : Ints w1 v1 b := by (repeat (first | assumption | exact Ints.nil _ | exact Ints.lit (by simp) rfl rfl rfl (by decide) (by decide) | apply Ints.alloc | apply Ints.drew | refine Ints.gr ?_ (show Gr _ _ from by assumption)))
    have j2 : Ints w1 v2 c := by (repeat (first | assumption | exact Ints.nil _ | exact Ints.lit (by simp) rfl rfl rfl (by decide) (by decide) | apply Ints.alloc | apply Ints.drew | refine Ints.gr ?_ (show Gr _ _ from by assumption)))
    clear h0 h1 h2
    go_wp2_with (first | (go_at_call 25; refine (Covers_calls _ _ _ _ _ (by assumption) (by assumption)).mono ?_; rintro e w' ⟨rfl, rfl⟩) | (go_at_call 23; refine (Same_calls _ _ _ _ _ (by assumption) (by assumption)).mono ?_; rintro e w' ⟨rfl, rfl⟩))
    go_ret
    exact ⟨rfl, by (repeat (first | exact Gr.refl _ | assumption | apply Gr.alloc | apply Gr.drew | apply Gr.drewN | refine Gr.trans ?_ (by assumption)))⟩

set_option maxHeartbeats 4000000 in
set_option maxRecDepth 100000 in
theorem MarkOrder_C (v0 v1 v2 : Value) (a b c : List Int) (w : World) (h0 : Ints w v0 a) (h1 : Ints w v1 b) (h2 : Ints w v2 c) (l0 : a.length ≤ 17592186043904) (l1 : b.length ≤ 17592186043904)
    {ba bc : Bool} (hab : coversB a b = true) (hba : coversB b a = ba) (hbc : coversB b c = bc) (hra : rightB a = true) (hrb : rightB b = true) {L Y : List Int} (hL : zipF minusf a b = (L, 0)) (hY : zipF plusf L b = (Y, 0)) (hYa : sameB Y a = true) (lL : L.length ≤ 17592186043904) :
    Calls Try.prog 7 #[v0, v1, v2] w fun e w' => e = .returned (.bool true) ∧ Gr w w' := by
  have haa := covers_refl a
  have hs := same_covers a b
  rw [hab, hba] at hs
  have hac : bc = true → coversB a c = true := fun e2 => covers_trans hab (hbc.trans e2)
  have HL := Lib.hid hL
  have HY := Lib.hid hY
  clear hL hY
  cases ba <;> cases bc <;> simp only [Bool.and_false, Bool.and_self, true_imp_iff, Bool.false_eq_true, false_imp_iff] at hs hac
  all_goals
    go_enter Try.func7, Try.ntmps7
    go_wp2_with fail
    refine (alive1_calls _).mono ?_
    rintro _ w1 ⟨rfl, g1⟩
    go_wp2_with fail
    refine (Right_calls _ a _ (by (repeat (first | assumption | exact Ints.nil _ | exact Ints.lit (by simp) rfl rfl rfl (by decide) (by decide) | apply Ints.alloc | apply Ints.drew | refine Ints.gr ?_ (show Gr _ _ from by assumption))))).mono ?_
    rw [hra]; rintro _ _ ⟨rfl, rfl⟩
    go_wp2_with fail
    refine (Right_calls _ b _ (by (repeat (first | assumption | exact Ints.nil _ | exact Ints.lit (by simp) rfl rfl rfl (by decide) (by decide) | apply Ints.alloc | apply Ints.drew | refine Ints.gr ?_ (show Gr _ _ from by assumption))))).mono ?_
    rw [hrb]; rintro _ _ ⟨rfl, rfl⟩
    go_wp2_with fail
    refine (Minus_calls _ _ a b _ (by (repeat (first | assumption | exact Ints.nil _ | exact Ints.lit (by simp) rfl rfl rfl (by decide) (by decide) | apply Ints.alloc | apply Ints.drew | refine Ints.gr ?_ (show Gr _ _ from by assumption)))) (by (repeat (first | assumption | exact Ints.nil _ | exact Ints.lit (by simp) rfl rfl rfl (by decide) (by decide) | apply Ints.alloc | apply Ints.drew | refine Ints.gr ?_ (show Gr _ _ from by assumption)))) (by omega) (by omega)).mono ?_
    rw [HL.out]; rintro _ w3 ⟨v3, rfl, i3, g3⟩
    go_wp2_with fail
    refine (Covers_calls _ _ a b _ (by (repeat (first | assumption | exact Ints.nil _ | exact Ints.lit (by simp) rfl rfl rfl (by decide) (by decide) | apply Ints.alloc | apply Ints.drew | refine Ints.gr ?_ (show Gr _ _ from by assumption)))) (by (repeat (first | assumption | exact Ints.nil _ | exact Ints.lit (by simp) rfl rfl rfl (by decide) (by decide) | apply Ints.alloc | apply Ints.drew | refine Ints.gr ?_ (show Gr _ _ from by assumption))))).mono ?_
    rw [hab]; rintro _ _ ⟨rfl, rfl⟩
    go_wp2_with fail
    refine (Plus_calls _ _ L b _ (by (repeat (first | assumption | exact Ints.nil _ | exact Ints.lit (by simp) rfl rfl rfl (by decide) (by decide) | apply Ints.alloc | apply Ints.drew | refine Ints.gr ?_ (show Gr _ _ from by assumption)))) (by (repeat (first | assumption | exact Ints.nil _ | exact Ints.lit (by simp) rfl rfl rfl (by decide) (by decide) | apply Ints.alloc | apply Ints.drew | refine Ints.gr ?_ (show Gr _ _ from by assumption)))) (by omega) (by omega)).mono ?_
    rw [HY.out]; rintro _ w4 ⟨v4, rfl, i4, g4⟩
    go_wp2_with fail
    refine (Same_calls _ _ Y a _ (by (repeat (first | assumption | exact Ints.nil _ | exact Ints.lit (by simp) rfl rfl rfl (by decide) (by decide) | apply Ints.alloc | apply Ints.drew | refine Ints.gr ?_ (show Gr _ _ from by assumption)))) (by (repeat (first | assumption | exact Ints.nil _ | exact Ints.lit (by simp) rfl rfl rfl (by decide) (by decide) | apply Ints.alloc | apply Ints.drew | refine Ints.gr ?_ (show Gr _ _ from by assumption))))).mono ?_
    rw [hYa]; rintro _ _ ⟨rfl, rfl⟩
    have j0 : Ints w4 v0 a := by (repeat (first | assumption | exact Ints.nil _ | exact Ints.lit (by simp) rfl rfl rfl (by decide) (by decide) | apply Ints.alloc | apply Ints.drew | refine Ints.gr ?_ (show Gr _ _ from by assumption)))
    have j1 : Ints w4 v1 b := by (repeat (first | assumption | exact Ints.nil _ | exact Ints.lit (by simp) rfl rfl rfl (by decide) (by decide) | apply Ints.alloc | apply Ints.drew | refine Ints.gr ?_ (show Gr _ _ from by assumption)))
    have j2 : Ints w4 v2 c := by (repeat (first | assumption | exact Ints.nil _ | exact Ints.lit (by simp) rfl rfl rfl (by decide) (by decide) | apply Ints.alloc | apply Ints.drew | refine Ints.gr ?_ (show Gr _ _ from by assumption)))
    clear h0 h1 h2
    go_wp2_with (first | (go_at_call 25; refine (Covers_calls _ _ _ _ _ (by assumption) (by assumption)).mono ?_; rintro e w' ⟨rfl, rfl⟩) | (go_at_call 23; refine (Same_calls _ _ _ _ _ (by assumption) (by assumption)).mono ?_; rintro e w' ⟨rfl, rfl⟩))
    go_ret
    exact ⟨rfl, by (repeat (first | exact Gr.refl _ | assumption | apply Gr.alloc | apply Gr.drew | apply Gr.drewN | refine Gr.trans ?_ (by assumption)))⟩

set_option maxHeartbeats 4000000 in
set_option maxRecDepth 100000 in
theorem MarkOrder_D (v0 v1 v2 : Value) (a b c : List Int) (w : World) (h0 : Ints w v0 a) (h1 : Ints w v1 b) (h2 : Ints w v2 c) (l0 : a.length ≤ 17592186043904) (l1 : b.length ≤ 17592186043904)
    {ba : Bool} (hab : coversB a b = false) (hba : coversB b a = ba) (hra : rightB a = true) (hrb : rightB b = true) {Y : List Int} {f : Int} (hL : zipF minusf a b = ([], 3)) (hY : zipF plusf [] b = (Y, f)) :
    Calls Try.prog 7 #[v0, v1, v2] w fun e w' => e = .returned (.bool true) ∧ Gr w w' := by
  have haa := covers_refl a
  have hs := same_covers a b
  rw [hab, hba] at hs
  have HL := Lib.hid hL
  have HY := Lib.hid hY
  clear hL hY
  have lL : ([] : List Int).length ≤ 17592186043904 := by simp
  cases ba <;> simp only [Bool.and_true, Bool.and_self] at hs
  all_goals
    go_enter Try.func7, Try.ntmps7
    go_wp2_with fail
    refine (alive1_calls _).mono ?_
    rintro _ w1 ⟨rfl, g1⟩
    go_wp2_with fail
    refine (Right_calls _ a _ (by (repeat (first | assumption | exact Ints.nil _ | exact Ints.lit (by simp) rfl rfl rfl (by decide) (by decide) | apply Ints.alloc | apply Ints.drew | refine Ints.gr ?_ (show Gr _ _ from by assumption))))).mono ?_
    rw [hra]; rintro _ _ ⟨rfl, rfl⟩
    go_wp2_with fail
    refine (Right_calls _ b _ (by (repeat (first | assumption | exact Ints.nil _ | exact Ints.lit (by simp) rfl rfl rfl (by decide) (by decide) | apply Ints.alloc | apply Ints.drew | refine Ints.gr ?_ (show Gr _ _ from by assumption))))).mono ?_
    rw [hrb]; rintro _ _ ⟨rfl, rfl⟩
    go_wp2_with fail
    refine (Minus_calls _ _ a b _ (by (repeat (first | assumption | exact Ints.nil _ | exact Ints.lit (by simp) rfl rfl rfl (by decide) (by decide) | apply Ints.alloc | apply Ints.drew | refine Ints.gr ?_ (show Gr _ _ from by assumption)))) (by (repeat (first | assumption | exact Ints.nil _ | exact Ints.lit (by simp) rfl rfl rfl (by decide) (by decide) | apply Ints.alloc | apply Ints.drew | refine Ints.gr ?_ (show Gr _ _ from by assumption)))) (by omega) (by omega)).mono ?_
    rw [HL.out]; rintro _ w3 ⟨v3, rfl, i3, g3⟩
    go_wp2_with fail
    refine (Covers_calls _ _ a b _ (by (repeat (first | assumption | exact Ints.nil _ | exact Ints.lit (by simp) rfl rfl rfl (by decide) (by decide) | apply Ints.alloc | apply Ints.drew | refine Ints.gr ?_ (show Gr _ _ from by assumption)))) (by (repeat (first | assumption | exact Ints.nil _ | exact Ints.lit (by simp) rfl rfl rfl (by decide) (by decide) | apply Ints.alloc | apply Ints.drew | refine Ints.gr ?_ (show Gr _ _ from by assumption))))).mono ?_
    rw [hab]; rintro _ _ ⟨rfl, rfl⟩
    go_wp2_with fail
    refine (Plus_calls _ _ [] b _ (by (repeat (first | assumption | exact Ints.nil _ | exact Ints.lit (by simp) rfl rfl rfl (by decide) (by decide) | apply Ints.alloc | apply Ints.drew | refine Ints.gr ?_ (show Gr _ _ from by assumption)))) (by (repeat (first | assumption | exact Ints.nil _ | exact Ints.lit (by simp) rfl rfl rfl (by decide) (by decide) | apply Ints.alloc | apply Ints.drew | refine Ints.gr ?_ (show Gr _ _ from by assumption)))) (by omega) (by omega)).mono ?_
    rw [HY.out]; rintro _ w4 ⟨v4, rfl, i4, g4⟩
    have j0 : Ints w4 v0 a := by (repeat (first | assumption | exact Ints.nil _ | exact Ints.lit (by simp) rfl rfl rfl (by decide) (by decide) | apply Ints.alloc | apply Ints.drew | refine Ints.gr ?_ (show Gr _ _ from by assumption)))
    have j1 : Ints w4 v1 b := by (repeat (first | assumption | exact Ints.nil _ | exact Ints.lit (by simp) rfl rfl rfl (by decide) (by decide) | apply Ints.alloc | apply Ints.drew | refine Ints.gr ?_ (show Gr _ _ from by assumption)))
    have j2 : Ints w4 v2 c := by (repeat (first | assumption | exact Ints.nil _ | exact Ints.lit (by simp) rfl rfl rfl (by decide) (by decide) | apply Ints.alloc | apply Ints.drew | refine Ints.gr ?_ (show Gr _ _ from by assumption)))
    clear h0 h1 h2
    go_wp2_with (first | (go_at_call 25; refine (Covers_calls _ _ _ _ _ (by assumption) (by assumption)).mono ?_; rintro e w' ⟨rfl, rfl⟩) | (go_at_call 23; refine (Same_calls _ _ _ _ _ (by assumption) (by assumption)).mono ?_; rintro e w' ⟨rfl, rfl⟩))
    go_ret
    exact ⟨rfl, by (repeat (first | exact Gr.refl _ | assumption | apply Gr.alloc | apply Gr.drew | apply Gr.drewN | refine Gr.trans ?_ (by assumption)))⟩

theorem MarkOrder_walk {v0 v1 v2 : Value} {a b c : List Int} (w : World) (h0 : Ints w v0 a ∧ a.length ≤ 17592186043904) (h1 : Ints w v1 b ∧ b.length ≤ 17592186043904) (h2 : Ints w v2 c ∧ c.length ≤ 17592186043904) :
    Calls Try.prog 7 #[v0, v1, v2] w fun e w' => e = .returned (.bool true) ∧ Gr w w' := by
  rcases bool_cases (rightB a) with ha | ha
  · rcases bool_cases (rightB b) with hb | hb
    · rcases bool_cases (coversB a b) with hab | hab
      · obtain ⟨L, Y, e1, e2, e3, e4⟩ := minus_plus ha hb hab
        exact MarkOrder_C v0 v1 v2 a b c w h0.1 h1.1 h2.1 h0.2 h1.2 hab rfl rfl ha hb e1 e2 e3 (by have := h0.2; have := h1.2; omega)
      · rcases hY : zipF plusf [] b with ⟨Y, f⟩
        exact MarkOrder_D v0 v1 v2 a b c w h0.1 h1.1 h2.1 h0.2 h1.2 hab rfl ha hb (minus_not ha hb hab) hY
    · exact MarkOrder_B v0 v1 v2 a b c w h0.1 h1.1 h2.1 h0.2 h1.2 rfl rfl rfl ha hb
  · exact MarkOrder_A v0 v1 v2 a b c w h0.1 h1.1 h2.1 h0.2 h1.2 rfl rfl rfl ha
end Go.Proofs.Ytkpbhkfpkoiilaa
