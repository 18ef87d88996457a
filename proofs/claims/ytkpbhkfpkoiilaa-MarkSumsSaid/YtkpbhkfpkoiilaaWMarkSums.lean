/- The call MarkSums answers true at any three lists of ints of at most 17592186043904 elements each; nothing that lay there turns. -/
import Derived.Test.YtkpbhkfpkoiilaaAlive1
namespace Go.Proofs.Ytkpbhkfpkoiilaa
open Go.RowKit Go.Tok
set_option linter.unusedVariables false

set_option maxHeartbeats 1000000 in
set_option maxRecDepth 100000 in
theorem MarkSums_bad (v0 v1 v2 : Value) (a b : List Int) (w : World) (h0 : Ints w v0 a) (h1 : Ints w v1 b) (l0 : a.length ≤ 17592186043904) (l1 : b.length ≤ 17592186043904) {X : List Int} {e : Int} (hX : zipF plusf a b = (X, e)) (he : e ≠ 0) :
    Calls Try.prog 6 #[v0, v1, v2] w fun e w' => e = .returned (.bool true) ∧ Gr w w' := by
  obtain ⟨rfl, hee, hY⟩ := sums_bad hX he
  have e1 : sameB [] [] = true := by decide +kernel
  rcases hee with rfl | rfl
  all_goals
    clear he
    have HX := Lib.hid hX
    have HY := Lib.hid hY
    clear hX hY
    go_enter Try.func6, Try.ntmps6
    go_wp2_with fail
    refine (alive1_calls _).mono ?_
    rintro _ w1 ⟨rfl, g1⟩
    go_wp2_with fail
    refine (Plus_calls _ _ a b _ (by (repeat (first | assumption | exact Ints.nil _ | exact Ints.lit (by simp) rfl rfl rfl (by decide) (by decide) | apply Ints.alloc | apply Ints.drew | refine Ints.gr ?_ (show Gr _ _ from by assumption)))) (by (repeat (first | assumption | exact Ints.nil _ | exact Ints.lit (by simp) rfl rfl rfl (by decide) (by decide) | apply Ints.alloc | apply Ints.drew | refine Ints.gr ?_ (show Gr _ _ from by assumption)))) (by omega) (by omega)).mono ?_
    rw [HX.out]; rintro _ w2 ⟨v2, rfl, i2, g2⟩
    obtain ⟨a2, c2, rfl, q2, q2'⟩ := i2.len
    go_wp2_with fail
    refine (Plus_calls _ _ b a _ (by (repeat (first | assumption | exact Ints.nil _ | exact Ints.lit (by simp) rfl rfl rfl (by decide) (by decide) | apply Ints.alloc | apply Ints.drew | refine Ints.gr ?_ (show Gr _ _ from by assumption)))) (by (repeat (first | assumption | exact Ints.nil _ | exact Ints.lit (by simp) rfl rfl rfl (by decide) (by decide) | apply Ints.alloc | apply Ints.drew | refine Ints.gr ?_ (show Gr _ _ from by assumption)))) (by omega) (by omega)).mono ?_
    rw [HY.out]; rintro _ w3 ⟨v3, rfl, i3, g3⟩
    go_wp2_with fail
    refine (Same_calls _ _ [] [] _ (by (repeat (first | assumption | exact Ints.nil _ | exact Ints.lit (by simp) rfl rfl rfl (by decide) (by decide) | apply Ints.alloc | apply Ints.drew | refine Ints.gr ?_ (show Gr _ _ from by assumption)))) (by (repeat (first | assumption | exact Ints.nil _ | exact Ints.lit (by simp) rfl rfl rfl (by decide) (by decide) | apply Ints.alloc | apply Ints.drew | refine Ints.gr ?_ (show Gr _ _ from by assumption))))).mono ?_
    rw [e1]; rintro _ _ ⟨rfl, rfl⟩
    go_wp2_with fail
    go_ret
    exact ⟨rfl, by (repeat (first | exact Gr.refl _ | assumption | apply Gr.alloc | apply Gr.drew | apply Gr.drewN | refine Gr.trans ?_ (by assumption)))⟩

set_option maxHeartbeats 1000000 in
set_option maxRecDepth 100000 in
theorem MarkSums_full (v0 v1 v2 : Value) (a b c : List Int) (w : World) (h0 : Ints w v0 a) (h1 : Ints w v1 b) (h2 : Ints w v2 c) (l0 : a.length ≤ 17592186043904) (l1 : b.length ≤ 17592186043904) (l2 : c.length ≤ 17592186043904)
    {X Y Z U V W : List Int} {h i k : Int} (S : SumsGood a b X Y Z) (hU : zipF plusf X c = (U, h)) (hV : zipF plusf b c = (V, i)) (hW : zipF plusf a V = (W, k)) (hh : h ≠ 0) :
    Calls Try.prog 6 #[v0, v1, v2] w fun e w' => e = .returned (.bool true) ∧ Gr w w' := by
  have b1 : (h == 0) = false := by simpa using hh
  have b2 : (h != 0) = true := by simpa using hh
  have lX : X.length ≤ 17592186043904 := by rw [S.lX]; omega
  have lV : V.length ≤ 17592186043904 := by have := zip_len plusf b c; rw [hV] at this; simp only [] at this; omega
  have HU := Lib.hid hU
  have HV := Lib.hid hV
  have HW := Lib.hid hW
  have HS := Lib.hid S
  clear hU hV hW S hh
  go_enter Try.func6, Try.ntmps6
  go_wp2_with fail
  refine (alive1_calls _).mono ?_
  rintro _ w1 ⟨rfl, g1⟩
  go_wp2_with fail
  refine (Plus_calls _ _ a b _ (by (repeat (first | assumption | exact Ints.nil _ | exact Ints.lit (by simp) rfl rfl rfl (by decide) (by decide) | apply Ints.alloc | apply Ints.drew | refine Ints.gr ?_ (show Gr _ _ from by assumption)))) (by (repeat (first | assumption | exact Ints.nil _ | exact Ints.lit (by simp) rfl rfl rfl (by decide) (by decide) | apply Ints.alloc | apply Ints.drew | refine Ints.gr ?_ (show Gr _ _ from by assumption)))) (by omega) (by omega)).mono ?_
  rw [HS.out.hX]; rintro _ w3 ⟨v3, rfl, i3, g3⟩
  go_wp2_with fail
  refine (Plus_calls _ _ b a _ (by (repeat (first | assumption | exact Ints.nil _ | exact Ints.lit (by simp) rfl rfl rfl (by decide) (by decide) | apply Ints.alloc | apply Ints.drew | refine Ints.gr ?_ (show Gr _ _ from by assumption)))) (by (repeat (first | assumption | exact Ints.nil _ | exact Ints.lit (by simp) rfl rfl rfl (by decide) (by decide) | apply Ints.alloc | apply Ints.drew | refine Ints.gr ?_ (show Gr _ _ from by assumption)))) (by omega) (by omega)).mono ?_
  rw [HS.out.hY]; rintro _ w4 ⟨v4, rfl, i4, g4⟩
  go_wp2_with fail
  refine (Same_calls _ _ X Y _ (by (repeat (first | assumption | exact Ints.nil _ | exact Ints.lit (by simp) rfl rfl rfl (by decide) (by decide) | apply Ints.alloc | apply Ints.drew | refine Ints.gr ?_ (show Gr _ _ from by assumption)))) (by (repeat (first | assumption | exact Ints.nil _ | exact Ints.lit (by simp) rfl rfl rfl (by decide) (by decide) | apply Ints.alloc | apply Ints.drew | refine Ints.gr ?_ (show Gr _ _ from by assumption))))).mono ?_
  rw [HS.out.hXY]; rintro _ _ ⟨rfl, rfl⟩
  go_wp2_with fail
  refine (Minus_calls _ _ X b _ (by (repeat (first | assumption | exact Ints.nil _ | exact Ints.lit (by simp) rfl rfl rfl (by decide) (by decide) | apply Ints.alloc | apply Ints.drew | refine Ints.gr ?_ (show Gr _ _ from by assumption)))) (by (repeat (first | assumption | exact Ints.nil _ | exact Ints.lit (by simp) rfl rfl rfl (by decide) (by decide) | apply Ints.alloc | apply Ints.drew | refine Ints.gr ?_ (show Gr _ _ from by assumption)))) (by omega) (by omega)).mono ?_
  rw [HS.out.hZ]; rintro _ w5 ⟨v5, rfl, i5, g5⟩
  go_wp2_with fail
  refine (Plus_calls _ _ X c _ (by (repeat (first | assumption | exact Ints.nil _ | exact Ints.lit (by simp) rfl rfl rfl (by decide) (by decide) | apply Ints.alloc | apply Ints.drew | refine Ints.gr ?_ (show Gr _ _ from by assumption)))) (by (repeat (first | assumption | exact Ints.nil _ | exact Ints.lit (by simp) rfl rfl rfl (by decide) (by decide) | apply Ints.alloc | apply Ints.drew | refine Ints.gr ?_ (show Gr _ _ from by assumption)))) (by omega) (by omega)).mono ?_
  rw [HU.out]; rintro _ w6 ⟨v6, rfl, i6, g6⟩
  go_wp2_with fail
  refine (Plus_calls _ _ b c _ (by (repeat (first | assumption | exact Ints.nil _ | exact Ints.lit (by simp) rfl rfl rfl (by decide) (by decide) | apply Ints.alloc | apply Ints.drew | refine Ints.gr ?_ (show Gr _ _ from by assumption)))) (by (repeat (first | assumption | exact Ints.nil _ | exact Ints.lit (by simp) rfl rfl rfl (by decide) (by decide) | apply Ints.alloc | apply Ints.drew | refine Ints.gr ?_ (show Gr _ _ from by assumption)))) (by omega) (by omega)).mono ?_
  rw [HV.out]; rintro _ w7 ⟨v7, rfl, i7, g7⟩
  go_wp2_with fail
  refine (Plus_calls _ _ a V _ (by (repeat (first | assumption | exact Ints.nil _ | exact Ints.lit (by simp) rfl rfl rfl (by decide) (by decide) | apply Ints.alloc | apply Ints.drew | refine Ints.gr ?_ (show Gr _ _ from by assumption)))) (by (repeat (first | assumption | exact Ints.nil _ | exact Ints.lit (by simp) rfl rfl rfl (by decide) (by decide) | apply Ints.alloc | apply Ints.drew | refine Ints.gr ?_ (show Gr _ _ from by assumption)))) (by omega) (by omega)).mono ?_
  rw [HW.out]; rintro _ w8 ⟨v8, rfl, i8, g8⟩
  go_wp2_with fail
  refine (Same_calls _ _ Z a _ (by (repeat (first | assumption | exact Ints.nil _ | exact Ints.lit (by simp) rfl rfl rfl (by decide) (by decide) | apply Ints.alloc | apply Ints.drew | refine Ints.gr ?_ (show Gr _ _ from by assumption)))) (by (repeat (first | assumption | exact Ints.nil _ | exact Ints.lit (by simp) rfl rfl rfl (by decide) (by decide) | apply Ints.alloc | apply Ints.drew | refine Ints.gr ?_ (show Gr _ _ from by assumption))))).mono ?_
  rw [HS.out.hZa]; rintro _ _ ⟨rfl, rfl⟩
  go_wp2_with fail
  refine (Covers_calls _ _ X a _ (by (repeat (first | assumption | exact Ints.nil _ | exact Ints.lit (by simp) rfl rfl rfl (by decide) (by decide) | apply Ints.alloc | apply Ints.drew | refine Ints.gr ?_ (show Gr _ _ from by assumption)))) (by (repeat (first | assumption | exact Ints.nil _ | exact Ints.lit (by simp) rfl rfl rfl (by decide) (by decide) | apply Ints.alloc | apply Ints.drew | refine Ints.gr ?_ (show Gr _ _ from by assumption))))).mono ?_
  rw [HS.out.hc]; rintro _ _ ⟨rfl, rfl⟩
  go_wp2_with fail
  go_ret
  exact ⟨rfl, by (repeat (first | exact Gr.refl _ | assumption | apply Gr.alloc | apply Gr.drew | apply Gr.drewN | refine Gr.trans ?_ (by assumption)))⟩

set_option maxHeartbeats 1000000 in
set_option maxRecDepth 100000 in
theorem MarkSums_good (v0 v1 v2 : Value) (a b c : List Int) (w : World) (h0 : Ints w v0 a) (h1 : Ints w v1 b) (h2 : Ints w v2 c) (l0 : a.length ≤ 17592186043904) (l1 : b.length ≤ 17592186043904) (l2 : c.length ≤ 17592186043904)
    {X Y Z U V W : List Int} (S : SumsGood a b X Y Z) (hU : zipF plusf X c = (U, 0)) (hV : zipF plusf b c = (V, 0)) (hW : zipF plusf a V = (W, 0)) (hUW : sameB U W = true) :
    Calls Try.prog 6 #[v0, v1, v2] w fun e w' => e = .returned (.bool true) ∧ Gr w w' := by
  have lX : X.length ≤ 17592186043904 := by rw [S.lX]; omega
  have lV : V.length ≤ 17592186043904 := by have := zip_len plusf b c; rw [hV] at this; simp only [] at this; omega
  have HU := Lib.hid hU
  have HV := Lib.hid hV
  have HW := Lib.hid hW
  have HS := Lib.hid S
  clear hU hV hW S
  go_enter Try.func6, Try.ntmps6
  go_wp2_with fail
  refine (alive1_calls _).mono ?_
  rintro _ w1 ⟨rfl, g1⟩
  go_wp2_with fail
  refine (Plus_calls _ _ a b _ (by (repeat (first | assumption | exact Ints.nil _ | exact Ints.lit (by simp) rfl rfl rfl (by decide) (by decide) | apply Ints.alloc | apply Ints.drew | refine Ints.gr ?_ (show Gr _ _ from by assumption)))) (by (repeat (first | assumption | exact Ints.nil _ | exact Ints.lit (by simp) rfl rfl rfl (by decide) (by decide) | apply Ints.alloc | apply Ints.drew | refine Ints.gr ?_ (show Gr _ _ from by assumption)))) (by omega) (by omega)).mono ?_
  rw [HS.out.hX]; rintro _ w3 ⟨v3, rfl, i3, g3⟩
  go_wp2_with fail
  refine (Plus_calls _ _ b a _ (by (repeat (first | assumption | exact Ints.nil _ | exact Ints.lit (by simp) rfl rfl rfl (by decide) (by decide) | apply Ints.alloc | apply Ints.drew | refine Ints.gr ?_ (show Gr _ _ from by assumption)))) (by (repeat (first | assumption | exact Ints.nil _ | exact Ints.lit (by simp) rfl rfl rfl (by decide) (by decide) | apply Ints.alloc | apply Ints.drew | refine Ints.gr ?_ (show Gr _ _ from by assumption)))) (by omega) (by omega)).mono ?_
  rw [HS.out.hY]; rintro _ w4 ⟨v4, rfl, i4, g4⟩
  go_wp2_with fail
  refine (Same_calls _ _ X Y _ (by (repeat (first | assumption | exact Ints.nil _ | exact Ints.lit (by simp) rfl rfl rfl (by decide) (by decide) | apply Ints.alloc | apply Ints.drew | refine Ints.gr ?_ (show Gr _ _ from by assumption)))) (by (repeat (first | assumption | exact Ints.nil _ | exact Ints.lit (by simp) rfl rfl rfl (by decide) (by decide) | apply Ints.alloc | apply Ints.drew | refine Ints.gr ?_ (show Gr _ _ from by assumption))))).mono ?_
  rw [HS.out.hXY]; rintro _ _ ⟨rfl, rfl⟩
  go_wp2_with fail
  refine (Minus_calls _ _ X b _ (by (repeat (first | assumption | exact Ints.nil _ | exact Ints.lit (by simp) rfl rfl rfl (by decide) (by decide) | apply Ints.alloc | apply Ints.drew | refine Ints.gr ?_ (show Gr _ _ from by assumption)))) (by (repeat (first | assumption | exact Ints.nil _ | exact Ints.lit (by simp) rfl rfl rfl (by decide) (by decide) | apply Ints.alloc | apply Ints.drew | refine Ints.gr ?_ (show Gr _ _ from by assumption)))) (by omega) (by omega)).mono ?_
  rw [HS.out.hZ]; rintro _ w5 ⟨v5, rfl, i5, g5⟩
  go_wp2_with fail
  refine (Plus_calls _ _ X c _ (by (repeat (first | assumption | exact Ints.nil _ | exact Ints.lit (by simp) rfl rfl rfl (by decide) (by decide) | apply Ints.alloc | apply Ints.drew | refine Ints.gr ?_ (show Gr _ _ from by assumption)))) (by (repeat (first | assumption | exact Ints.nil _ | exact Ints.lit (by simp) rfl rfl rfl (by decide) (by decide) | apply Ints.alloc | apply Ints.drew | refine Ints.gr ?_ (show Gr _ _ from by assumption)))) (by omega) (by omega)).mono ?_
  rw [HU.out]; rintro _ w6 ⟨v6, rfl, i6, g6⟩
  go_wp2_with fail
  refine (Plus_calls _ _ b c _ (by (repeat (first | assumption | exact Ints.nil _ | exact Ints.lit (by simp) rfl rfl rfl (by decide) (by decide) | apply Ints.alloc | apply Ints.drew | refine Ints.gr ?_ (show Gr _ _ from by assumption)))) (by (repeat (first | assumption | exact Ints.nil _ | exact Ints.lit (by simp) rfl rfl rfl (by decide) (by decide) | apply Ints.alloc | apply Ints.drew | refine Ints.gr ?_ (show Gr _ _ from by assumption)))) (by omega) (by omega)).mono ?_
  rw [HV.out]; rintro _ w7 ⟨v7, rfl, i7, g7⟩
  go_wp2_with fail
  refine (Plus_calls _ _ a V _ (by (repeat (first | assumption | exact Ints.nil _ | exact Ints.lit (by simp) rfl rfl rfl (by decide) (by decide) | apply Ints.alloc | apply Ints.drew | refine Ints.gr ?_ (show Gr _ _ from by assumption)))) (by (repeat (first | assumption | exact Ints.nil _ | exact Ints.lit (by simp) rfl rfl rfl (by decide) (by decide) | apply Ints.alloc | apply Ints.drew | refine Ints.gr ?_ (show Gr _ _ from by assumption)))) (by omega) (by omega)).mono ?_
  rw [HW.out]; rintro _ w8 ⟨v8, rfl, i8, g8⟩
  go_wp2_with fail
  refine (Same_calls _ _ Z a _ (by (repeat (first | assumption | exact Ints.nil _ | exact Ints.lit (by simp) rfl rfl rfl (by decide) (by decide) | apply Ints.alloc | apply Ints.drew | refine Ints.gr ?_ (show Gr _ _ from by assumption)))) (by (repeat (first | assumption | exact Ints.nil _ | exact Ints.lit (by simp) rfl rfl rfl (by decide) (by decide) | apply Ints.alloc | apply Ints.drew | refine Ints.gr ?_ (show Gr _ _ from by assumption))))).mono ?_
  rw [HS.out.hZa]; rintro _ _ ⟨rfl, rfl⟩
  go_wp2_with fail
  refine (Same_calls _ _ U W _ (by (repeat (first | assumption | exact Ints.nil _ | exact Ints.lit (by simp) rfl rfl rfl (by decide) (by decide) | apply Ints.alloc | apply Ints.drew | refine Ints.gr ?_ (show Gr _ _ from by assumption)))) (by (repeat (first | assumption | exact Ints.nil _ | exact Ints.lit (by simp) rfl rfl rfl (by decide) (by decide) | apply Ints.alloc | apply Ints.drew | refine Ints.gr ?_ (show Gr _ _ from by assumption))))).mono ?_
  rw [hUW]; rintro _ _ ⟨rfl, rfl⟩
  go_wp2_with fail
  refine (Covers_calls _ _ X a _ (by (repeat (first | assumption | exact Ints.nil _ | exact Ints.lit (by simp) rfl rfl rfl (by decide) (by decide) | apply Ints.alloc | apply Ints.drew | refine Ints.gr ?_ (show Gr _ _ from by assumption)))) (by (repeat (first | assumption | exact Ints.nil _ | exact Ints.lit (by simp) rfl rfl rfl (by decide) (by decide) | apply Ints.alloc | apply Ints.drew | refine Ints.gr ?_ (show Gr _ _ from by assumption))))).mono ?_
  rw [HS.out.hc]; rintro _ _ ⟨rfl, rfl⟩
  go_wp2_with fail
  go_ret
  exact ⟨rfl, by (repeat (first | exact Gr.refl _ | assumption | apply Gr.alloc | apply Gr.drew | apply Gr.drewN | refine Gr.trans ?_ (by assumption)))⟩

theorem MarkSums_calls (v0 v1 v2 : Value) (a b c : List Int) (w : World) (h0 : Ints w v0 a) (h1 : Ints w v1 b) (h2 : Ints w v2 c) (l0 : a.length ≤ 17592186043904) (l1 : b.length ≤ 17592186043904) (l2 : c.length ≤ 17592186043904) :
    Calls Try.prog 6 #[v0, v1, v2] w fun e w' => e = .returned (.bool true) ∧ Gr w w' := by
  rcases hX : zipF plusf a b with ⟨X, e⟩
  by_cases he : e = 0
  · subst he
    obtain ⟨Y, Z, S⟩ := sums_good hX
    rcases hU : zipF plusf X c with ⟨U, h⟩
    by_cases hh : h = 0
    · subst hh
      obtain ⟨V, W, hV, hW, hUW⟩ := sums_three hX hU
      exact MarkSums_good v0 v1 v2 a b c w h0 h1 h2 l0 l1 l2 S hU hV hW hUW
    · rcases hV : zipF plusf b c with ⟨V, i⟩
      rcases hW : zipF plusf a V with ⟨W, k⟩
      exact MarkSums_full v0 v1 v2 a b c w h0 h1 h2 l0 l1 l2 S hU hV hW hh
  · exact MarkSums_bad v0 v1 v2 a b w h0 h1 l0 l1 hX he

theorem MarkSums_walk {v0 v1 v2 : Value} {a b c : List Int} (w : World) (h0 : Ints w v0 a ∧ a.length ≤ 17592186043904) (h1 : Ints w v1 b ∧ b.length ≤ 17592186043904) (h2 : Ints w v2 c ∧ c.length ≤ 17592186043904) :
    Calls Try.prog 6 #[v0, v1, v2] w fun e w' => e = .returned (.bool true) ∧ Gr w w' := MarkSums_calls v0 v1 v2 a b c w h0.1 h1.1 h2.1 h0.2 h1.2 h2.2
end Go.Proofs.Ytkpbhkfpkoiilaa
