/- The call NetSwap answers true at any net, marking and two numbers that read as data (lists of at most 17592186043904 elements each); nothing that lay there turns. -/
import Derived.Test.YtkpbhkfpkoiilaaAlive2
import Derived.Test.YtkpbhkfpkoiilaaNetLaw
import Derived.Deep.RegionHeld3
namespace Go.Proofs.Ytkpbhkfpkoiilaa
open Go.RowKit Go.Tok
set_option linter.unusedVariables false

theorem NetSwap1_answers : Answers Try.prog 35 #[] over9 := by
  intro W x hx
  go_enter Try.func35, Try.ntmps35
  go_wp2
  go_ret
  exact ⟨ret_bool (over9_def x).symm, rfl⟩


set_option maxHeartbeats 2000000 in
set_option maxRecDepth 100000 in
theorem NetSwap_out (v u : Value) (N : NetD) (m : List Int) (t s : Int) (w : World) (hN : NetR w v N) (hu : Ints w u m) (ht : I64 t) (hs : I64 s) (lm : m.length ≤ 17592186043904) (hh : netOkB N = false ∨ (netOkB N = true ∧ (t < 0 ∨ (0 ≤ t ∧ s < 0) ∨ (0 ≤ t ∧ 0 ≤ s ∧ (N.trans.length : Int) ≤ t) ∨ (0 ≤ t ∧ 0 ≤ s ∧ t < N.trans.length ∧ (N.trans.length : Int) ≤ s) ∨ (0 ≤ t ∧ 0 ≤ s ∧ t < N.trans.length ∧ s < N.trans.length ∧ m.any over9 = true)))) :
    Calls Try.prog 10 #[v, u, .int .i64 t, .int .i64 s] w fun e w' => e = .returned (.bool true) ∧ Gr w w' := by
  have hN' := hN
  obtain ⟨a, cap, rfl, hnl, hncap, hpl, hT⟩ := hN.open_
  have hpl1 := hpl.1
  have hpl2 := hpl.2
  obtain ⟨ua, uc, rfl, ul, ul'⟩ := hu.len
  have ht1 := ht.1
  have ht2 := ht.2
  have hs1 := hs.1
  have hs2 := hs.2
  have eg : ∀ args w, (callFunc 35 args).run Try.prog w = .ok (.enter 35 args) w := (Go.Proofs.enters_of Try.func35 (by kernel_rfl) rfl)
  rcases hh with h | ⟨h, hh⟩
  · have e1 := wrongC_no h
    go_enter Try.func10, Try.ntmps10
    go_wp2_with fail
    refine (alive2_calls _).mono ?_
    rintro _ w1 ⟨rfl, g1⟩
    have B0 := box_cell g1 (i := 0) rfl
    have B1 := box_cell g1 (i := 1) rfl
    go_wp2_with fail
    refine (Wrong_calls _ N _ (by (repeat (first | assumption | refine NetR.gr ?_ (show Gr _ _ from by assumption) | apply NetR.alloc | apply NetR.drew)))).mono ?_
    rw [e1]; rintro _ w2 ⟨rfl, g2⟩
    go_wp2_with fail
    go_ret
    exact ⟨rfl, by (repeat (first | exact Gr.refl _ | assumption | apply Gr.alloc | apply Gr.drew | apply Gr.drewN | refine Gr.trans ?_ (by assumption)))⟩
  · have e1 := wrongC_yes h
    rcases hh with h1 | ⟨h0, h1⟩ | ⟨h0, h1, h2⟩ | ⟨h0, h1, h2, h3⟩ | ⟨h0, h1, h2, h3, h4⟩
    · go_enter Try.func10, Try.ntmps10
      go_wp2_with fail
      refine (alive2_calls _).mono ?_
      rintro _ w1 ⟨rfl, g1⟩
      have B0 := box_cell g1 (i := 0) rfl
      have B1 := box_cell g1 (i := 1) rfl
      go_wp2_with fail
      refine (Wrong_calls _ N _ (by (repeat (first | assumption | refine NetR.gr ?_ (show Gr _ _ from by assumption) | apply NetR.alloc | apply NetR.drew)))).mono ?_
      rw [e1]; rintro _ w2 ⟨rfl, g2⟩
      go_wp2_with fail
      go_ret
      exact ⟨rfl, by (repeat (first | exact Gr.refl _ | assumption | apply Gr.alloc | apply Gr.drew | apply Gr.drewN | refine Gr.trans ?_ (by assumption)))⟩
    · go_enter Try.func10, Try.ntmps10
      go_wp2_with fail
      refine (alive2_calls _).mono ?_
      rintro _ w1 ⟨rfl, g1⟩
      have B0 := box_cell g1 (i := 0) rfl
      have B1 := box_cell g1 (i := 1) rfl
      go_wp2_with fail
      refine (Wrong_calls _ N _ (by (repeat (first | assumption | refine NetR.gr ?_ (show Gr _ _ from by assumption) | apply NetR.alloc | apply NetR.drew)))).mono ?_
      rw [e1]; rintro _ w2 ⟨rfl, g2⟩
      go_wp2_with fail
      go_ret
      exact ⟨rfl, by (repeat (first | exact Gr.refl _ | assumption | apply Gr.alloc | apply Gr.drew | apply Gr.drewN | refine Gr.trans ?_ (by assumption)))⟩
    · go_enter Try.func10, Try.ntmps10
      go_wp2_with fail
      refine (alive2_calls _).mono ?_
      rintro _ w1 ⟨rfl, g1⟩
      have B0 := box_cell g1 (i := 0) rfl
      have B1 := box_cell g1 (i := 1) rfl
      go_wp2_with fail
      refine (Wrong_calls _ N _ (by (repeat (first | assumption | refine NetR.gr ?_ (show Gr _ _ from by assumption) | apply NetR.alloc | apply NetR.drew)))).mono ?_
      rw [e1]; rintro _ w2 ⟨rfl, g2⟩
      replace B0 : w2.cell? ⟨w.heap.size, 0, none⟩ = some (.int .i64 N.places) := by (repeat (first | (refine lit_at ?_ rfl; (focus (simp; done))) | assumption | refine cell_gr ?_ (show Gr _ _ from by assumption) | refine cell_gr ?_ ((Gr.refl _).alloc _)))
      replace B1 : w2.cell? ⟨w.heap.size, 1, none⟩ = some (.slice a N.trans.length cap) := by (repeat (first | (refine lit_at ?_ rfl; (focus (simp; done))) | assumption | refine cell_gr ?_ (show Gr _ _ from by assumption) | refine cell_gr ?_ ((Gr.refl _).alloc _)))
      go_wp2_with fail
      go_ret
      exact ⟨rfl, by (repeat (first | exact Gr.refl _ | assumption | apply Gr.alloc | apply Gr.drew | apply Gr.drewN | refine Gr.trans ?_ (by assumption)))⟩
    · go_enter Try.func10, Try.ntmps10
      go_wp2_with fail
      refine (alive2_calls _).mono ?_
      rintro _ w1 ⟨rfl, g1⟩
      have B0 := box_cell g1 (i := 0) rfl
      have B1 := box_cell g1 (i := 1) rfl
      go_wp2_with fail
      refine (Wrong_calls _ N _ (by (repeat (first | assumption | refine NetR.gr ?_ (show Gr _ _ from by assumption) | apply NetR.alloc | apply NetR.drew)))).mono ?_
      rw [e1]; rintro _ w2 ⟨rfl, g2⟩
      replace B0 : w2.cell? ⟨w.heap.size, 0, none⟩ = some (.int .i64 N.places) := by (repeat (first | (refine lit_at ?_ rfl; (focus (simp; done))) | assumption | refine cell_gr ?_ (show Gr _ _ from by assumption) | refine cell_gr ?_ ((Gr.refl _).alloc _)))
      replace B1 : w2.cell? ⟨w.heap.size, 1, none⟩ = some (.slice a N.trans.length cap) := by (repeat (first | (refine lit_at ?_ rfl; (focus (simp; done))) | assumption | refine cell_gr ?_ (show Gr _ _ from by assumption) | refine cell_gr ?_ ((Gr.refl _).alloc _)))
      go_wp2_with fail
      go_ret
      exact ⟨rfl, by (repeat (first | exact Gr.refl _ | assumption | apply Gr.alloc | apply Gr.drew | apply Gr.drewN | refine Gr.trans ?_ (by assumption)))⟩
    · go_enter Try.func10, Try.ntmps10
      go_wp2_with fail
      refine (alive2_calls _).mono ?_
      rintro _ w1 ⟨rfl, g1⟩
      have B0 := box_cell g1 (i := 0) rfl
      have B1 := box_cell g1 (i := 1) rfl
      go_wp2_with fail
      refine (Wrong_calls _ N _ (by (repeat (first | assumption | refine NetR.gr ?_ (show Gr _ _ from by assumption) | apply NetR.alloc | apply NetR.drew)))).mono ?_
      rw [e1]; rintro _ w2 ⟨rfl, g2⟩
      replace B0 : w2.cell? ⟨w.heap.size, 0, none⟩ = some (.int .i64 N.places) := by (repeat (first | (refine lit_at ?_ rfl; (focus (simp; done))) | assumption | refine cell_gr ?_ (show Gr _ _ from by assumption) | refine cell_gr ?_ ((Gr.refl _).alloc _)))
      replace B1 : w2.cell? ⟨w.heap.size, 1, none⟩ = some (.slice a N.trans.length cap) := by (repeat (first | (refine lit_at ?_ rfl; (focus (simp; done))) | assumption | refine cell_gr ?_ (show Gr _ _ from by assumption) | refine cell_gr ?_ ((Gr.refl _).alloc _)))
      go_wp2_with fail
      refine (ContainsFunc_calls _ m _ _ over9 _ eg (by (repeat (first | assumption | exact Ints.nil _ | (refine Ints.lit ?_ rfl rfl rfl ?_ ?_; ((focus (simp; done))); all_goals decide) | apply Ints.alloc | apply Ints.drew | refine Ints.gr ?_ (show Gr _ _ from by assumption)))) NetSwap1_answers).mono ?_
      rw [h4]; rintro _ _ ⟨rfl, rfl⟩
      go_wp2_with fail
      go_ret
      exact ⟨rfl, by (repeat (first | exact Gr.refl _ | assumption | apply Gr.alloc | apply Gr.drew | apply Gr.drewN | refine Gr.trans ?_ (by assumption)))⟩

set_option maxHeartbeats 4000000 in
set_option maxRecDepth 100000 in
theorem NetSwap_in (v u : Value) (N : NetD) (m : List Int) (t s : Nat) (w : World) (hN : NetR w v N) (hu : Ints w u m) (lm : m.length ≤ 17592186043904) (h : netOkB N = true) (h2 : t < N.trans.length) (h3 : s < N.trans.length) (h4 : m.any over9 = false) :
    Calls Try.prog 10 #[v, u, .int .i64 t, .int .i64 s] w fun e w' => e = .returned (.bool true) ∧ Gr w w' := by
  have hN' := hN
  obtain ⟨a, cap, rfl, hnl, hncap, hpl, hT⟩ := hN.open_
  have hpl1 := hpl.1
  have hpl2 := hpl.2
  obtain ⟨ua, uc, rfl, ul, ul'⟩ := hu.len
  have eg : ∀ args w, (callFunc 35 args).run Try.prog w = .ok (.enter 35 args) w := (Go.Proofs.enters_of Try.func35 (by kernel_rfl) rfl)
  have e1 := wrongC_yes h
  have HO := Lib.hid h
  obtain ⟨L, p1, p2, p3⟩ := pre_both h h2 h3
  have P1 := Lib.hid p1
  have P3 := Lib.hid p3
  have lp : (N.tr t).pre.length ≤ 16 ∧ (N.tr s).pre.length ≤ 16 := by
    have := (netOk_tr h h2).pre
    have := (netOk_tr h h3).pre
    have h16 : N.places ≤ 16 := by
      unfold netOkB at h
      simp only [Bool.and_eq_true, decide_eq_true_eq] at h
      omega
    omega
  obtain ⟨lp1, lp2⟩ := lp
  have l24 : N.trans.length ≤ 24 := by
    unfold netOkB at h
    simp only [Bool.and_eq_true, decide_eq_true_eq] at h
    omega
  clear p1 p3 h
  obtain ⟨b, o, vp, vq, rfl, c0, c1, c2, hlab, hp, hq⟩ := hT.at_ h2
  obtain ⟨b', o', vp', vq', hbo, c0', c1', c2', hlab', hp', hq'⟩ := hT.at_ h3
  cases hbo
  have i1 : (0 : Int) ≤ (t : Int) := by omega
  have i2 : (t : Int) < (N.trans.length : Int) := by omega
  have i3 : (0 : Int) ≤ (s : Int) := by omega
  have i4 : (s : Int) < (N.trans.length : Int) := by omega
  go_enter Try.func10, Try.ntmps10
  go_wp2_with fail
  refine (alive2_calls _).mono ?_
  rintro _ w1 ⟨rfl, g1⟩
  have B0 := box_cell g1 (i := 0) rfl
  have B1 := box_cell g1 (i := 1) rfl
  go_wp2_with fail
  refine (Wrong_calls _ N _ (by (repeat (first | assumption | refine NetR.gr ?_ (show Gr _ _ from by assumption) | apply NetR.alloc | apply NetR.drew)))).mono ?_
  rw [e1]; rintro _ w2 ⟨rfl, g2⟩
  replace B0 := cell_gr B0 g2
  replace B1 := cell_gr B1 g2
  go_wp2_with fail
  refine (ContainsFunc_calls _ m _ _ over9 _ eg (by (repeat (first | assumption | exact Ints.nil _ | (refine Ints.lit ?_ rfl rfl rfl ?_ ?_; ((focus (simp; done))); all_goals decide) | apply Ints.alloc | apply Ints.drew | refine Ints.gr ?_ (show Gr _ _ from by assumption)))) NetSwap1_answers).mono ?_
  rw [h4]; rintro _ _ ⟨rfl, rfl⟩
  go_wp2_with fail
  have G := box_gr (g1.trans g2)
  have C1 := cell_gr c1 G
  have C2 := cell_gr c1' G
  have J1 := hp.gr G
  have J2 := hp'.gr G
  go_region_held3 (fun w' => w'.cell? ⟨w.heap.size, 1, none⟩ = some (.slice (some ⟨b, o, none⟩) N.trans.length cap) ∧ w'.cell? ⟨b, o + t * 3 + 1, none⟩ = some vp ∧ w'.cell? ⟨b, o + s * 3 + 1, none⟩ = some vp') (first | go_keep | exact ⟨cell_gr B1 (by (repeat (first | exact Gr.refl _ | assumption | apply Gr.alloc | apply Gr.drew | apply Gr.drewN | refine Gr.trans ?_ (by assumption)))), cell_gr C1 (by (repeat (first | exact Gr.refl _ | assumption | apply Gr.alloc | apply Gr.drew | apply Gr.drewN | refine Gr.trans ?_ (by assumption)))), cell_gr C2 (by (repeat (first | exact Gr.refl _ | assumption | apply Gr.alloc | apply Gr.drew | apply Gr.drewN | refine Gr.trans ?_ (by assumption))))⟩) (first | (go_at_call 22; refine (Plus_calls _ _ (N.tr t).pre (N.tr s).pre _ (J1.gr (by (repeat (first | exact Gr.refl _ | assumption | apply Gr.alloc | apply Gr.drew | apply Gr.drewN | refine Gr.trans ?_ (by assumption))))) (J2.gr (by (repeat (first | exact Gr.refl _ | assumption | apply Gr.alloc | apply Gr.drew | apply Gr.drewN | refine Gr.trans ?_ (by assumption))))) (by omega) (by omega)).mono ?_; rw [P1.out]; rintro _ w3 ⟨v3, rfl, j3, g3⟩))
  replace B0 : w3.cell? ⟨w.heap.size, 0, none⟩ = some (.int .i64 N.places) := cell_gr B0 (by (repeat (first | exact Gr.refl _ | assumption | apply Gr.alloc | apply Gr.drew | apply Gr.drewN | refine Gr.trans ?_ (by assumption))))
  replace B1 := cell_gr (w' := w3) B1 (by (repeat (first | exact Gr.refl _ | assumption | apply Gr.alloc | apply Gr.drew | apply Gr.drewN | refine Gr.trans ?_ (by assumption))))
  by_cases k1 : (m.length : Int) = N.places
  case neg =>
    have k1' : ((m.length : Int) != N.places) = true := by simpa using k1
    clear k1
    go_wp2_with fail
    go_ret
    exact ⟨rfl, by (repeat (first | exact Gr.refl _ | assumption | apply Gr.alloc | apply Gr.drew | apply Gr.drewN | refine Gr.trans ?_ (by assumption)))⟩
  have k1' : ((m.length : Int) != N.places) = false := by simpa using k1
  have K1 := Lib.hid k1
  clear k1
  cases k2 : rightB m
  case false =>
    go_wp2_with fail
    refine (Right_calls _ m _ (by (repeat (first | assumption | exact Ints.nil _ | (refine Ints.lit ?_ rfl rfl rfl ?_ ?_; ((focus (simp; done))); all_goals decide) | apply Ints.alloc | apply Ints.drew | refine Ints.gr ?_ (show Gr _ _ from by assumption))))).mono ?_
    rw [k2]; rintro _ _ ⟨rfl, rfl⟩
    go_wp2_with fail
    go_ret
    exact ⟨rfl, by (repeat (first | exact Gr.refl _ | assumption | apply Gr.alloc | apply Gr.drew | apply Gr.drewN | refine Gr.trans ?_ (by assumption)))⟩
  cases k3 : coversB m L
  case false =>
    go_wp2_with fail
    refine (Right_calls _ m _ (by (repeat (first | assumption | exact Ints.nil _ | (refine Ints.lit ?_ rfl rfl rfl ?_ ?_; ((focus (simp; done))); all_goals decide) | apply Ints.alloc | apply Ints.drew | refine Ints.gr ?_ (show Gr _ _ from by assumption))))).mono ?_
    rw [k2]; rintro _ _ ⟨rfl, rfl⟩
    go_wp2_with fail
    refine (Covers_calls _ _ m L _ (by (repeat (first | assumption | exact Ints.nil _ | (refine Ints.lit ?_ rfl rfl rfl ?_ ?_; ((focus (simp; done))); all_goals decide) | apply Ints.alloc | apply Ints.drew | refine Ints.gr ?_ (show Gr _ _ from by assumption)))) (by (repeat (first | assumption | exact Ints.nil _ | (refine Ints.lit ?_ rfl rfl rfl ?_ ?_; ((focus (simp; done))); all_goals decide) | apply Ints.alloc | apply Ints.drew | refine Ints.gr ?_ (show Gr _ _ from by assumption))))).mono ?_
    rw [k3]; rintro _ _ ⟨rfl, rfl⟩
    go_wp2_with fail
    go_ret
    exact ⟨rfl, by (repeat (first | exact Gr.refl _ | assumption | apply Gr.alloc | apply Gr.drew | apply Gr.drewN | refine Gr.trans ?_ (by assumption)))⟩
  obtain ⟨x, r1, r2⟩ := net_swap (fits_mk HO.out K1.out k2) h2 h3 (over9_all h4) P3.out k3
  have R1 := Lib.hid r1
  have R2 := Lib.hid r2
  have e3 := eqB_yes (rfl : x = x)
  have z1 : I64 (t : Int) := i64_nat (by omega)
  have z2 : I64 (s : Int) := i64_nat (by omega)
  have z3 : ∀ y ∈ [(t : Int), (s : Int)], I64 y := by simp [z1, z2]
  have z4 : ∀ y ∈ [(s : Int), (t : Int)], I64 y := by simp [z1, z2]
  have Z3 := Lib.hid z3
  have Z4 := Lib.hid z4
  clear r1 r2 z1 z2 z3 z4
  go_wp2_with fail
  refine (Right_calls _ m _ (by (repeat (first | assumption | exact Ints.nil _ | (refine Ints.lit ?_ rfl rfl rfl ?_ ?_; ((focus (simp; done))); all_goals decide) | apply Ints.alloc | apply Ints.drew | refine Ints.gr ?_ (show Gr _ _ from by assumption))))).mono ?_
  rw [k2]; rintro _ _ ⟨rfl, rfl⟩
  go_wp2_with fail
  refine (Covers_calls _ _ m L _ (by (repeat (first | assumption | exact Ints.nil _ | (refine Ints.lit ?_ rfl rfl rfl ?_ ?_; ((focus (simp; done))); all_goals decide) | apply Ints.alloc | apply Ints.drew | refine Ints.gr ?_ (show Gr _ _ from by assumption)))) (by (repeat (first | assumption | exact Ints.nil _ | (refine Ints.lit ?_ rfl rfl rfl ?_ ?_; ((focus (simp; done))); all_goals decide) | apply Ints.alloc | apply Ints.drew | refine Ints.gr ?_ (show Gr _ _ from by assumption))))).mono ?_
  rw [k3]; rintro _ _ ⟨rfl, rfl⟩
  go_wp2_with fail
  refine (Run_calls _ _ _ N m [(t : Int), (s : Int)] _ (by (repeat (first | assumption | refine NetR.gr ?_ (show Gr _ _ from by assumption) | apply NetR.alloc | apply NetR.drew))) (by (repeat (first | assumption | exact Ints.nil _ | (refine Ints.lit ?_ rfl rfl rfl ?_ ?_; ((focus (simp; done))); all_goals decide) | apply Ints.alloc | apply Ints.drew | refine Ints.gr ?_ (show Gr _ _ from by assumption)))) (Ints.lit rfl rfl rfl rfl Z3.out (by simp))).mono ?_
  rw [R1.out]; rintro _ w4 ⟨v4, rfl, i4, g4⟩
  replace B0 : w4.cell? ⟨w.heap.size, 0, none⟩ = some (.int .i64 N.places) := cell_gr B0 (by (repeat (first | exact Gr.refl _ | assumption | apply Gr.alloc | apply Gr.drew | apply Gr.drewN | refine Gr.trans ?_ (by assumption))))
  replace B1 := cell_gr (w' := w4) B1 (by (repeat (first | exact Gr.refl _ | assumption | apply Gr.alloc | apply Gr.drew | apply Gr.drewN | refine Gr.trans ?_ (by assumption))))
  go_wp2_with fail
  refine (Run_calls _ _ _ N m [(s : Int), (t : Int)] _ (by (repeat (first | assumption | refine NetR.gr ?_ (show Gr _ _ from by assumption) | apply NetR.alloc | apply NetR.drew))) (by (repeat (first | assumption | exact Ints.nil _ | (refine Ints.lit ?_ rfl rfl rfl ?_ ?_; ((focus (simp; done))); all_goals decide) | apply Ints.alloc | apply Ints.drew | refine Ints.gr ?_ (show Gr _ _ from by assumption)))) (Ints.lit rfl rfl rfl rfl Z4.out (by simp))).mono ?_
  rw [R2.out]; rintro _ w5 ⟨v5, rfl, i5, g5⟩
  go_wp2_with fail
  refine (Equal_calls _ _ x x _ (by (repeat (first | assumption | exact Ints.nil _ | (refine Ints.lit ?_ rfl rfl rfl ?_ ?_; ((focus (simp; done))); all_goals decide) | apply Ints.alloc | apply Ints.drew | refine Ints.gr ?_ (show Gr _ _ from by assumption)))) (by (repeat (first | assumption | exact Ints.nil _ | (refine Ints.lit ?_ rfl rfl rfl ?_ ?_; ((focus (simp; done))); all_goals decide) | apply Ints.alloc | apply Ints.drew | refine Ints.gr ?_ (show Gr _ _ from by assumption))))).mono ?_
  rw [e3]; rintro _ w6 ⟨rfl, g6⟩
  go_wp2_with fail
  go_ret
  exact ⟨rfl, by (repeat (first | exact Gr.refl _ | assumption | apply Gr.alloc | apply Gr.drew | apply Gr.drewN | refine Gr.trans ?_ (by assumption)))⟩

theorem NetSwap_walk {v u : Value} {N : NetD} {m : List Int} {t s : Int} (w : World) (hN : NetR w v N) (hu : Ints w u m ∧ m.length ≤ 17592186043904) (ht : I64 t) (hs : I64 s) :
    Calls Try.prog 10 #[v, u, .int .i64 t, .int .i64 s] w fun e w' => e = .returned (.bool true) ∧ Gr w w' := by
  by_cases hin : netOkB N = true ∧ 0 ≤ t ∧ 0 ≤ s ∧ t < N.trans.length ∧ s < N.trans.length ∧ m.any over9 = false
  · obtain ⟨h, h0, h1, h2, h3, h4⟩ := hin
    obtain ⟨t, rfl⟩ := Int.eq_ofNat_of_zero_le h0
    obtain ⟨s, rfl⟩ := Int.eq_ofNat_of_zero_le h1
    exact NetSwap_in v u N m t s w hN hu.1 hu.2 h (by omega) (by omega) h4
  · refine NetSwap_out v u N m t s w hN hu.1 ht hs hu.2 ?_
    rcases bool_cases (netOkB N) with h | h
    · refine .inr ⟨h, ?_⟩
      by_cases h0 : 0 ≤ t
      · by_cases h1 : 0 ≤ s
        · by_cases h2 : t < N.trans.length
          · by_cases h3 : s < N.trans.length
            · rcases bool_cases (m.any over9) with h4 | h4
              · exact .inr (.inr (.inr (.inr ⟨h0, h1, h2, h3, h4⟩)))
              · exact absurd ⟨h, h0, h1, h2, h3, h4⟩ hin
            · exact .inr (.inr (.inr (.inl ⟨h0, h1, h2, by omega⟩)))
          · exact .inr (.inr (.inl ⟨h0, h1, by omega⟩))
        · exact .inr (.inl ⟨h0, by omega⟩)
      · exact .inl (by omega)
    · exact .inl h
end Go.Proofs.Ytkpbhkfpkoiilaa
