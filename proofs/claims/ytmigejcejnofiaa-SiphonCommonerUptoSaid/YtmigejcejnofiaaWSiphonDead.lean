/- The call SiphonDead answers true at any net and marking that read as data (lists of at most 17592186043904 elements each); nothing that lay there turns. -/
import Derived.Test.YtmigejcejnofiaaAlive6
import Derived.Test.YtmigejcejnofiaaOrd
import Derived.Test.YtmigejcejnofiaaNet3
namespace Go.Proofs.Ytmigejcejnofiaa
open Go.RowKit Go.Tok
set_option linter.unusedVariables false

theorem lens2_of {N : NetD} (h : netOkB N = true) : ∀ k, k < N.trans.length → (N.tr k).pre.length + (N.tr k).post.length ≤ 17592186044000 := by
  intro k hk
  have := lens_of h _ (NetD.tr_mem hk)
  omega


set_option maxHeartbeats 4000000 in
set_option maxRecDepth 100000 in
theorem SiphonDead_walk {v u : Value} {N : NetD} {m : List Int} (w : World) (hN : NetR w v N) (h1 : Ints w u m ∧ m.length ≤ 17592186043904) :
    Calls Try.prog 9 #[v, u] w fun e w' => e = .returned (.bool true) ∧ Gr w w' := by
  obtain ⟨hu, lm⟩ := h1
  have T := intTy
  have hN' := hN
  obtain ⟨a, cap, rfl, hnl, hncap, hpl, hT⟩ := hN.open_
  have hpl1 := hpl.1
  have hpl2 := hpl.2
  obtain ⟨ua, uc, rfl, ul, ul'⟩ := hu.len
  cases hf : fitsB N m
  case false =>
    have HE := Lib.hid (enabledF_unfit hf)
    clear hf
    go_enter Try.func9, Try.ntmps9
    go_wp2_with fail
    refine (alive6_calls _).mono ?_
    rintro _ w1 ⟨rfl, g1⟩
    have B0 := box_cell g1 (i := 0) rfl
    have B1 := box_cell g1 (i := 1) rfl
    go_wp2_with fail
    refine (Enabled_calls _ _ N m _ (by (repeat (first | assumption | refine NetR.gr ?_ (show Gr _ _ from by assumption) | apply NetR.alloc | apply NetR.drew))) (by (repeat (first | assumption | exact Ints.nil _ | (refine Ints.lit ?_ rfl rfl rfl ?_ ?_; ((focus (simp; done))); all_goals decide) | apply Ints.alloc | apply Ints.drew | refine Ints.gr ?_ (show Gr _ _ from by assumption))))).mono ?_
    rw [HE.out]; rintro _ w2 ⟨v2, rfl, i2, g2⟩
    go_wp2_with fail
    go_ret
    exact ⟨rfl, by (repeat (first | exact Gr.refl _ | assumption | apply Gr.alloc | apply Gr.drew | apply Gr.drewN | refine Gr.trans ?_ (by assumption)))⟩
  have HE := Lib.hid (enabledF_fit hf)
  have hok := fits_ok hf
  by_cases hl : enabledL N m = []
  case neg =>
    have h0 : 0 < (enabledL N m).length := List.length_pos_iff.2 hl
    clear hf hl
    go_enter Try.func9, Try.ntmps9
    go_wp2_with fail
    refine (alive6_calls _).mono ?_
    rintro _ w1 ⟨rfl, g1⟩
    have B0 := box_cell g1 (i := 0) rfl
    have B1 := box_cell g1 (i := 1) rfl
    go_wp2_with fail
    refine (Enabled_calls _ _ N m _ (by (repeat (first | assumption | refine NetR.gr ?_ (show Gr _ _ from by assumption) | apply NetR.alloc | apply NetR.drew))) (by (repeat (first | assumption | exact Ints.nil _ | (refine Ints.lit ?_ rfl rfl rfl ?_ ?_; ((focus (simp; done))); all_goals decide) | apply Ints.alloc | apply Ints.drew | refine Ints.gr ?_ (show Gr _ _ from by assumption))))).mono ?_
    rw [HE.out]; rintro _ w2 ⟨v2, rfl, i2, g2⟩
    obtain ⟨a2, c2, rfl, q1, q2⟩ := i2.len
    go_wp2_with fail
    go_ret
    exact ⟨rfl, by (repeat (first | exact Gr.refl _ | assumption | apply Gr.alloc | apply Gr.drew | apply Gr.drewN | refine Gr.trans ?_ (by assumption)))⟩
  rw [hl] at HE
  have HO := Lib.hid (lens2_of hok)
  cases ho : ordB N
  case false =>
    clear hf hl
    go_enter Try.func9, Try.ntmps9
    go_wp2_with fail
    refine (alive6_calls _).mono ?_
    rintro _ w1 ⟨rfl, g1⟩
    have B0 := box_cell g1 (i := 0) rfl
    have B1 := box_cell g1 (i := 1) rfl
    go_wp2_with fail
    refine (Enabled_calls _ _ N m _ (by (repeat (first | assumption | refine NetR.gr ?_ (show Gr _ _ from by assumption) | apply NetR.alloc | apply NetR.drew))) (by (repeat (first | assumption | exact Ints.nil _ | (refine Ints.lit ?_ rfl rfl rfl ?_ ?_; ((focus (simp; done))); all_goals decide) | apply Ints.alloc | apply Ints.drew | refine Ints.gr ?_ (show Gr _ _ from by assumption))))).mono ?_
    rw [HE.out]; rintro _ w2 ⟨v2, rfl, i2, g2⟩
    obtain ⟨a2, c2, rfl, q1, q2⟩ := i2.len
    replace B0 : w2.cell? ⟨w.heap.size, 0, none⟩ = some (.int .i64 N.places) := by (repeat (first | (refine lit_at ?_ rfl; (focus (simp; done))) | assumption | refine cell_gr ?_ (show Gr _ _ from by assumption) | refine cell_gr ?_ ((Gr.refl _).alloc _)))
    replace B1 : w2.cell? ⟨w.heap.size, 1, none⟩ = some (.slice a N.trans.length cap) := by (repeat (first | (refine lit_at ?_ rfl; (focus (simp; done))) | assumption | refine cell_gr ?_ (show Gr _ _ from by assumption) | refine cell_gr ?_ ((Gr.refl _).alloc _)))
    go_wp2_with fail
    refine (ordinary_calls _ N _ (by (repeat (first | assumption | refine NetR.gr ?_ (show Gr _ _ from by assumption) | apply NetR.alloc | apply NetR.drew))) HO.out).mono ?_
    rw [ho]; rintro _ w3 ⟨rfl, g3⟩
    go_wp2_with fail
    go_ret
    exact ⟨rfl, by (repeat (first | exact Gr.refl _ | assumption | apply Gr.alloc | apply Gr.drew | apply Gr.drewN | refine Gr.trans ?_ (by assumption)))⟩
  obtain ⟨d1, d2⟩ := dead_none hf hl ho
  have hm16 : m.length ≤ 16 := by have := fits_sizes hf; omega
  have hd0 : 0 < (noneTo m m.length).length := List.length_pos_iff.2 d1
  clear hf hl d1 hok
  go_enter Try.func9, Try.ntmps9
  go_wp2_with fail
  refine (alive6_calls _).mono ?_
  rintro _ w1 ⟨rfl, g1⟩
  have B0 := box_cell g1 (i := 0) rfl
  have B1 := box_cell g1 (i := 1) rfl
  go_wp2_with fail
  refine (Enabled_calls _ _ N m _ (by (repeat (first | assumption | refine NetR.gr ?_ (show Gr _ _ from by assumption) | apply NetR.alloc | apply NetR.drew))) (by (repeat (first | assumption | exact Ints.nil _ | (refine Ints.lit ?_ rfl rfl rfl ?_ ?_; ((focus (simp; done))); all_goals decide) | apply Ints.alloc | apply Ints.drew | refine Ints.gr ?_ (show Gr _ _ from by assumption))))).mono ?_
  rw [HE.out]; rintro _ w2 ⟨v2, rfl, i2, g2⟩
  obtain ⟨a2, c2, rfl, q1, q2⟩ := i2.len
  replace B0 : w2.cell? ⟨w.heap.size, 0, none⟩ = some (.int .i64 N.places) := by (repeat (first | (refine lit_at ?_ rfl; (focus (simp; done))) | assumption | refine cell_gr ?_ (show Gr _ _ from by assumption) | refine cell_gr ?_ ((Gr.refl _).alloc _)))
  replace B1 : w2.cell? ⟨w.heap.size, 1, none⟩ = some (.slice a N.trans.length cap) := by (repeat (first | (refine lit_at ?_ rfl; (focus (simp; done))) | assumption | refine cell_gr ?_ (show Gr _ _ from by assumption) | refine cell_gr ?_ ((Gr.refl _).alloc _)))
  go_wp2_with fail
  refine (ordinary_calls _ N _ (by (repeat (first | assumption | refine NetR.gr ?_ (show Gr _ _ from by assumption) | apply NetR.alloc | apply NetR.drew))) HO.out).mono ?_
  rw [ho]; rintro _ w3 ⟨rfl, g3⟩
  replace B0 : w3.cell? ⟨w.heap.size, 0, none⟩ = some (.int .i64 N.places) := cell_gr B0 (by (repeat (first | exact Gr.refl _ | assumption | apply Gr.alloc | apply Gr.drew | apply Gr.drewN | refine Gr.trans ?_ (by assumption))))
  replace B1 := cell_gr (w' := w3) B1 (by (repeat (first | exact Gr.refl _ | assumption | apply Gr.alloc | apply Gr.drew | apply Gr.drewN | refine Gr.trans ?_ (by assumption))))
  have J1 : Ints w3 (.slice ua m.length uc) m := by (repeat (first | assumption | exact Ints.nil _ | (refine Ints.lit ?_ rfl rfl rfl ?_ ?_; ((focus (simp; done))); all_goals decide) | apply Ints.alloc | apply Ints.drew | refine Ints.gr ?_ (show Gr _ _ from by assumption)))
  have J4 : NetR w3 (.agg #[.int .i64 N.places, .slice a N.trans.length cap]) N := by (repeat (first | assumption | refine NetR.gr ?_ (show Gr _ _ from by assumption) | apply NetR.alloc | apply NetR.drew))
  have G3 : Gr w w3 := by (repeat (first | exact Gr.refl _ | assumption | apply Gr.alloc | apply Gr.drew | apply Gr.drewN | refine Gr.trans ?_ (by assumption)))
  clear g2 g3
  go_wp2_with fail
  go_loopw [7, 32] (fun out i wr => ∃ k : Nat, k ≤ m.length ∧ i = .int .i64 k ∧ OwnI 3 w3.heap.size wr out (noneTo m k) ∧ Gr w3 wr) (fun _ i _ => m.length - (intOf i).toNat)
  case atStart => exact ⟨0, Nat.zero_le _, rfl, by rw [noneTo_zero]; exact OwnI.nil _ _ _, Gr.refl _⟩
  case round =>
    rename_i wr
    obtain ⟨k, hk, rfl, hown, hgr⟩ := hrel
    by_cases hlt : k < m.length
    · obtain ⟨b, o, rfl, hcell⟩ := (J1.gr hgr).cell hlt
      have hlen := noneTo_len m k
      by_cases hz : nth m k = 0
      · have HZ := Lib.hid (noneTo_yes hz)
        rw [hz] at hcell
        clear hz
        go_wp2_with (at_builtin; refine app_int T _ _ w3.heap.size _ (noneTo m k) ⟨wr.heap.size, 0, none⟩ k rfl rfl (by rfl) (by rfl) (hown.alloc _) (lit_cell (by simp)) (i64_nat (by omega)) (by omega) (Gr.le (by (repeat (first | exact Gr.refl _ | assumption | apply Gr.alloc | apply Gr.drew | apply Gr.drewN | refine Gr.trans ?_ (by assumption))))) ?_; intro v' w' ho' hg' _ _)
        go_roundw
        case rel => exact ⟨k + 1, by omega, by go_num, by rw [HZ.out]; exact ho', hg' w3 (Nat.le_refl _) (by (repeat (first | exact Gr.refl _ | assumption | apply Gr.alloc | apply Gr.drew | apply Gr.drewN | refine Gr.trans ?_ (by assumption))))⟩
        case measure => simp [intOf]; omega
      · have HZ := Lib.hid (noneTo_no hz)
        have q3 : (nth m k == 0) = false := by simpa using hz
        clear hz
        go_wp2_with fail
        go_roundw
        case rel => exact ⟨k + 1, by omega, by go_num, by rw [HZ.out]; exact hown, hgr⟩
        case measure => simp [intOf]; omega
    · obtain rfl : k = m.length := by omega
      have i5 := hown.ints
      obtain ⟨a5, c5, rfl, s1, s2⟩ := i5.len
      have D0 := cell_gr B0 hgr
      have D1 := cell_gr B1 hgr
      have hd : decide (0 < (noneTo m m.length).length) = true := by simpa using hd0
      go_wp2_with fail
      refine (Siphon_calls _ _ N (noneTo m m.length) _ (J4.gr (by (repeat (first | exact Gr.refl _ | assumption | apply Gr.alloc | apply Gr.drew | apply Gr.drewN | refine Gr.trans ?_ (by assumption))))) i5).mono ?_
      rw [d2]; rintro _ w6 ⟨rfl, g6⟩
      have G6 : Gr w w6 := G3.trans (by (repeat (first | exact Gr.refl _ | assumption | apply Gr.alloc | apply Gr.drew | apply Gr.drewN | refine Gr.trans ?_ (by assumption))))
      go_wp2_with fail
      go_ret
      exact ⟨rfl, G6⟩
end Go.Proofs.Ytmigejcejnofiaa
