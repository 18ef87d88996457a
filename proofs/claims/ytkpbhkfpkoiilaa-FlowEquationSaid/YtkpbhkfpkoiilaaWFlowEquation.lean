/- The call FlowEquation answers true at any net, marking and sequence that read as data (lists of at most 17592186043904 elements each); nothing that lay there turns. -/
import Derived.Test.YtkpbhkfpkoiilaaAlive3
import Derived.Test.YtkpbhkfpkoiilaaFlowLaw3
import Derived.Test.YtkpbhkfpkoiilaaNet3
import Derived.IntWalk
namespace Go.Proofs.Ytkpbhkfpkoiilaa
open Go.RowKit Go.Tok
set_option linter.unusedVariables false

set_option maxHeartbeats 4000000 in
set_option maxRecDepth 100000 in
theorem FlowEquation_walk {v u s : Value} {N : NetD} {m seq : List Int} (w : World) (hN : NetR w v N) (h1 : Ints w u m ∧ m.length ≤ 17592186043904) (h2 : Ints w s seq ∧ seq.length ≤ 17592186043904) :
    Calls Try.prog 12 #[v, u, s] w fun e w' => e = .returned (.bool true) ∧ Gr w w' := by
  obtain ⟨hu, lm⟩ := h1
  obtain ⟨hs, ls⟩ := h2
  have hN' := hN
  obtain ⟨a, cap, rfl, hnl, hncap, hpl, hT⟩ := hN.open_
  have hpl1 := hpl.1
  have hpl2 := hpl.2
  obtain ⟨ua, uc, rfl, ul, ul'⟩ := hu.len
  obtain ⟨sa, sc, rfl, sl, sl'⟩ := hs.len
  rcases hr : runF N m seq with ⟨x, e⟩
  have HR := Lib.hid hr
  by_cases he : e = 0
  · subst he
    by_cases hl : seq.length ≤ 100000
    · have h24 := (netOk_sizes (fits_ok (runF_of hr).1)).2.2
      obtain ⟨d, F⟩ := flow_equation hr hl
      have HE := Lib.hid F.eff
      have l16 := F.l16
      have q1 : ((d.length : Int) != x.length) = false := by simp [F.ld]
      have HF := Lib.hid F
      clear hr F
      go_enter Try.func12, Try.ntmps12
      go_wp2_with fail
      refine (alive3_calls _).mono ?_
      rintro _ w1 ⟨rfl, g1⟩
      have B0 := box_cell g1 (i := 0) rfl
      have B1 := box_cell g1 (i := 1) rfl
      go_wp2_with fail
      refine (Run_calls _ _ _ N m seq _ (by (repeat (first | assumption | refine NetR.gr ?_ (show Gr _ _ from by assumption) | apply NetR.alloc | apply NetR.drew))) (by (repeat (first | assumption | exact Ints.nil _ | (refine Ints.lit ?_ rfl rfl rfl ?_ ?_; ((focus (simp; done))); all_goals decide) | apply Ints.alloc | apply Ints.drew | refine Ints.gr ?_ (show Gr _ _ from by assumption)))) (by (repeat (first | assumption | exact Ints.nil _ | (refine Ints.lit ?_ rfl rfl rfl ?_ ?_; ((focus (simp; done))); all_goals decide) | apply Ints.alloc | apply Ints.drew | refine Ints.gr ?_ (show Gr _ _ from by assumption))))).mono ?_
      rw [HR.out]; rintro _ w2 ⟨v2, rfl, i2, g2⟩
      obtain ⟨xa, xc, rfl, xl, xl'⟩ := i2.len
      replace B0 : w2.cell? ⟨w.heap.size, 0, none⟩ = some (.int .i64 N.places) := by (repeat (first | (refine lit_at ?_ rfl; (focus (simp; done))) | assumption | refine cell_gr ?_ (show Gr _ _ from by assumption) | refine cell_gr ?_ ((Gr.refl _).alloc _)))
      replace B1 : w2.cell? ⟨w.heap.size, 1, none⟩ = some (.slice a N.trans.length cap) := by (repeat (first | (refine lit_at ?_ rfl; (focus (simp; done))) | assumption | refine cell_gr ?_ (show Gr _ _ from by assumption) | refine cell_gr ?_ ((Gr.refl _).alloc _)))
      have K1 : Ints w2 (.slice ua m.length uc) m := by (repeat (first | assumption | exact Ints.nil _ | (refine Ints.lit ?_ rfl rfl rfl ?_ ?_; ((focus (simp; done))); all_goals decide) | apply Ints.alloc | apply Ints.drew | refine Ints.gr ?_ (show Gr _ _ from by assumption)))
      have K2 : Ints w2 (.slice sa seq.length sc) seq := by (repeat (first | assumption | exact Ints.nil _ | (refine Ints.lit ?_ rfl rfl rfl ?_ ?_; ((focus (simp; done))); all_goals decide) | apply Ints.alloc | apply Ints.drew | refine Ints.gr ?_ (show Gr _ _ from by assumption)))
      have K4 : NetR w2 (.agg #[.int .i64 N.places, .slice a N.trans.length cap]) N := by (repeat (first | assumption | refine NetR.gr ?_ (show Gr _ _ from by assumption) | apply NetR.alloc | apply NetR.drew))
      go_wp2_with fail
      go_region_held3 (fun w' => w'.cell? ⟨w.heap.size, 0, none⟩ = some (.int .i64 N.places) ∧ w'.cell? ⟨w.heap.size, 1, none⟩ = some (.slice a N.trans.length cap)) (first | go_keep | exact ⟨cell_gr B0 (by (repeat (first | exact Gr.refl _ | assumption | apply Gr.alloc | apply Gr.drew | apply Gr.drewN | refine Gr.trans ?_ (by assumption)))), cell_gr B1 (by (repeat (first | exact Gr.refl _ | assumption | apply Gr.alloc | apply Gr.drew | apply Gr.drewN | refine Gr.trans ?_ (by assumption))))⟩) (first | (go_at_call 38; (with_reducible refine (Count_calls _ _ N seq _ (K4.gr (by (repeat (first | exact Gr.refl _ | assumption | apply Gr.alloc | apply Gr.drew | apply Gr.drewN | refine Gr.trans ?_ (by assumption))))) (K2.gr (by (repeat (first | exact Gr.refl _ | assumption | apply Gr.alloc | apply Gr.drew | apply Gr.drewN | refine Gr.trans ?_ (by assumption))))) (by omega) (by omega)).mono ?_); rintro _ w3 ⟨v3, rfl, o3, g3⟩) | (go_at_call 28; (with_reducible refine (Effect_calls _ _ N (countL N.trans.length seq) _ (K4.gr (by (repeat (first | exact Gr.refl _ | assumption | apply Gr.alloc | apply Gr.drew | apply Gr.drewN | refine Gr.trans ?_ (by assumption))))) (o3.ints.gr (by (repeat (first | exact Gr.refl _ | assumption | apply Gr.alloc | apply Gr.drew | apply Gr.drewN | refine Gr.trans ?_ (by assumption)))))).mono ?_); rw [HE.out]; rintro _ w4 ⟨v4, rfl, i4, g4⟩))
      obtain ⟨da, dc, rfl, dl, dl'⟩ := i4.len
      have j2 : Ints w4 (.slice xa x.length xc) x := by (repeat (first | assumption | exact Ints.nil _ | (refine Ints.lit ?_ rfl rfl rfl ?_ ?_; ((focus (simp; done))); all_goals decide) | apply Ints.alloc | apply Ints.drew | refine Ints.gr ?_ (show Gr _ _ from by assumption)))
      have j1 : Ints w4 (.slice ua m.length uc) m := by (repeat (first | assumption | exact Ints.nil _ | (refine Ints.lit ?_ rfl rfl rfl ?_ ?_; ((focus (simp; done))); all_goals decide) | apply Ints.alloc | apply Ints.drew | refine Ints.gr ?_ (show Gr _ _ from by assumption)))
      have G : Gr w w4 := by (repeat (first | exact Gr.refl _ | assumption | apply Gr.alloc | apply Gr.drew | apply Gr.drewN | refine Gr.trans ?_ (by assumption)))
      go_wp2_with fail
      go_loopw [47] (fun i wr => ∃ k : Nat, k ≤ x.length ∧ i = .int .i64 k ∧ Gr w4 wr) (fun i _ => x.length - (intOf i).toNat)
      case atStart => exact ⟨0, Nat.zero_le _, rfl, Gr.refl _⟩
      case round =>
        rename_i wr _
        obtain ⟨k, hk, rfl, hgr⟩ := hrel
        by_cases hlt : k < x.length
        · have F := HF.out
          have lm := F.lm
          have ld := F.ld
          obtain ⟨b, o, rfl, c1⟩ := (j2.gr hgr).cell hlt
          obtain ⟨b', o', rfl, c2⟩ := (j1.gr hgr).cell (show k < m.length by omega)
          obtain ⟨b'', o'', rfl, c3⟩ := (i4.gr hgr).cell (show k < d.length by omega)
          have r1 := (j2.range k).1
          have r2 := (j2.range k).2
          have n1 : (0 : Int) ≤ (k : Int) := by omega
          have n2 : (k : Int) < (x.length : Int) := by omega
          have n3 : (k : Int) < (m.length : Int) := by omega
          have n4 : (k : Int) < (d.length : Int) := by omega
          have e5 := F.eq k hlt
          have e6 : IntKind.i64.wrap (nth m k + nth d k) = nth x k := by rw [e5]; exact IntWalk.i64_in _ (by omega)
          clear F lm ld e5
          go_wp2_with fail
          go_quiet (fail)
          clear e6
          go_wp2_with fail
          go_roundw
          case rel => exact ⟨k + 1, by omega, by go_num, hgr.drewN _⟩
          case measure => simp [intOf]; omega
        · go_wp2_with fail
          go_ret
          exact ⟨rfl, G.trans hgr⟩
    · have hl' : 100000 < seq.length := by omega
      clear hr hl
      go_enter Try.func12, Try.ntmps12
      go_wp2_with fail
      refine (alive3_calls _).mono ?_
      rintro _ w1 ⟨rfl, g1⟩
      have B0 := box_cell g1 (i := 0) rfl
      have B1 := box_cell g1 (i := 1) rfl
      go_wp2_with fail
      refine (Run_calls _ _ _ N m seq _ (by (repeat (first | assumption | refine NetR.gr ?_ (show Gr _ _ from by assumption) | apply NetR.alloc | apply NetR.drew))) (by (repeat (first | assumption | exact Ints.nil _ | (refine Ints.lit ?_ rfl rfl rfl ?_ ?_; ((focus (simp; done))); all_goals decide) | apply Ints.alloc | apply Ints.drew | refine Ints.gr ?_ (show Gr _ _ from by assumption)))) (by (repeat (first | assumption | exact Ints.nil _ | (refine Ints.lit ?_ rfl rfl rfl ?_ ?_; ((focus (simp; done))); all_goals decide) | apply Ints.alloc | apply Ints.drew | refine Ints.gr ?_ (show Gr _ _ from by assumption))))).mono ?_
      rw [HR.out]; rintro _ w2 ⟨v2, rfl, i2, g2⟩
      go_wp2_with fail
      go_ret
      exact ⟨rfl, by (repeat (first | exact Gr.refl _ | assumption | apply Gr.alloc | apply Gr.drew | apply Gr.drewN | refine Gr.trans ?_ (by assumption)))⟩
  · obtain ⟨rfl, _⟩ := runF_bad hr he
    have q2 : (e != 0) = true := by simpa using he
    clear hr he
    go_enter Try.func12, Try.ntmps12
    go_wp2_with fail
    refine (alive3_calls _).mono ?_
    rintro _ w1 ⟨rfl, g1⟩
    have B0 := box_cell g1 (i := 0) rfl
    have B1 := box_cell g1 (i := 1) rfl
    go_wp2_with fail
    refine (Run_calls _ _ _ N m seq _ (by (repeat (first | assumption | refine NetR.gr ?_ (show Gr _ _ from by assumption) | apply NetR.alloc | apply NetR.drew))) (by (repeat (first | assumption | exact Ints.nil _ | (refine Ints.lit ?_ rfl rfl rfl ?_ ?_; ((focus (simp; done))); all_goals decide) | apply Ints.alloc | apply Ints.drew | refine Ints.gr ?_ (show Gr _ _ from by assumption)))) (by (repeat (first | assumption | exact Ints.nil _ | (refine Ints.lit ?_ rfl rfl rfl ?_ ?_; ((focus (simp; done))); all_goals decide) | apply Ints.alloc | apply Ints.drew | refine Ints.gr ?_ (show Gr _ _ from by assumption))))).mono ?_
    rw [HR.out]; rintro _ w2 ⟨v2, rfl, i2, g2⟩
    go_wp2_with fail
    go_ret
    exact ⟨rfl, by (repeat (first | exact Gr.refl _ | assumption | apply Gr.alloc | apply Gr.drew | apply Gr.drewN | refine Gr.trans ?_ (by assumption)))⟩
end Go.Proofs.Ytkpbhkfpkoiilaa
