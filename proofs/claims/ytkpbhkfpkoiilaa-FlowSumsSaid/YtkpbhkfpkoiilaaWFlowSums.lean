/- The call FlowSums answers true at any net and two lists that read as data (lists of at most 17592186043904 elements each); nothing that lay there turns. -/
import Derived.Test.YtkpbhkfpkoiilaaAlive3
import Derived.Test.YtkpbhkfpkoiilaaFlowLaw3
import Derived.Test.YtkpbhkfpkoiilaaNet4
import Derived.IntWalk
import Derived.Deep.RegionHeld3
import Derived.Test.YtkpbhkfpkoiilaaStep
namespace Go.Proofs.Ytkpbhkfpkoiilaa
open Go.RowKit Go.Tok
set_option linter.unusedVariables false


set_option maxHeartbeats 4000000 in
set_option maxRecDepth 100000 in
theorem FlowSums_walk {v u s : Value} {N : NetD} {ca cb : List Int} (w : World) (hN : NetR w v N) (h1 : Ints w u ca ∧ ca.length ≤ 17592186043904) (h2 : Ints w s cb ∧ cb.length ≤ 17592186043904) :
    Calls Try.prog 8 #[v, u, s] w fun e w' => e = .returned (.bool true) ∧ Gr w w' := by
  obtain ⟨hu, lm⟩ := h1
  obtain ⟨hs, ls⟩ := h2
  have T := intTy
  have hN' := hN
  obtain ⟨a, cap, rfl, hnl, hncap, hpl, hT⟩ := hN.open_
  have hpl1 := hpl.1
  have hpl2 := hpl.2
  obtain ⟨ua, uc, rfl, ul, ul'⟩ := hu.len
  obtain ⟨sa, sc, rfl, sl, sl'⟩ := hs.len
  rcases hx : effectF N ca with ⟨x, e⟩
  rcases hy : effectF N cb with ⟨y, f⟩
  have HX := Lib.hid hx
  have HY := Lib.hid hy
  by_cases he : e = 0
  case neg =>
    obtain ⟨rfl, _⟩ := effectF_bad hx he
    have q2 : (e != 0) = true := by simpa using he
    clear hx he hy
    go_enter Try.func8, Try.ntmps8
    go_wp2_with fail
    refine (alive3_calls _).mono ?_
    rintro _ w1 ⟨rfl, g1⟩
    have B0 := box_cell g1 (i := 0) rfl
    have B1 := box_cell g1 (i := 1) rfl
    go_wp2_with fail
    refine (Effect_calls _ _ N ca _ (by (repeat (first | assumption | refine NetR.gr ?_ (show Gr _ _ from by assumption) | apply NetR.alloc | apply NetR.drew))) (by (repeat (first | assumption | exact Ints.nil _ | (refine Ints.lit ?_ rfl rfl rfl ?_ ?_; ((focus (simp; done))); all_goals decide) | apply Ints.alloc | apply Ints.drew | refine Ints.gr ?_ (show Gr _ _ from by assumption))))).mono ?_
    rw [HX.out]; rintro _ w2 ⟨v2, rfl, i2, g2⟩
    replace B0 : w2.cell? ⟨w.heap.size, 0, none⟩ = some (.int .i64 N.places) := by (repeat (first | (refine lit_at ?_ rfl; (focus (simp; done))) | assumption | refine cell_gr ?_ (show Gr _ _ from by assumption) | refine cell_gr ?_ ((Gr.refl _).alloc _)))
    replace B1 : w2.cell? ⟨w.heap.size, 1, none⟩ = some (.slice a N.trans.length cap) := by (repeat (first | (refine lit_at ?_ rfl; (focus (simp; done))) | assumption | refine cell_gr ?_ (show Gr _ _ from by assumption) | refine cell_gr ?_ ((Gr.refl _).alloc _)))
    go_wp2_with fail
    refine (Effect_calls _ _ N cb _ (by (repeat (first | assumption | refine NetR.gr ?_ (show Gr _ _ from by assumption) | apply NetR.alloc | apply NetR.drew))) (by (repeat (first | assumption | exact Ints.nil _ | (refine Ints.lit ?_ rfl rfl rfl ?_ ?_; ((focus (simp; done))); all_goals decide) | apply Ints.alloc | apply Ints.drew | refine Ints.gr ?_ (show Gr _ _ from by assumption))))).mono ?_
    rw [HY.out]; rintro _ w3 ⟨v3, rfl, i3, g3⟩
    go_wp2_with fail
    go_ret
    exact ⟨rfl, by (repeat (first | exact Gr.refl _ | assumption | apply Gr.alloc | apply Gr.drew | apply Gr.drewN | refine Gr.trans ?_ (by assumption)))⟩
  by_cases hf : f = 0
  case neg =>
    subst he
    obtain ⟨rfl, _⟩ := effectF_bad hy hf
    have q2 : (f != 0) = true := by simpa using hf
    clear hx hf hy
    go_enter Try.func8, Try.ntmps8
    go_wp2_with fail
    refine (alive3_calls _).mono ?_
    rintro _ w1 ⟨rfl, g1⟩
    have B0 := box_cell g1 (i := 0) rfl
    have B1 := box_cell g1 (i := 1) rfl
    go_wp2_with fail
    refine (Effect_calls _ _ N ca _ (by (repeat (first | assumption | refine NetR.gr ?_ (show Gr _ _ from by assumption) | apply NetR.alloc | apply NetR.drew))) (by (repeat (first | assumption | exact Ints.nil _ | (refine Ints.lit ?_ rfl rfl rfl ?_ ?_; ((focus (simp; done))); all_goals decide) | apply Ints.alloc | apply Ints.drew | refine Ints.gr ?_ (show Gr _ _ from by assumption))))).mono ?_
    rw [HX.out]; rintro _ w2 ⟨v2, rfl, i2, g2⟩
    replace B0 : w2.cell? ⟨w.heap.size, 0, none⟩ = some (.int .i64 N.places) := by (repeat (first | (refine lit_at ?_ rfl; (focus (simp; done))) | assumption | refine cell_gr ?_ (show Gr _ _ from by assumption) | refine cell_gr ?_ ((Gr.refl _).alloc _)))
    replace B1 : w2.cell? ⟨w.heap.size, 1, none⟩ = some (.slice a N.trans.length cap) := by (repeat (first | (refine lit_at ?_ rfl; (focus (simp; done))) | assumption | refine cell_gr ?_ (show Gr _ _ from by assumption) | refine cell_gr ?_ ((Gr.refl _).alloc _)))
    go_wp2_with fail
    refine (Effect_calls _ _ N cb _ (by (repeat (first | assumption | refine NetR.gr ?_ (show Gr _ _ from by assumption) | apply NetR.alloc | apply NetR.drew))) (by (repeat (first | assumption | exact Ints.nil _ | (refine Ints.lit ?_ rfl rfl rfl ?_ ?_; ((focus (simp; done))); all_goals decide) | apply Ints.alloc | apply Ints.drew | refine Ints.gr ?_ (show Gr _ _ from by assumption))))).mono ?_
    rw [HY.out]; rintro _ w3 ⟨v3, rfl, i3, g3⟩
    go_wp2_with fail
    go_ret
    exact ⟨rfl, by (repeat (first | exact Gr.refl _ | assumption | apply Gr.alloc | apply Gr.drew | apply Gr.drewN | refine Gr.trans ?_ (by assumption)))⟩
  subst he hf
  rcases hz : effectF N (addL ca cb ca.length) with ⟨z, g⟩
  have HZ := Lib.hid hz
  have hsm := flow_sums hx hy hz
  obtain ⟨t, F⟩ := flow_turn hx hy
  have HF := Lib.hid F
  have HS := Lib.hid hsm
  have l24 := F.l24
  have lx := F.lx
  have hS := netSmall_ok (effectB_of (effectF_of hx).1).1
  clear hx hy hz hsm F
  go_enter Try.func8, Try.ntmps8
  go_wp2_with fail
  refine (alive3_calls _).mono ?_
  rintro _ w1 ⟨rfl, g1⟩
  have B0 := box_cell g1 (i := 0) rfl
  have B1 := box_cell g1 (i := 1) rfl
  go_wp2_with fail
  refine (Effect_calls _ _ N ca _ (by (repeat (first | assumption | refine NetR.gr ?_ (show Gr _ _ from by assumption) | apply NetR.alloc | apply NetR.drew))) (by (repeat (first | assumption | exact Ints.nil _ | (refine Ints.lit ?_ rfl rfl rfl ?_ ?_; ((focus (simp; done))); all_goals decide) | apply Ints.alloc | apply Ints.drew | refine Ints.gr ?_ (show Gr _ _ from by assumption))))).mono ?_
  rw [HX.out]; rintro _ w2 ⟨v2, rfl, i2, g2⟩
  replace B0 : w2.cell? ⟨w.heap.size, 0, none⟩ = some (.int .i64 N.places) := by (repeat (first | (refine lit_at ?_ rfl; (focus (simp; done))) | assumption | refine cell_gr ?_ (show Gr _ _ from by assumption) | refine cell_gr ?_ ((Gr.refl _).alloc _)))
  replace B1 : w2.cell? ⟨w.heap.size, 1, none⟩ = some (.slice a N.trans.length cap) := by (repeat (first | (refine lit_at ?_ rfl; (focus (simp; done))) | assumption | refine cell_gr ?_ (show Gr _ _ from by assumption) | refine cell_gr ?_ ((Gr.refl _).alloc _)))
  go_wp2_with fail
  refine (Effect_calls _ _ N cb _ (by (repeat (first | assumption | refine NetR.gr ?_ (show Gr _ _ from by assumption) | apply NetR.alloc | apply NetR.drew))) (by (repeat (first | assumption | exact Ints.nil _ | (refine Ints.lit ?_ rfl rfl rfl ?_ ?_; ((focus (simp; done))); all_goals decide) | apply Ints.alloc | apply Ints.drew | refine Ints.gr ?_ (show Gr _ _ from by assumption))))).mono ?_
  rw [HY.out]; rintro _ w3 ⟨v3, rfl, i3, g3⟩
  go_wp2_with fail
  have G3 : Gr w w3 := by (repeat (first | exact Gr.refl _ | assumption | apply Gr.alloc | apply Gr.drew | apply Gr.drewN | refine Gr.trans ?_ (by assumption)))
  have K4 : NetR w3 (.agg #[.int .i64 N.places, .slice a N.trans.length cap]) N := by (repeat (first | assumption | refine NetR.gr ?_ (show Gr _ _ from by assumption) | apply NetR.alloc | apply NetR.drew))
  replace B0 : w3.cell? ⟨w.heap.size, 0, none⟩ = some (.int .i64 N.places) := cell_gr B0 (by (repeat (first | exact Gr.refl _ | assumption | apply Gr.alloc | apply Gr.drew | apply Gr.drewN | refine Gr.trans ?_ (by assumption))))
  replace B1 : w3.cell? ⟨w.heap.size, 1, none⟩ = some (.slice a N.trans.length cap) := cell_gr B1 (by (repeat (first | exact Gr.refl _ | assumption | apply Gr.alloc | apply Gr.drew | apply Gr.drewN | refine Gr.trans ?_ (by assumption))))
  have Ju : Ints w3 (.slice ua ca.length uc) ca := by (repeat (first | assumption | exact Ints.nil _ | (refine Ints.lit ?_ rfl rfl rfl ?_ ?_; ((focus (simp; done))); all_goals decide) | apply Ints.alloc | apply Ints.drew | refine Ints.gr ?_ (show Gr _ _ from by assumption)))
  have Js : Ints w3 (.slice sa cb.length sc) cb := by (repeat (first | assumption | exact Ints.nil _ | (refine Ints.lit ?_ rfl rfl rfl ?_ ?_; ((focus (simp; done))); all_goals decide) | apply Ints.alloc | apply Ints.drew | refine Ints.gr ?_ (show Gr _ _ from by assumption)))
  replace i2 : Ints w3 v2 x := i2.gr g3
  obtain ⟨xa, xc, rfl, xl, xl'⟩ := i2.len
  obtain ⟨ya, yc, rfl, yl, yl'⟩ := i3.len
  clear g1 g2 g3
  go_loopw [11, 40] (fun out i wr => ∃ k : Nat, k ≤ ca.length ∧ i = .int .i64 k ∧ OwnI 3 w3.heap.size wr out (addL ca cb k) ∧ Gr w3 wr) (fun _ i _ => ca.length - (intOf i).toNat)
  case atStart => exact ⟨0, Nat.zero_le _, rfl, by rw [addL_zero]; exact OwnI.nil _ _ _, Gr.refl _⟩
  case round =>
    rename_i wr
    obtain ⟨k, hk, rfl, ho, hgr⟩ := hrel
    by_cases hlt : k < ca.length
    · have F := HF.out
      have lab := F.lab
      obtain ⟨b, o, rfl, c1⟩ := Ju.cell hlt
      obtain ⟨b', o', rfl, c2⟩ := Js.cell (show k < cb.length by omega)
      have r1 := (F.ra k).1
      have r2 := (F.ra k).2
      have r3 := (F.rb k).1
      have r4 := (F.rb k).2
      have n1 : (0 : Int) ≤ (k : Int) := by omega
      have n2 : (k : Int) < (ca.length : Int) := by omega
      have n3 : (k : Int) < (cb.length : Int) := by omega
      have hsl : (addL ca cb k).length + 1 ≤ 17592186044416 := by rw [addL_len]; omega
      have hI : I64 (nth ca k + nth cb k) := by unfold I64; omega
      have e6 : IntKind.i64.wrap (nth ca k + nth cb k) = nth ca k + nth cb k := IntWalk.i64_in _ (by omega)
      clear F lab
      have d1 := cell_gr c1 hgr
      have d2 := cell_gr c2 hgr
      go_wp2_with fail
      go_region_held3 (fun w' => w'.cell? ⟨b, o + k, none⟩ = some (.int .i64 (nth ca k)) ∧ w'.cell? ⟨b', o' + k, none⟩ = some (.int .i64 (nth cb k))) (first | go_keep | exact ⟨cell_gr c1 (hg4 w3 (Nat.le_refl _) (by (repeat (first | exact Gr.refl _ | assumption | apply Gr.alloc | apply Gr.drew | apply Gr.drewN | refine Gr.trans ?_ (by assumption))))), cell_gr c2 (hg4 w3 (Nat.le_refl _) (by (repeat (first | exact Gr.refl _ | assumption | apply Gr.alloc | apply Gr.drew | apply Gr.drewN | refine Gr.trans ?_ (by assumption)))))⟩ | exact ⟨cell_gr d1 (by (repeat (first | exact Gr.refl _ | assumption | apply Gr.alloc | apply Gr.drew | apply Gr.drewN | refine Gr.trans ?_ (by assumption)))), cell_gr d2 (by (repeat (first | exact Gr.refl _ | assumption | apply Gr.alloc | apply Gr.drew | apply Gr.drewN | refine Gr.trans ?_ (by assumption))))⟩) (first | (refine step_app_int T (by rfl) _ _ (by rfl) w3.heap.size _ (addL ca cb k) ⟨wr.heap.size, 0, none⟩ (nth ca k + nth cb k) (by rfl) (by rfl) (ho.gr (by (repeat (first | exact Gr.refl _ | assumption | apply Gr.alloc | apply Gr.drew | apply Gr.drewN | refine Gr.trans ?_ (by assumption))))) (lit_cell (by rfl)) hI hsl (Gr.le (by (repeat (first | exact Gr.refl _ | assumption | apply Gr.alloc | apply Gr.drew | apply Gr.drewN | refine Gr.trans ?_ (by assumption))))) ?_; intro g' cp w4 ho4 hg4 _ _ _))
      go_wp2_with fail
      clear e6
      go_roundw
      case rel => exact ⟨k + 1, by omega, by go_num, by rw [addL_succ]; exact ho4, hg4 w3 (Nat.le_refl _) (by (repeat (first | exact Gr.refl _ | assumption | apply Gr.alloc | apply Gr.drew | apply Gr.drewN | refine Gr.trans ?_ (by assumption))))⟩
      case measure => simp [intOf]; omega
    · obtain rfl : k = ca.length := by omega
      have i5 := ho.ints
      have D0 := cell_gr B0 hgr
      have D1 := cell_gr B1 hgr
      go_wp2_with fail
      refine (Effect_calls _ _ N (addL ca cb ca.length) _ (by (repeat (first | assumption | refine NetR.gr ?_ (show Gr _ _ from by assumption) | apply NetR.alloc | apply NetR.drew))) (by (repeat (first | assumption | exact Ints.nil _ | (refine Ints.lit ?_ rfl rfl rfl ?_ ?_; ((focus (simp; done))); all_goals decide) | apply Ints.alloc | apply Ints.drew | refine Ints.gr ?_ (show Gr _ _ from by assumption))))).mono ?_
      rw [HZ.out]; rintro _ w5 ⟨v5, rfl, i6, g5⟩
      obtain ⟨za, zc, rfl, zl, zl'⟩ := i6.len
      have G5 : Gr w3 w5 := by (repeat (first | exact Gr.refl _ | assumption | apply Gr.alloc | apply Gr.drew | apply Gr.drewN | refine Gr.trans ?_ (by assumption)))
      replace B0 : w5.cell? ⟨w.heap.size, 0, none⟩ = some (.int .i64 N.places) := cell_gr B0 (by (repeat (first | exact Gr.refl _ | assumption | apply Gr.alloc | apply Gr.drew | apply Gr.drewN | refine Gr.trans ?_ (by assumption))))
      replace B1 : w5.cell? ⟨w.heap.size, 1, none⟩ = some (.slice a N.trans.length cap) := cell_gr B1 (by (repeat (first | exact Gr.refl _ | assumption | apply Gr.alloc | apply Gr.drew | apply Gr.drewN | refine Gr.trans ?_ (by assumption))))
      clear hgr g5 D0 D1
      go_wp2_with fail
      refine (Turned_calls _ N _ (by (repeat (first | assumption | refine NetR.gr ?_ (show Gr _ _ from by assumption) | apply NetR.alloc | apply NetR.drew))) hS).mono ?_
      rintro _ w6 ⟨v6, rfl, n6, g6⟩
      obtain ⟨a6, c6, rfl, _, _, _, _⟩ := n6.open_
      go_wp2_with fail
      refine (Effect_calls _ _ (turnN N) ca _ n6 (by (repeat (first | assumption | exact Ints.nil _ | (refine Ints.lit ?_ rfl rfl rfl ?_ ?_; ((focus (simp; done))); all_goals decide) | apply Ints.alloc | apply Ints.drew | refine Ints.gr ?_ (show Gr _ _ from by assumption))))).mono ?_
      rw [HF.out.ht]; rintro _ w7 ⟨v7, rfl, i7, g7⟩
      obtain ⟨ta, tc, rfl, tl, tl'⟩ := i7.len
      have q5 : ((t.length : Int) != x.length) = false := by simp [HF.out.lw]
      have j1 : Ints w7 (.slice xa x.length xc) x := by (repeat (first | assumption | exact Ints.nil _ | (refine Ints.lit ?_ rfl rfl rfl ?_ ?_; ((focus (simp; done))); all_goals decide) | apply Ints.alloc | apply Ints.drew | refine Ints.gr ?_ (show Gr _ _ from by assumption)))
      have j2 : Ints w7 (.slice ya y.length yc) y := by (repeat (first | assumption | exact Ints.nil _ | (refine Ints.lit ?_ rfl rfl rfl ?_ ?_; ((focus (simp; done))); all_goals decide) | apply Ints.alloc | apply Ints.drew | refine Ints.gr ?_ (show Gr _ _ from by assumption)))
      have j3 : Ints w7 (.slice za z.length zc) z := by (repeat (first | assumption | exact Ints.nil _ | (refine Ints.lit ?_ rfl rfl rfl ?_ ?_; ((focus (simp; done))); all_goals decide) | apply Ints.alloc | apply Ints.drew | refine Ints.gr ?_ (show Gr _ _ from by assumption)))
      have G7 : Gr w w7 := by (repeat (first | exact Gr.refl _ | assumption | apply Gr.alloc | apply Gr.drew | apply Gr.drewN | refine Gr.trans ?_ (by assumption)))
      clear i2 i3 i5 i6 g6 g7 G5 ho n6
      go_wp2_with fail
      go_loopw [80] (fun i wr => ∃ k : Nat, k ≤ x.length ∧ i = .int .i64 k ∧ Gr w7 wr) (fun i _ => x.length - (intOf i).toNat)
      case atStart => exact ⟨0, Nat.zero_le _, rfl, Gr.refl _⟩
      case round =>
        rename_i wr _
        obtain ⟨k, hk, rfl, hgr⟩ := hrel
        by_cases hlt : k < x.length
        · have F := HF.out
          have ly := F.ly
          have lw := F.lw
          obtain ⟨b, o, rfl, c1⟩ := (j1.gr hgr).cell hlt
          obtain ⟨b', o', rfl, c2⟩ := (i7.gr hgr).cell (show k < t.length by omega)
          obtain ⟨b2, o2, rfl, c3⟩ := (j2.gr hgr).cell (show k < y.length by omega)
          have r1 := (F.rx k).1
          have r2 := (F.rx k).2
          have r3 := (F.ry k).1
          have r4 := (F.ry k).2
          have n1 : (0 : Int) ≤ (k : Int) := by omega
          have n2 : (k : Int) < (x.length : Int) := by omega
          have n3 : (k : Int) < (t.length : Int) := by omega
          have n4 : (k : Int) < (y.length : Int) := by omega
          have e5 := F.ew k hlt
          have e6 : IntKind.i64.wrap (- nth x k) = - nth x k := IntWalk.i64_in _ (by omega)
          have e7 : IntKind.i64.wrap (nth x k + nth y k) = nth x k + nth y k := IntWalk.i64_in _ (by omega)
          have e8 : (nth t k != - nth x k) = false := by simp [e5]
          rcases HS.out with hg | ⟨hg, lz, ez⟩
          · have hg' : (g == 0) = false := by simpa using hg
            clear F ly lw e5 hg
            go_wp2_with fail
            go_quiet (fail)
            clear e6 e7
            go_wp2_with fail
            go_roundw
            case rel => exact ⟨k + 1, by omega, by go_num, hgr.drewN _⟩
            case measure => simp [intOf]; omega
          · have hg' : (g == 0) = true := by simpa using hg
            obtain ⟨b3, o3, rfl, c4⟩ := (j3.gr hgr).cell (show k < z.length by omega)
            have n5 : (k : Int) < (z.length : Int) := by omega
            have e9 : (nth z k != nth x k + nth y k) = false := by simp [ez k hlt]
            have e10 : ((z.length : Int) != x.length) = false := by simp [lz]
            clear F ly lw e5 hg lz ez
            go_wp2_with fail
            go_quiet (fail)
            clear e6 e7
            go_wp2_with fail
            go_roundw
            case rel => exact ⟨k + 1, by omega, by go_num, hgr.drewN _⟩
            case measure => simp [intOf]; omega
        · go_wp2_with fail
          go_ret
          exact ⟨rfl, G7.trans hgr⟩
end Go.Proofs.Ytkpbhkfpkoiilaa
