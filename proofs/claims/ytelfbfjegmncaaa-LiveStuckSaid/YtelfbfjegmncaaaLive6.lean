/- Contracts of live.Stuck (at a right space), Dead, Bound. -/
import Derived.Test.YtelfbfjegmncaaaLive5
import Derived.Deep.RegionHeld3
namespace Go.Proofs.Ytelfbfjegmncaaa
open Go.RowKit Go.Tok
set_option linter.unusedVariables false
theorem CloneArc_slice (v : Value) (xs : List ArcD) (w : World) (hv : Rd arcK w v xs) (hl : xs.length ≤ 5864062014805) :
    Calls Try.prog 70 #[v] w fun e w' => ∃ a c, e = .returned (.slice a xs.length c) ∧ OwnR arcK 56 w.heap.size (fun _ => False) w' (.slice a xs.length c) xs ∧ Gr w w' :=
  (CloneArc_calls v xs w hv hl).mono fun e w' ⟨v', h1, h2, h3⟩ => by
    obtain ⟨a, c, rfl, _, _⟩ := h2.len
    exact ⟨a, c, h1, h2, h3⟩
set_option maxHeartbeats 8000000 in
set_option maxRecDepth 100000 in
theorem Stuck_calls (v : Value) (S : SpaceD) (w : World) (hv : SpaceR w v S) (hr : sRightB S = true) (hm : S.marks.length ≤ 5864062014805) (ha : S.arcs.length ≤ 5864062014805) :
    Calls Try.prog 24 #[v] w (RetI w (stuckF S)) := by
  have T := intTy
  obtain ⟨ma, mc, aa, ac, rfl, hc1, hc2, hc3, hc4, hM, hA⟩ := hv.open_
  have hv' := hv
  have B0 := box_cell (Gr.refl (w.alloc (.cells #[.slice ma S.marks.length mc, .slice aa S.arcs.length ac] 40))) (i := 0) rfl
  have B1 := box_cell (Gr.refl (w.alloc (.cells #[.slice ma S.marks.length mc, .slice aa S.arcs.length ac] 40))) (i := 1) rfl
  have GA : Gr w (w.alloc (.cells #[.slice ma S.marks.length mc, .slice aa S.arcs.length ac] 40)) := (Gr.refl _).alloc _
  have HC := Lib.hid (stuck_pick S)
  have HON := Lib.hid (onL_right hr)
  have hok := on_edges hr
  have hbad := srcBad_none hr
  have HBD := Lib.hid hbad
  have eg : ∀ args w, (callFunc 71 args).run Try.prog w = .ok (.enter 71 args) w := (Go.Proofs.enters_of Try.func71 (by kernel_rfl) rfl)
  clear hbad hr
  go_enter Try.func24, Try.ntmps24
  go_wp2_with fail
  generalize (w.alloc (.cells #[.slice ma S.marks.length mc, .slice aa S.arcs.length ac] 40)) = wA at GA B0 B1 ⊢
  go_region_held3 (fun w' => w'.cell? ⟨w.heap.size, 0, none⟩ = some (.slice ma S.marks.length mc) ∧ w'.cell? ⟨w.heap.size, 1, none⟩ = some (.slice aa S.arcs.length ac)) (first | go_keep | ((refine ⟨cell_gr B0 ?_, cell_gr B1 ?_⟩); (all_goals (focus ((repeat (first | exact Gr.refl _ | assumption | apply Gr.alloc | apply Gr.drew | apply Gr.drewN | refine Gr.trans ?_ (by assumption))); done))))) (first | (go_at_call 70; (with_reducible refine (CloneArc_slice _ S.arcs _ (hA.gr ?_) ha).mono ?_); ((focus (exact GA.trans (by (repeat (first | exact Gr.refl _ | assumption | apply Gr.alloc | apply Gr.drew | apply Gr.drewN | refine Gr.trans ?_ (by assumption)))); done))); rintro _ w2 ⟨oa, oc, rfl, o2, g2⟩) | (go_at_call 69; (with_reducible refine (DeleteFuncArc_none _ S.arcs 71 _ (srcBad S.marks.length) _ eg (o2.rd.gr ?_) (Stuck1_answers _ _ _ _ _ _ hc1 hc2 (cell_gr B0 ?_)) HBD.out).mono ?_); ((focus ((repeat (first | exact Gr.refl _ | assumption | apply Gr.alloc | apply Gr.drew | apply Gr.drewN | refine Gr.trans ?_ (by assumption))); done))); ((focus ((repeat (first | exact Gr.refl _ | assumption | apply Gr.alloc | apply Gr.drew | apply Gr.drewN | refine Gr.trans ?_ (by assumption))); done))); rintro _ w3 ⟨rfl, g3⟩) | (go_at_call 66; (with_reducible refine (links_calls _ S false _ (SpaceR.mk_ (hM.gr ?_) (o2.rd.gr ?_)) hok hm ha).mono ?_); ((focus (exact GA.trans (by (repeat (first | exact Gr.refl _ | assumption | apply Gr.alloc | apply Gr.drew | apply Gr.drewN | refine Gr.trans ?_ (by assumption)))); done))); ((focus ((repeat (first | exact Gr.refl _ | assumption | apply Gr.alloc | apply Gr.drew | apply Gr.drewN | refine Gr.trans ?_ (by assumption))); done))); rintro _ w4 ⟨v4, rfl, r4, g4⟩))
  all_goals
    have G4 : Gr wA w4 := by (repeat (first | exact Gr.refl _ | assumption | apply Gr.alloc | apply Gr.drew | apply Gr.drewN | refine Gr.trans ?_ (by assumption)))
    replace GA := GA.trans G4
    have HR4 : Hid (Rd rowK w4 v4 (onL S)) := Lib.hid (by rw [HON.out]; exact r4)
    obtain ⟨ra, rc, rfl, _, _⟩ := r4.len
    rw [linksF_len] at HR4
    rw [linksF_len]
    clear g2 g3 g4 G4 B0 B1 r4 hok
    go_wp2_with fail
    go_loopw [4, 18] (fun out q wr => ∃ k : Nat, q = .int .i64 k ∧ k ≤ S.marks.length ∧ OwnI 3 w4.heap.size wr out (pickTo (stuckP S) k) ∧ Gr w4 wr) (fun _ q _ => S.marks.length - (intOf q).toNat)
    case atStart => exact ⟨0, rfl, Nat.zero_le _, OwnI.nil _ _ _, Gr.refl _⟩
    case round =>
      rename World => wo
      obtain ⟨k, rfl, hk, ho, hgr⟩ := hrel
      have hol : (onL S).length = S.marks.length := by rw [HON.out]; exact linksF_len _ _
      by_cases hlt : k < S.marks.length
      · obtain ⟨b, o, y, rfl, c0, hI⟩ := (HR4.out.gr hgr).row (i := k) (by omega)
        obtain ⟨ya, yc, rfl, _, _⟩ := hI.len
        have hkI : (k : Int) < (S.marks.length : Int) := by omega
        have hpl := pickTo_len (stuckP S) k
        obtain ⟨oa, oc, rfl, _, _⟩ := ho.ints.len
        have HOL := Lib.hid hol
        clear hol
        cases hp : stuckP S k
        · have HS := Lib.hid (pickTo_no hp)
          have hne : (ix (onL S) k).length ≠ 0 := by
            unfold stuckP at hp
            intro h0
            rw [List.eq_nil_of_length_eq_zero h0] at hp; cases hp
          have q1 : (((ix (onL S) k).length : Int) == 0) = false := by simp; exact fun h => hne (by rw [h]; rfl)
          have q2 : ((ix (onL S) k).length == 0) = false := by simpa using hne
          clear hp hne
          go_wp2_with fail
          go_roundw
          case rel => exact ⟨k + 1, by go_num, by omega, by rw [HS.out]; exact ho, hgr⟩
          case measure => simp [intOf]; omega
        · have HS := Lib.hid (pickTo_yes hp)
          have h0 : ix (onL S) k = [] := by unfold stuckP at hp; exact List.isEmpty_iff.1 hp
          rw [h0] at c0 hI
          have hks : I64 (k : Int) := i64_nat (by omega)
          have hbs := hgr.le
          clear hp h0
          go_wp2_with (at_builtin; go_loud (refine app_int T _ _ w4.heap.size _ (pickTo (stuckP S) k) ⟨wo.heap.size, 0, none⟩ (k : Int) (by rfl) (by rfl) (by rfl) (by rfl) (ho.alloc _) (lit_cell rfl) hks (by omega) (Nat.le_trans hbs (Gr.le ((Gr.refl _).alloc _))) ?_; intro v' w7 ho7 hgs hgb hat))
          go_roundw
          case rel => exact ⟨k + 1, by go_num, by omega, by rw [HS.out]; exact ho7, hgs w4 (Nat.le_refl _) (hgr.alloc _)⟩
          case measure => simp [intOf]; omega
      · obtain rfl : k = S.marks.length := by omega
        go_wp2_with fail
        go_ret
        exact RetI.mk HC.out ho GA.le (GA.trans hgr)
end Go.Proofs.Ytelfbfjegmncaaa
