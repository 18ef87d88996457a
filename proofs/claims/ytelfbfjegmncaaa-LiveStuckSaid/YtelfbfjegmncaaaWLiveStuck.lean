/- The call LiveStuck answers true at any space and number that read as data; nothing that lay there turns. -/
import Derived.Test.YtelfbfjegmncaaaAlive7
import Derived.Deep.RegionHeld3
namespace Go.Proofs.Ytelfbfjegmncaaa
open Go.RowKit Go.Tok
set_option linter.unusedVariables false
theorem Stuck_slice (v : Value) (S : SpaceD) (w : World) (hv : SpaceR w v S) (hr : sRightB S = true) (hm : S.marks.length ≤ 5864062014805) (ha : S.arcs.length ≤ 5864062014805) :
    Calls Try.prog 24 #[v] w fun e w' => ∃ a c, e = .returned (.slice a (stuckF S).length c) ∧ OwnI 3 w.heap.size w' (.slice a (stuckF S).length c) (stuckF S) ∧ Gr w w' :=
  (Stuck_calls v S w hv hr hm ha).mono fun e w' ⟨v', h1, h2, h3⟩ => by
    obtain ⟨a, c, rfl, _, _⟩ := h2.ints.len
    exact ⟨a, c, h1, h2, h3⟩
theorem Home_slice (v : Value) (S : SpaceD) (w : World) (hv : SpaceR w v S) (hm : S.marks.length ≤ 5864062014805) (ha : S.arcs.length ≤ 5864062014805) :
    Calls Try.prog 23 #[v] w fun e w' => ∃ a c, e = .returned (.slice a (homeF S).length c) ∧ OwnI 3 w.heap.size w' (.slice a (homeF S).length c) (homeF S) ∧ Gr w w' :=
  (Home_calls v S w hv hm ha).mono fun e w' ⟨v', h1, h2, h3⟩ => by
    obtain ⟨a, c, rfl, _, _⟩ := h2.ints.len
    exact ⟨a, c, h1, h2, h3⟩
set_option maxHeartbeats 8000000 in
set_option maxRecDepth 100000 in
theorem LiveStuck_walk {v : Value} {S : SpaceD} {trans : Int} (w : World) (hs : SpaceR w v S ∧ S.marks.length ≤ 5864062014805 ∧ S.arcs.length ≤ 5864062014805) (ht : I64 trans) :
    Calls Try.prog 4 #[v, .int .i64 trans] w fun e w' => e = .returned (.bool true) ∧ Gr w w' := by
  obtain ⟨hv, hm, ha⟩ := hs
  have hv' := hv
  obtain ⟨ma, mc, aa, ac, rfl, hc1, hc2, hc3, hc4, hM, hA⟩ := hv.open_
  cases hr : sRightB S
  · have HR := Lib.hid hr
    have HL := Lib.hid (show liveF S trans = [] by unfold liveF; rw [hr]; rfl)
    have HH := Lib.hid (show homeF S = [] by unfold homeF; rw [hr]; rfl)
    clear hr
    go_enter Try.func4, Try.ntmps4
    go_wp2_with fail
    refine (alive7_calls _).mono ?_
    rintro _ w1 ⟨rfl, g1⟩
    have B0 := box_cell g1 (i := 0) rfl
    have B1 := box_cell g1 (i := 1) rfl
    have GW : Gr w w1 := ((Gr.refl w).alloc _).trans g1
    clear g1
    go_wp2_with fail
    refine (SRight_calls _ S _ (hv'.gr GW)).mono ?_
    rw [HR.out]; rintro _ w2 ⟨rfl, g2⟩
    replace B0 := cell_gr B0 g2
    replace B1 := cell_gr B1 g2
    replace GW := GW.trans g2
    clear g2
    go_wp2_with fail
    refine (Live_calls _ S trans _ (hv'.gr GW) ht hm ha).mono ?_
    rw [HL.out]; rintro _ w3 ⟨v3, rfl, o3, g3⟩
    obtain ⟨a3, c3, rfl, _, _⟩ := o3.ints.len
    replace B0 := cell_gr B0 g3
    replace B1 := cell_gr B1 g3
    replace GW := GW.trans g3
    go_wp2_with fail
    refine (Home_calls _ S _ (hv'.gr GW) hm ha).mono ?_
    rw [HH.out]; rintro _ w4 ⟨v4, rfl, o4, g4⟩
    obtain ⟨a4, c4, rfl, _, _⟩ := o4.ints.len
    go_wp2_with fail
    go_ret
    exact ⟨rfl, GW.trans g4⟩
  · have HR := Lib.hid hr
    clear hr
    obtain ⟨st, hst⟩ : ∃ st, st = stuckF S := ⟨_, rfl⟩
    obtain ⟨ho, hho⟩ : ∃ ho, ho = homeF S := ⟨_, rfl⟩
    have HST := Lib.hid hst
    have HHO := Lib.hid hho
    by_cases h0 : st = []
    · have hlen : (stuckF S).length = 0 := by rw [← hst, h0]; rfl
      have HLN := Lib.hid hlen
      clear hst hho h0 hlen
      go_enter Try.func4, Try.ntmps4
      go_wp2_with fail
      refine (alive7_calls _).mono ?_
      rintro _ w1 ⟨rfl, g1⟩
      have B0 := box_cell g1 (i := 0) rfl
      have B1 := box_cell g1 (i := 1) rfl
      have GW : Gr w w1 := ((Gr.refl w).alloc _).trans g1
      clear g1
      go_wp2_with fail
      refine (SRight_calls _ S _ (hv'.gr GW)).mono ?_
      rw [HR.out]; rintro _ w2 ⟨rfl, g2⟩
      replace B0 := cell_gr B0 g2
      replace B1 := cell_gr B1 g2
      replace GW := GW.trans g2
      clear g2
      go_wp2_with fail
      go_region_held3 (fun w' => w'.cell? ⟨w.heap.size, 0, none⟩ = some (.slice ma S.marks.length mc) ∧ w'.cell? ⟨w.heap.size, 1, none⟩ = some (.slice aa S.arcs.length ac)) (first | go_keep | ((refine ⟨cell_gr B0 ?_, cell_gr B1 ?_⟩); (all_goals (focus ((repeat (first | exact Gr.refl _ | assumption | apply Gr.alloc | apply Gr.drew | apply Gr.drewN | refine Gr.trans ?_ (by assumption))); done))))) (first | (go_at_call 24; (with_reducible refine (Stuck_slice _ S _ (hv'.gr ?_) HR.out hm ha).mono ?_); ((focus (exact GW.trans (by (repeat (first | exact Gr.refl _ | assumption | apply Gr.alloc | apply Gr.drew | apply Gr.drewN | refine Gr.trans ?_ (by assumption)))); done))); rintro _ w3 ⟨sa, sc, rfl, o3, g3⟩) | (go_at_call 23; (with_reducible refine (Home_slice _ S _ (hv'.gr ?_) hm ha).mono ?_); ((focus (exact GW.trans (by (repeat (first | exact Gr.refl _ | assumption | apply Gr.alloc | apply Gr.drew | apply Gr.drewN | refine Gr.trans ?_ (by assumption)))); done))); rintro _ w4 ⟨ha', hc', rfl, o4, g4⟩))
      all_goals
        have q1 : (((stuckF S).length : Int) == 0) = true := by rw [HLN.out]; rfl
        have q2 : ((stuckF S).length == 0) = true := by rw [HLN.out]; rfl
        go_wp2_with fail
        go_ret
        exact ⟨rfl, GW.trans (by (repeat (first | exact Gr.refl _ | assumption | apply Gr.alloc | apply Gr.drew | apply Gr.drewN | refine Gr.trans ?_ (by assumption))))⟩
    · have hpos : 0 < st.length := by cases st with
        | nil => exact absurd rfl h0
        | cons a r => simp
      have hl : liveF S trans = [] := stuck_live (x := ix st 0) (by rw [← hst]; exact ix_mem hpos) trans
      have HL := Lib.hid hl
      have hpos' : 0 < (stuckF S).length := by rw [← hst]; exact hpos
      have hsl : (stuckF S).length ≤ 5864062014805 := Nat.le_trans (by rw [stuck_pick]; exact pickTo_len _ _) hm
      clear hst hho h0 hl hpos
      go_enter Try.func4, Try.ntmps4
      go_wp2_with fail
      refine (alive7_calls _).mono ?_
      rintro _ w1 ⟨rfl, g1⟩
      have B0 := box_cell g1 (i := 0) rfl
      have B1 := box_cell g1 (i := 1) rfl
      have GW : Gr w w1 := ((Gr.refl w).alloc _).trans g1
      clear g1
      go_wp2_with fail
      refine (SRight_calls _ S _ (hv'.gr GW)).mono ?_
      rw [HR.out]; rintro _ w2 ⟨rfl, g2⟩
      replace B0 := cell_gr B0 g2
      replace B1 := cell_gr B1 g2
      replace GW := GW.trans g2
      clear g2
      go_wp2_with fail
      go_region_held3 (fun w' => w'.cell? ⟨w.heap.size, 0, none⟩ = some (.slice ma S.marks.length mc) ∧ w'.cell? ⟨w.heap.size, 1, none⟩ = some (.slice aa S.arcs.length ac)) (first | go_keep | ((refine ⟨cell_gr B0 ?_, cell_gr B1 ?_⟩); (all_goals (focus ((repeat (first | exact Gr.refl _ | assumption | apply Gr.alloc | apply Gr.drew | apply Gr.drewN | refine Gr.trans ?_ (by assumption))); done))))) (first | (go_at_call 24; (with_reducible refine (Stuck_slice _ S _ (hv'.gr ?_) HR.out hm ha).mono ?_); ((focus (exact GW.trans (by (repeat (first | exact Gr.refl _ | assumption | apply Gr.alloc | apply Gr.drew | apply Gr.drewN | refine Gr.trans ?_ (by assumption)))); done))); rintro _ w3 ⟨sa, sc, rfl, o3, g3⟩) | (go_at_call 23; (with_reducible refine (Home_slice _ S _ (hv'.gr ?_) hm ha).mono ?_); ((focus (exact GW.trans (by (repeat (first | exact Gr.refl _ | assumption | apply Gr.alloc | apply Gr.drew | apply Gr.drewN | refine Gr.trans ?_ (by assumption)))); done))); rintro _ w4 ⟨ha', hc', rfl, o4, g4⟩))
      have O3 := o3.ints.gr g4
      have O4 := o4.ints
      have GG : Gr w2 w4 := by (repeat (first | exact Gr.refl _ | assumption | apply Gr.alloc | apply Gr.drew | apply Gr.drewN | refine Gr.trans ?_ (by assumption)))
      have GE : Gr w w4 := GW.trans GG
      replace B0 := cell_gr B0 GG
      replace B1 := cell_gr B1 GG
      have q1 : (((stuckF S).length : Int) == 0) = false := beq_eq_false_iff_ne.2 (by omega)
      have q2 : ((stuckF S).length == 0) = false := beq_eq_false_iff_ne.2 (by omega)
      clear g3 g4 o3 o4 GG
      go_wp2_with fail
      refine (Live_calls _ S trans _ (hv'.gr GE) ht hm ha).mono ?_
      rw [HL.out]; rintro _ w5 ⟨v5, rfl, o5, g5⟩
      obtain ⟨a5, c5, rfl, _, _⟩ := o5.ints.len
      replace O3 := O3.gr g5
      replace O4 := O4.gr g5
      replace GE := GE.trans g5
      clear g5 o5 B0 B1
      go_wp2_with fail
      go_loopw [39] (fun q wr => ∃ k : Nat, q = .int .i64 k ∧ k ≤ (stuckF S).length ∧ Gr w5 wr) (fun q _ => (stuckF S).length - (intOf q).toNat)
      case atStart => exact ⟨0, rfl, Nat.zero_le _, Gr.refl _⟩
      case round =>
        rename World => wo
        obtain ⟨k, rfl, hk, hgr⟩ := hrel
        by_cases hlt : k < (stuckF S).length
        · obtain ⟨b, o, rfl, hc⟩ := (O3.gr hgr).cell hlt
          have hkI : (k : Int) < ((stuckF S).length : Int) := by omega
          have hmem : nth (stuckF S) k ∈ stuckF S := by rw [nth_lt hlt]; exact List.getElem_mem hlt
          cases hh : hasB (homeF S) (nth (stuckF S) k)
          · go_wp2_with fail
            refine (Contains_calls _ (homeF S) (nth (stuckF S) k) _ (O4.gr hgr)).mono ?_
            rw [hh]; rintro _ _ ⟨rfl, rfl⟩
            clear hh
            go_wp2_with fail
            go_roundw
            case rel => exact ⟨k + 1, by go_num, by omega, hgr⟩
            case measure => simp [intOf]; omega
          · obtain ⟨l1, l2⟩ := stuck_home hmem ((hasB_iff _ _).1 hh)
            have q3 : (((homeF S).length : Int) != 1) = false := by rw [l1]; rfl
            have q4 : (((stuckF S).length : Int) != 1) = false := by rw [l2]; rfl
            have q5 : ((homeF S).length != 1) = false := by rw [l1]; rfl
            have q6 : ((stuckF S).length != 1) = false := by rw [l2]; rfl
            clear l1 l2 hmem
            go_wp2_with fail
            refine (Contains_calls _ (homeF S) (nth (stuckF S) k) _ (O4.gr hgr)).mono ?_
            rw [hh]; rintro _ _ ⟨rfl, rfl⟩
            clear hh
            go_wp2_with fail
            go_roundw
            case rel => exact ⟨k + 1, by go_num, by omega, hgr⟩
            case measure => simp [intOf]; omega
        · obtain rfl : k = (stuckF S).length := by omega
          go_wp2_with fail
          go_ret
          exact ⟨rfl, GE.trans hgr⟩
end Go.Proofs.Ytelfbfjegmncaaa
