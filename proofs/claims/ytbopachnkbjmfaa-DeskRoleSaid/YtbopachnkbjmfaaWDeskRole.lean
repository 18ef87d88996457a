/- The call DeskRole answers true at any net, place, roles and operations that read as data; nothing that lay there turns. -/
import Derived.Test.YtbopachnkbjmfaaAlive17
import Derived.Test.YtbopachnkbjmfaaDeskLaw3
namespace Go.Proofs.Ytbopachnkbjmfaa
open Go.RowKit Go.Tok
set_option linter.unusedVariables false
set_option maxHeartbeats 8000000 in
set_option maxRecDepth 100000 in
theorem DeskRole_walk {v vr u : Value} {N : NetD} {i : Int} {roles : List (List Int)} {ops : List OpD} (w : World) (hN : NetR w v N) (hi : I64 i) (hr0 : Rd rowK w vr roles ∧ roles.length ≤ 5864062014805) (hu0 : Rd opK w u ops ∧ ops.length ≤ 3518437208873) :
    Calls Try.prog 5 #[v, .int .i64 i, vr, u] w fun e w' => e = .returned (.bool true) ∧ Gr w w' := by
  obtain ⟨hr, _⟩ := hr0
  obtain ⟨hu, hul⟩ := hu0
  have hN' := hN
  obtain ⟨a, cap, rfl, hnl, hncap, hpl, hT⟩ := hN.open_
  have hpl1 := hpl.1
  have hpl2 := hpl.2
  obtain ⟨ua, uc, rfl, ul, ul'⟩ := hu.len
  obtain ⟨ra, rc, rfl, rl, rl'⟩ := hr.len
  rcases hp : deskPlay N i roles ops with ⟨⟨k, l⟩, e⟩
  have HP := Lib.hid hp
  by_cases he : e = 0
  case neg =>
    have q1 : (e != 0) = true := by simpa using he
    have hz := desk_zero hp he
    have q2 : ((k.items.length : Int) == 0) = true := by rw [hz.1]; rfl
    have q3 : (k.items.length == 0) = true := by rw [hz.1]; rfl
    clear hp he hz
    go_enter Try.func5, Try.ntmps5
    go_wp2_with fail
    refine (alive17_calls _).mono ?_
    rintro _ w1 ⟨rfl, g1⟩
    have B0 := box_cell g1 (i := 0) rfl
    have B1 := box_cell g1 (i := 1) rfl
    have GW : Gr w w1 := ((Gr.refl w).alloc _).trans g1
    go_wp2_with fail
    refine (DeskPlay_calls _ _ _ N i roles ops _ (hN'.gr GW) hi (hr.gr GW) (hu.gr GW) hul).mono ?_
    rw [HP.out]; rintro _ w2 ⟨v2, u2, rfl, i2, j2, g2⟩
    simp only [] at i2 j2
    have i3 := i2
    obtain ⟨ma, mn, ba, bn, ia, jn, rfl, _, _, _, _, hil, hil2, iM, iB, iI⟩ := i2.open_
    obtain ⟨la, lc, rfl, hll, hlc⟩ := j2.len
    have GE : Gr w2 (w2.alloc (.cells #[.slice ma k.case.mark.length mn, .slice ba k.case.busy.length bn, .slice ia k.items.length jn] 48)) := (Gr.refl _).alloc _
    have bk : Blk (w2.alloc (.cells #[.slice ma k.case.mark.length mn, .slice ba k.case.busy.length bn, .slice ia k.items.length jn] 48)) w2.heap.size 48 #[.slice ma k.case.mark.length mn, .slice ba k.case.busy.length bn, .slice ia k.items.length jn] := Blk.new rfl
    replace B0 := cell_gr (cell_gr B0 g2) GE
    replace B1 := cell_gr (cell_gr B1 g2) GE
    replace GW := (GW.trans g2).trans GE
    replace iM := iM.gr GE
    replace iB := iB.gr GE
    replace iI := iI.gr GE
    replace i3 := i3.gr GE
    replace j2 := j2.gr GE
    have K0 := bk.cell (i := 0) rfl
    have K1 := bk.cell (i := 1) rfl
    have K2 := bk.cell (i := 2) rfl
    clear g1 g2 GE i2
    go_wp2_with fail
    generalize w2.alloc (.cells #[.slice ma k.case.mark.length mn, .slice ba k.case.busy.length bn, .slice ia k.items.length jn] 48) = w3 at bk B0 B1 GW iM iB iI i3 j2 K0 K1 K2 ⊢
    generalize w2.heap.size = kb at bk K0 K1 K2 ⊢
    go_wp2_with fail
    go_ret
    exact ⟨rfl, GW⟩
  case pos =>
    subst he
    have HG := Lib.hid (desk_good hp).1
    clear hp
    go_enter Try.func5, Try.ntmps5
    go_wp2_with fail
    refine (alive17_calls _).mono ?_
    rintro _ w1 ⟨rfl, g1⟩
    have B0 := box_cell g1 (i := 0) rfl
    have B1 := box_cell g1 (i := 1) rfl
    have GW : Gr w w1 := ((Gr.refl w).alloc _).trans g1
    go_wp2_with fail
    refine (DeskPlay_calls _ _ _ N i roles ops _ (hN'.gr GW) hi (hr.gr GW) (hu.gr GW) hul).mono ?_
    rw [HP.out]; rintro _ w2 ⟨v2, u2, rfl, i2, j2, g2⟩
    simp only [] at i2 j2
    have i3 := i2
    obtain ⟨ma, mn, ba, bn, ia, jn, rfl, _, _, _, _, hil, hil2, iM, iB, iI⟩ := i2.open_
    obtain ⟨la, lc, rfl, hll, hlc⟩ := j2.len
    have GE : Gr w2 (w2.alloc (.cells #[.slice ma k.case.mark.length mn, .slice ba k.case.busy.length bn, .slice ia k.items.length jn] 48)) := (Gr.refl _).alloc _
    have bk : Blk (w2.alloc (.cells #[.slice ma k.case.mark.length mn, .slice ba k.case.busy.length bn, .slice ia k.items.length jn] 48)) w2.heap.size 48 #[.slice ma k.case.mark.length mn, .slice ba k.case.busy.length bn, .slice ia k.items.length jn] := Blk.new rfl
    replace B0 := cell_gr (cell_gr B0 g2) GE
    replace B1 := cell_gr (cell_gr B1 g2) GE
    replace GW := (GW.trans g2).trans GE
    replace iM := iM.gr GE
    replace iB := iB.gr GE
    replace iI := iI.gr GE
    replace i3 := i3.gr GE
    replace j2 := j2.gr GE
    have K0 := bk.cell (i := 0) rfl
    have K1 := bk.cell (i := 1) rfl
    have K2 := bk.cell (i := 2) rfl
    clear g1 g2 GE i2
    go_wp2_with fail
    generalize w2.alloc (.cells #[.slice ma k.case.mark.length mn, .slice ba k.case.busy.length bn, .slice ia k.items.length jn] 48) = w3 at bk B0 B1 GW iM iB iI i3 j2 K0 K1 K2 ⊢
    generalize w2.heap.size = kb at bk K0 K1 K2 ⊢
    clear iM iB i3 j2
    go_loopw [34] (fun q wr => ∃ x : Nat, q = .int .i64 x ∧ x ≤ k.items.length ∧ Gr w3 wr) (fun q _ => k.items.length - (intOf q).toNat)
    case atStart => exact ⟨0, rfl, Nat.zero_le _, Gr.refl _⟩
    case round =>
      rename World => wo
      obtain ⟨x, rfl, hx, hgr⟩ := hrel
      by_cases hlt : x < k.items.length
      · obtain ⟨b, o, rfl, c0, c1, c2, hI⟩ := (iI.gr hgr).item hlt
        obtain ⟨j, hj, hjl, hm⟩ := HG.out.tran _ (ix_mem hlt)
        obtain ⟨m1, m2, m3, m4⟩ := may_iff.1 hm
        obtain ⟨q, hq⟩ := Int.eq_ofNat_of_zero_le m1
        rw [hq] at c0 m2 m3
        rw [hq, Int.toNat_natCast] at m4
        rw [hj] at c1
        have hxI : (x : Int) < (k.items.length : Int) := by omega
        have hjI : (j : Int) < (N.trans.length : Int) := by omega
        have hj0 : (0 : Int) ≤ (j : Int) := by omega
        have hq0 : (0 : Int) ≤ (q : Int) := by omega
        obtain ⟨rb, ro, ru, rfl, d0, hRow⟩ := ((hr.gr GW).gr hgr).row (show q < roles.length by omega)
        obtain ⟨xa, xc, rfl, _, _⟩ := hRow.len
        have hTT := ((hN'.gr GW).gr hgr)
        obtain ⟨_, _, hagg, _, _, _, hT2⟩ := hTT.open_
        cases hagg
        obtain ⟨tb, to, vp, vq, rfl, t0, _, _, _, _, _⟩ := hT2.at_ hjl
        have hhas := (hasB_iff _ _).2 m4
        have GA : Gr wo (wo.alloc (.cells #[.int .i64 (q : Int), .int .i64 (j : Int), .bool (ix k.items x).opened] 53)) := (Gr.refl _).alloc _
        have X0 : (wo.alloc (.cells #[.int .i64 (q : Int), .int .i64 (j : Int), .bool (ix k.items x).opened] 53)).cell? ⟨wo.heap.size, 0, none⟩ = some (.int .i64 (q : Int)) := box_cell (Gr.refl _) (i := 0) rfl
        have X1 : (wo.alloc (.cells #[.int .i64 (q : Int), .int .i64 (j : Int), .bool (ix k.items x).opened] 53)).cell? ⟨wo.heap.size, 1, none⟩ = some (.int .i64 (j : Int)) := box_cell (Gr.refl _) (i := 1) rfl
        have B1' := cell_gr (cell_gr B1 hgr) GA
        have D0' := cell_gr d0 GA
        have T0' := cell_gr t0 GA
        have hRow' := hRow.gr GA
        have GG := hgr.trans GA
        have d1 : decide ((q : Int) < 0) = false := by simp
        have d2 : decide ((roles.length : Int) ≤ (q : Int)) = false := by simp; omega
        have d3 : decide ((8 : Int) ≤ (q : Int)) = false := by simp; omega
        have d4 : decide ((j : Int) < 0) = false := by simp
        have d5 : decide ((N.trans.length : Int) ≤ (j : Int)) = false := by simp; omega
        have d6 : decide (roles.length ≤ q) = false := by simp; omega
        have d7 : decide (8 ≤ q) = false := by simp; omega
        have d8 : decide (N.trans.length ≤ j) = false := by simp; omega
        clear hTT hT2 hm hI m1 m4 hj hq t0 d0 hRow
        go_wp2_with fail
        generalize wo.alloc (.cells #[.int .i64 (q : Int), .int .i64 (j : Int), .bool (ix k.items x).opened] 53) = wa at GA X0 X1 B1' D0' T0' hRow' GG ⊢
        go_region_held3 (fun w' => w'.cell? ⟨wo.heap.size, 0, none⟩ = some (.int .i64 (q : Int)) ∧ w'.cell? ⟨wo.heap.size, 1, none⟩ = some (.int .i64 (j : Int)) ∧ w'.cell? ⟨w.heap.size, 1, none⟩ = some (.slice (some ⟨tb, to, none⟩) N.trans.length cap) ∧ w'.cell? ⟨rb, ro + q, none⟩ = some (.slice xa (ix roles q).length xc) ∧ w'.cell? ⟨tb, to + j * 3, none⟩ = some (.int .i64 (N.tr j).label)) (first | go_keep | ((refine ⟨cell_gr X0 ?_, cell_gr X1 ?_, cell_gr B1' ?_, cell_gr D0' ?_, cell_gr T0' ?_⟩); (all_goals (focus ((repeat (first | exact Gr.refl _ | assumption | apply Gr.alloc | apply Gr.drew | apply Gr.drewN | refine Gr.trans ?_ (by assumption))); done))))) (first | (go_at_call 26; (with_reducible refine (Contains_calls _ (ix roles q) (N.tr j).label _ (hRow'.gr ?_)).mono ?_); ((focus ((repeat (first | exact Gr.refl _ | assumption | apply Gr.alloc | apply Gr.drew | apply Gr.drewN | refine Gr.trans ?_ (by assumption))); done))); rw [hhas]; rintro _ _ ⟨rfl, rfl⟩))
        go_wp2_with fail
        go_roundw
        case rel => exact ⟨x + 1, by go_num, by omega, GG.trans (by (repeat (first | exact Gr.refl _ | assumption | apply Gr.alloc | apply Gr.drew | apply Gr.drewN | refine Gr.trans ?_ (by assumption))))⟩
        case measure => simp [intOf]; omega
      · obtain rfl : x = k.items.length := by omega
        go_wp2_with fail
        go_ret
        exact ⟨rfl, GW.trans hgr⟩
end Go.Proofs.Ytbopachnkbjmfaa
