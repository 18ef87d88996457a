/- The call ReachTrue answers true at any net, mark, limit, number and sequence that read as data; nothing that lay there turns. -/
import Derived.Test.YtelfbfjegmncaaaWReachClosed
namespace Go.Tok
theorem Whole.path {N : NetD} {m : List Int} {most : Int} {s : FinD} (hs : searchF N m most = (s, 0)) (h : Whole N m most.toNat s) {k : Nat} (hk : k < s.marks.length) : pathF N m (ix s.marks k) most = ((trail s k).reverse, 0) := by
  have hin := ix_mem hk
  obtain ⟨h1, h2⟩ := mem_idx hin
  have := h.inj h1 hk h2
  unfold pathF
  rw [hs, if_pos rfl, if_pos hin, this]
end Go.Tok
namespace Go.Proofs.Ytelfbfjegmncaaa
open Go.RowKit Go.Tok
set_option linter.unusedVariables false
set_option maxHeartbeats 8000000 in
set_option maxRecDepth 100000 in
theorem ReachTrue_walk {v u z : Value} {N : NetD} {m seq : List Int} {most k : Int} (w : World) (hN : NetR w v N) (hm0 : Ints w u m ∧ m.length ≤ 17592186043904) (hmo : I64 most) (hk : I64 k) (hz0 : Ints w z seq ∧ seq.length ≤ 17592186043904) :
    Calls Try.prog 7 #[v, u, .int .i64 most, .int .i64 k, z] w fun e w' => e = .returned (.bool true) ∧ Gr w w' := by
  obtain ⟨hm, _⟩ := hm0
  obtain ⟨hz, hzl⟩ := hz0
  have hN' := hN
  obtain ⟨a, cap, rfl, hnl, hncap, hpl, hT⟩ := hN.open_
  have hpl1 := hpl.1
  have hpl2 := hpl.2
  obtain ⟨za, zc, rfl, _, _⟩ := hz.len
  rcases ha : graphF N m most with ⟨A, e⟩
  have HA := Lib.hid ha
  by_cases he : e = 0
  case neg =>
    have q1 : (e != 0) = true := by simpa using he
    clear ha he
    go_enter Try.func7, Try.ntmps7
    go_wp2_with fail
    refine (alive4_calls _).mono ?_
    rintro _ w1 ⟨rfl, g1⟩
    have B0 := box_cell g1 (i := 0) rfl
    have B1 := box_cell g1 (i := 1) rfl
    have GW : Gr w w1 := ((Gr.refl w).alloc _).trans g1
    go_wp2_with fail
    refine (Graph_calls _ _ N m most _ (hN'.gr GW) (hm.gr GW) hmo).mono ?_
    rw [HA.out]; rintro _ w2 ⟨v2, rfl, i2, g2⟩
    obtain ⟨ma, mc, aa, ac, rfl, hc1, hc2, hc3, hc4, ms, sas⟩ := i2.open_
    have GS : Gr w2 (w2.alloc (.cells #[.slice ma A.marks.length mc, .slice aa A.arcs.length ac] 40)) := (Gr.refl _).alloc _
    have S0 : (w2.alloc (.cells #[.slice ma A.marks.length mc, .slice aa A.arcs.length ac] 40)).cell? ⟨w2.heap.size, 0, none⟩ = some (.slice ma A.marks.length mc) := box_cell (Gr.refl _) (i := 0) rfl
    have S1 : (w2.alloc (.cells #[.slice ma A.marks.length mc, .slice aa A.arcs.length ac] 40)).cell? ⟨w2.heap.size, 1, none⟩ = some (.slice aa A.arcs.length ac) := box_cell (Gr.refl _) (i := 1) rfl
    replace B0 := cell_gr (cell_gr B0 g2) GS
    replace B1 := cell_gr (cell_gr B1 g2) GS
    replace GW := (GW.trans g2).trans GS
    replace ms := ms.gr GS
    replace sas := sas.gr GS
    clear g1 i2 g2
    go_wp2_with fail
    go_ret
    exact ⟨rfl, GW⟩
  case pos =>
    subst he
    by_cases hk0 : k < 0
    · clear ha
      go_enter Try.func7, Try.ntmps7
      go_wp2_with fail
      refine (alive4_calls _).mono ?_
      rintro _ w1 ⟨rfl, g1⟩
      have B0 := box_cell g1 (i := 0) rfl
      have B1 := box_cell g1 (i := 1) rfl
      have GW : Gr w w1 := ((Gr.refl w).alloc _).trans g1
      go_wp2_with fail
      refine (Graph_calls _ _ N m most _ (hN'.gr GW) (hm.gr GW) hmo).mono ?_
      rw [HA.out]; rintro _ w2 ⟨v2, rfl, i2, g2⟩
      obtain ⟨ma, mc, aa, ac, rfl, hc1, hc2, hc3, hc4, ms, sas⟩ := i2.open_
      have GS : Gr w2 (w2.alloc (.cells #[.slice ma A.marks.length mc, .slice aa A.arcs.length ac] 40)) := (Gr.refl _).alloc _
      have S0 : (w2.alloc (.cells #[.slice ma A.marks.length mc, .slice aa A.arcs.length ac] 40)).cell? ⟨w2.heap.size, 0, none⟩ = some (.slice ma A.marks.length mc) := box_cell (Gr.refl _) (i := 0) rfl
      have S1 : (w2.alloc (.cells #[.slice ma A.marks.length mc, .slice aa A.arcs.length ac] 40)).cell? ⟨w2.heap.size, 1, none⟩ = some (.slice aa A.arcs.length ac) := box_cell (Gr.refl _) (i := 1) rfl
      replace B0 := cell_gr (cell_gr B0 g2) GS
      replace B1 := cell_gr (cell_gr B1 g2) GS
      replace GW := (GW.trans g2).trans GS
      replace ms := ms.gr GS
      replace sas := sas.gr GS
      clear g1 i2 g2
      go_wp2_with fail
      go_ret
      exact ⟨rfl, GW⟩
    by_cases hk1 : (A.marks.length : Int) ≤ k
    · have hk0' : 0 ≤ k := by omega
      clear ha hk0
      go_enter Try.func7, Try.ntmps7
      go_wp2_with fail
      refine (alive4_calls _).mono ?_
      rintro _ w1 ⟨rfl, g1⟩
      have B0 := box_cell g1 (i := 0) rfl
      have B1 := box_cell g1 (i := 1) rfl
      have GW : Gr w w1 := ((Gr.refl w).alloc _).trans g1
      go_wp2_with fail
      refine (Graph_calls _ _ N m most _ (hN'.gr GW) (hm.gr GW) hmo).mono ?_
      rw [HA.out]; rintro _ w2 ⟨v2, rfl, i2, g2⟩
      obtain ⟨ma, mc, aa, ac, rfl, hc1, hc2, hc3, hc4, ms, sas⟩ := i2.open_
      have GS : Gr w2 (w2.alloc (.cells #[.slice ma A.marks.length mc, .slice aa A.arcs.length ac] 40)) := (Gr.refl _).alloc _
      have S0 : (w2.alloc (.cells #[.slice ma A.marks.length mc, .slice aa A.arcs.length ac] 40)).cell? ⟨w2.heap.size, 0, none⟩ = some (.slice ma A.marks.length mc) := box_cell (Gr.refl _) (i := 0) rfl
      have S1 : (w2.alloc (.cells #[.slice ma A.marks.length mc, .slice aa A.arcs.length ac] 40)).cell? ⟨w2.heap.size, 1, none⟩ = some (.slice aa A.arcs.length ac) := box_cell (Gr.refl _) (i := 1) rfl
      replace B0 := cell_gr (cell_gr B0 g2) GS
      replace B1 := cell_gr (cell_gr B1 g2) GS
      replace GW := (GW.trans g2).trans GS
      replace ms := ms.gr GS
      replace sas := sas.gr GS
      clear g1 i2 g2
      go_wp2_with fail
      go_ret
      exact ⟨rfl, GW⟩
    obtain ⟨k, rfl⟩ := Int.eq_ofNat_of_zero_le (show 0 ≤ k by omega)
    have hkl : k < A.marks.length := by omega
    have hkI : (k : Int) < (A.marks.length : Int) := by omega
    clear hk0 hk1
    obtain ⟨s, hs, rfl, h1, h2, hfit, hW⟩ := graph_search ha
    simp only [] at hkl hkI
    have hrun := (trail_runs hW k hkl).runF hfit
    have hpath := hW.path hs hkl
    obtain ⟨p, hp⟩ : ∃ p, p = (trail s k).reverse := ⟨_, rfl⟩
    have hpl : p.length = (trail s k).length := by rw [hp, List.length_reverse]
    rw [← hp] at hrun hpath
    obtain ⟨x, hx⟩ : ∃ x, x = ix s.marks k := ⟨_, rfl⟩
    rw [← hx] at hrun hpath
    have HX := Lib.hid hx
    have HRUN := Lib.hid hrun
    have HPATH := Lib.hid hpath
    have HW := Lib.hid hW
    have HFIT := Lib.hid hfit
    have HPL := Lib.hid hpl
    clear ha hs h1 h2 hfit hW hrun hpath hp hpl hx
    have d1 : decide (s.marks.length ≤ k) = false := by simp; omega
    have d2 : decide ((k : Int) < 0) = false := by simp
    go_enter Try.func7, Try.ntmps7
    go_wp2_with fail
    refine (alive4_calls _).mono ?_
    rintro _ w1 ⟨rfl, g1⟩
    have B0 := box_cell g1 (i := 0) rfl
    have B1 := box_cell g1 (i := 1) rfl
    have GW : Gr w w1 := ((Gr.refl w).alloc _).trans g1
    go_wp2_with fail
    refine (Graph_calls _ _ N m most _ (hN'.gr GW) (hm.gr GW) hmo).mono ?_
    rw [HA.out]; rintro _ w2 ⟨v2, rfl, i2, g2⟩
    obtain ⟨ma, mc, aa, ac, rfl, hc1, hc2, hc3, hc4, ms, sas⟩ := i2.open_
    have GS : Gr w2 (w2.alloc (.cells #[.slice ma s.marks.length mc, .slice aa s.arcs.length ac] 40)) := (Gr.refl _).alloc _
    have S0 : (w2.alloc (.cells #[.slice ma s.marks.length mc, .slice aa s.arcs.length ac] 40)).cell? ⟨w2.heap.size, 0, none⟩ = some (.slice ma s.marks.length mc) := box_cell (Gr.refl _) (i := 0) rfl
    have S1 : (w2.alloc (.cells #[.slice ma s.marks.length mc, .slice aa s.arcs.length ac] 40)).cell? ⟨w2.heap.size, 1, none⟩ = some (.slice aa s.arcs.length ac) := box_cell (Gr.refl _) (i := 1) rfl
    replace B0 := cell_gr (cell_gr B0 g2) GS
    replace B1 := cell_gr (cell_gr B1 g2) GS
    replace GW := (GW.trans g2).trans GS
    replace ms := ms.gr GS
    replace sas := sas.gr GS
    clear g1 i2 g2
    simp only [] at hc1 hc3 ms sas S0 S1 GS
    go_wp2_with fail
    generalize w2.alloc (.cells #[.slice ma s.marks.length mc, .slice aa s.arcs.length ac] 40) = w3 at GS S0 S1 B0 B1 GW ms sas ⊢
    go_loopw [48] (fun q wr => ∃ i : Nat, i ≤ s.arcs.length ∧ q = .int .i64 i ∧ Gr w3 wr) (fun q _ => s.arcs.length - (intOf q).toNat)
    case atStart => exact ⟨0, Nat.zero_le _, rfl, Gr.refl _⟩
    case round =>
      rename World => wo
      obtain ⟨i, hi, rfl, hgo⟩ := hrel
      by_cases hlt : i < s.arcs.length
      · obtain ⟨ab, ao, rfl, c0, c1, c2, hI⟩ := (sas.gr hgo).arc hlt
        obtain ⟨i', t, j, he, h3, h4, hF⟩ := HW.out.arc _ (ix_mem hlt)
        rw [he] at c0 c1 c2 hI
        have hfire := fire_eq (HW.out.fit _ (ix_mem h3)) hF
        have HF := Lib.hid hfire
        have htI : I64 (t : Int) := hI.2.1
        have GA : Gr wo (wo.alloc (.cells #[.int .i64 (i' : Int), .int .i64 (t : Int), .int .i64 (j : Int)] 56)) := (Gr.refl _).alloc _
        have A0 : (wo.alloc (.cells #[.int .i64 (i' : Int), .int .i64 (t : Int), .int .i64 (j : Int)] 56)).cell? ⟨wo.heap.size, 0, none⟩ = some (.int .i64 (i' : Int)) := box_cell (Gr.refl _) (i := 0) rfl
        have A1 : (wo.alloc (.cells #[.int .i64 (i' : Int), .int .i64 (t : Int), .int .i64 (j : Int)] 56)).cell? ⟨wo.heap.size, 1, none⟩ = some (.int .i64 (t : Int)) := box_cell (Gr.refl _) (i := 1) rfl
        have A2 : (wo.alloc (.cells #[.int .i64 (i' : Int), .int .i64 (t : Int), .int .i64 (j : Int)] 56)).cell? ⟨wo.heap.size, 2, none⟩ = some (.int .i64 (j : Int)) := box_cell (Gr.refl _) (i := 2) rfl
        have S0' := cell_gr (cell_gr S0 hgo) GA
        have B0' := cell_gr (cell_gr B0 hgo) GA
        have B1' := cell_gr (cell_gr B1 hgo) GA
        have ms' := (ms.gr hgo).gr GA
        have GG := hgo.trans GA
        obtain ⟨b, o, y, rfl, d0, hJ⟩ := ms'.row h3
        obtain ⟨b2, o2, y2, hb2, d2, hJ2⟩ := ms'.row h4
        cases hb2
        obtain ⟨ya, yc, rfl, _, _⟩ := hJ.len
        obtain ⟨ya2, yc2, rfl, _, _⟩ := hJ2.len
        have h3I : (i' : Int) < (s.marks.length : Int) := by omega
        have h4I : (j : Int) < (s.marks.length : Int) := by omega
        have h30 : (0 : Int) ≤ (i' : Int) := by omega
        have h40 : (0 : Int) ≤ (j : Int) := by omega
        have hiI : (i : Int) < (s.arcs.length : Int) := by omega
        have hee := eqB_yes (rfl : ix s.marks j = ix s.marks j)
        clear he hfire hF hI
        go_wp2_with fail
        generalize wo.alloc (.cells #[.int .i64 (i' : Int), .int .i64 (t : Int), .int .i64 (j : Int)] 56) = wa at GA A0 A1 A2 S0' B0' B1' ms' GG d0 d2 hJ hJ2 ⊢
        go_region_held3 (fun w' => w'.cell? ⟨w.heap.size, 0, none⟩ = some (.int .i64 N.places) ∧ w'.cell? ⟨w.heap.size, 1, none⟩ = some (.slice a N.trans.length cap) ∧ w'.cell? ⟨w2.heap.size, 0, none⟩ = some (.slice (some ⟨b, o, none⟩) s.marks.length mc) ∧ w'.cell? ⟨wo.heap.size, 0, none⟩ = some (.int .i64 (i' : Int)) ∧ w'.cell? ⟨wo.heap.size, 1, none⟩ = some (.int .i64 (t : Int)) ∧ w'.cell? ⟨b, o + i', none⟩ = some (.slice ya (ix s.marks i').length yc)) (first | go_keep | ((refine ⟨cell_gr B0' ?_, cell_gr B1' ?_, cell_gr S0' ?_, cell_gr A0 ?_, cell_gr A1 ?_, cell_gr d0 ?_⟩); (all_goals (focus ((repeat (first | exact Gr.refl _ | assumption | apply Gr.alloc | apply Gr.drew | apply Gr.drewN | refine Gr.trans ?_ (by assumption))); done))))) (first | (go_at_call 32; (with_reducible refine (Fire_own _ _ N (ix s.marks i') _ _ (hN'.gr ?_) (hJ.gr ?_) htI).mono ?_); ((focus (exact (GW.trans GG).trans (by (repeat (first | exact Gr.refl _ | assumption | apply Gr.alloc | apply Gr.drew | apply Gr.drewN | refine Gr.trans ?_ (by assumption)))); done))); ((focus ((repeat (first | exact Gr.refl _ | assumption | apply Gr.alloc | apply Gr.drew | apply Gr.drewN | refine Gr.trans ?_ (by assumption))); done))); rw [HF.out]; rintro _ w5 ⟨vx, rfl, ox, g5⟩))
        have G5 : Gr wa w5 := by (repeat (first | exact Gr.refl _ | assumption | apply Gr.alloc | apply Gr.drew | apply Gr.drewN | refine Gr.trans ?_ (by assumption)))
        obtain ⟨xa, xc, rfl, _, _⟩ := ox.ints.len
        have S5 := cell_gr S0' G5
        have A5 := cell_gr A2 G5
        have d5 := cell_gr d2 G5
        have hJ5 := hJ2.gr G5
        have ox5 := ox.ints
        clear B0' B1' S0' A0 A1 A2 d0 d2 hJ hJ2 ox g5 HF htI
        go_wp2_with fail
        refine (Equal_calls _ _ (ix s.marks j) (ix s.marks j) _ ox5 hJ5).mono ?_
        rw [hee]; rintro _ w6 ⟨rfl, g6⟩
        go_wp2_with fail
        go_roundw
        case rel => exact ⟨i + 1, by omega, by go_num, (GG.trans G5).trans g6⟩
        case measure => simp [intOf]; omega
      · obtain rfl : i = s.arcs.length := by omega
        replace B0 := cell_gr B0 hgo
        replace B1 := cell_gr B1 hgo
        replace S0 := cell_gr S0 hgo
        replace GW := GW.trans hgo
        replace ms := ms.gr hgo
        clear S1 sas hgo GS
        obtain ⟨b, o, y, rfl, d0, hJ⟩ := ms.row hkl
        rw [← HX.out] at hJ
        obtain ⟨ya, yc, rfl, _, _⟩ := hJ.len
        have hk0 : (0 : Int) ≤ (k : Int) := by omega
        rename World => wl
        go_wp2_with fail
        go_region_held3 (fun w' => w'.cell? ⟨w.heap.size, 0, none⟩ = some (.int .i64 N.places) ∧ w'.cell? ⟨w.heap.size, 1, none⟩ = some (.slice a N.trans.length cap) ∧ w'.cell? ⟨w2.heap.size, 0, none⟩ = some (.slice (some ⟨b, o, none⟩) s.marks.length mc) ∧ w'.cell? ⟨b, o + k, none⟩ = some (.slice ya x.length yc)) (first | go_keep | ((refine ⟨cell_gr B0 ?_, cell_gr B1 ?_, cell_gr S0 ?_, cell_gr d0 ?_⟩); (all_goals (focus ((repeat (first | exact Gr.refl _ | assumption | apply Gr.alloc | apply Gr.drew | apply Gr.drewN | refine Gr.trans ?_ (by assumption))); done))))) (first | (go_at_call 33; (with_reducible refine (Path_calls _ _ _ N m x most _ (hN'.gr ?_) (hm.gr ?_) (hJ.gr ?_) hmo).mono ?_); ((focus (exact GW.trans (by (repeat (first | exact Gr.refl _ | assumption | apply Gr.alloc | apply Gr.drew | apply Gr.drewN | refine Gr.trans ?_ (by assumption)))); done))); ((focus (exact GW.trans (by (repeat (first | exact Gr.refl _ | assumption | apply Gr.alloc | apply Gr.drew | apply Gr.drewN | refine Gr.trans ?_ (by assumption)))); done))); ((focus ((repeat (first | exact Gr.refl _ | assumption | apply Gr.alloc | apply Gr.drew | apply Gr.drewN | refine Gr.trans ?_ (by assumption))); done))); rw [HPATH.out]; rintro _ w5 ⟨vp, rfl, op, g5⟩))
        have G5 : Gr wl w5 := by (repeat (first | exact Gr.refl _ | assumption | apply Gr.alloc | apply Gr.drew | apply Gr.drewN | refine Gr.trans ?_ (by assumption)))
        replace B0 := cell_gr B0 G5
        replace B1 := cell_gr B1 G5
        replace S0 := cell_gr S0 G5
        replace d0 := cell_gr d0 G5
        replace hJ := hJ.gr G5
        replace GW := GW.trans G5
        have ip := op.ints
        obtain ⟨pa, pc, rfl, _, _⟩ := ip.len
        clear ms op g5 G5 HPATH
        go_wp2_with fail
        refine (Run_own _ _ _ N m p _ (hN'.gr GW) (hm.gr GW) ip).mono ?_
        rw [HRUN.out]; rintro _ w6 ⟨vx, rfl, ox, g6⟩
        obtain ⟨xa, xc, rfl, _, _⟩ := ox.ints.len
        replace B0 := cell_gr B0 g6
        replace B1 := cell_gr B1 g6
        replace S0 := cell_gr S0 g6
        replace d0 := cell_gr d0 g6
        replace hJ := hJ.gr g6
        replace GW := GW.trans g6
        have ix6 := ox.ints
        clear ox g6 HRUN ip
        rcases hr : runF N m seq with ⟨yy, h⟩
        have HR := Lib.hid hr
        have hexx := eqB_yes (rfl : x = x)
        by_cases hh : h = 0
        · subst hh
          cases he : eqB yy x
          · clear hr
            go_wp2_with fail
            refine (Run_own _ _ _ N m seq _ (hN'.gr GW) (hm.gr GW) (hz.gr GW)).mono ?_
            rw [HR.out]; rintro _ w7 ⟨vy, rfl, oy, g7⟩
            obtain ⟨oya, oyc, rfl, _, _⟩ := oy.ints.len
            have S7 := cell_gr S0 g7
            have d7 := cell_gr d0 g7
            go_wp2_with fail
            refine (Equal_calls _ _ x x _ (ix6.gr g7) (hJ.gr g7)).mono ?_
            rw [hexx]; rintro _ w8 ⟨rfl, g8⟩
            go_wp2_with fail
            refine (Equal_calls _ _ yy x _ (oy.ints.gr g8) (ix6.gr (g7.trans g8))).mono ?_
            rw [he]; rintro _ w9 ⟨rfl, g9⟩
            go_wp2_with fail
            go_ret
            exact ⟨rfl, ((GW.trans g7).trans g8).trans g9⟩
          · have hle := trail_least HW.out hkl (by rw [← HX.out, ← (eqB_iff _ _).1 he]; exact (runF_of hr).2)
            rw [← HPL.out] at hle
            have hleI : (p.length : Int) ≤ (seq.length : Int) := by omega
            clear hr
            go_wp2_with fail
            refine (Run_own _ _ _ N m seq _ (hN'.gr GW) (hm.gr GW) (hz.gr GW)).mono ?_
            rw [HR.out]; rintro _ w7 ⟨vy, rfl, oy, g7⟩
            obtain ⟨oya, oyc, rfl, _, _⟩ := oy.ints.len
            have S7 := cell_gr S0 g7
            have d7 := cell_gr d0 g7
            go_wp2_with fail
            refine (Equal_calls _ _ x x _ (ix6.gr g7) (hJ.gr g7)).mono ?_
            rw [hexx]; rintro _ w8 ⟨rfl, g8⟩
            go_wp2_with fail
            refine (Equal_calls _ _ yy x _ (oy.ints.gr g8) (ix6.gr (g7.trans g8))).mono ?_
            rw [he]; rintro _ w9 ⟨rfl, g9⟩
            go_wp2_with fail
            go_ret
            exact ⟨rfl, ((GW.trans g7).trans g8).trans g9⟩
        · have q1 : (h != 0) = true := by simpa using hh
          clear hr
          go_wp2_with fail
          refine (Run_own _ _ _ N m seq _ (hN'.gr GW) (hm.gr GW) (hz.gr GW)).mono ?_
          rw [HR.out]; rintro _ w7 ⟨vy, rfl, oy, g7⟩
          obtain ⟨oya, oyc, rfl, _, _⟩ := oy.ints.len
          have S7 := cell_gr S0 g7
          have d7 := cell_gr d0 g7
          go_wp2_with fail
          refine (Equal_calls _ _ x x _ (ix6.gr g7) (hJ.gr g7)).mono ?_
          rw [hexx]; rintro _ w8 ⟨rfl, g8⟩
          go_wp2_with fail
          go_ret
          exact ⟨rfl, (GW.trans g7).trans g8⟩
end Go.Proofs.Ytelfbfjegmncaaa
