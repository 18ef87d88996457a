/- The call CasesOnce answers true at any net, case and transition that read as data; nothing that lay there turns. -/
import Derived.Test.YtmigejcejnofiaaAlive16
namespace Go.Proofs.Ytmigejcejnofiaa
open Go.RowKit Go.Tok
set_option linter.unusedVariables false

set_option maxHeartbeats 4000000 in
set_option maxRecDepth 100000 in
theorem CasesOnce_walk {v u : Value} {N : NetD} {c : CaseD} {t : Int} (w : World) (hN : NetR w v N) (hc : CaseR w u c) (ht : I64 t) :
    Calls Try.prog 13 #[v, u, .int .i64 t] w fun e w' => e = .returned (.bool true) ∧ Gr w w' := by
  have hN' := hN
  obtain ⟨a, cap, rfl, hnl, hncap, hpl, hT⟩ := hN.open_
  have hpl1 := hpl.1
  have hpl2 := hpl.2
  have hc0 := hc
  obtain ⟨ma, mc, ba, bc, rfl, hml, hml', hbl, hbl', hM, hB⟩ := hc.open_
  have hB' := hB
  clear hB
  rcases begin_cases N c t with ⟨e, hd, he⟩ | ⟨x, j, rfl, hd, hB⟩
  · have HD := Lib.hid hd
    have q1 : (e != 0) = true := by simpa using he
    obtain ⟨x, hx⟩ : ∃ x, x = zeroC := ⟨_, rfl⟩
    rw [← hx] at HD
    rcases hy : doF N x 3 t with ⟨y, f⟩
    rcases hf : fireF N c.mark t with ⟨m, g⟩
    have HY := Lib.hid hy
    have HF := Lib.hid hf
    clear hd he hx hy hf
    go_enter Try.func13, Try.ntmps13
    go_wp2_with fail
    refine (alive16_calls _).mono ?_
    rintro _ w1 ⟨rfl, g1⟩
    have g1' : Gr (w.alloc (.cells #[.int .i64 N.places, .slice a N.trans.length cap] 24)) w1 := ((Gr.refl _).alloc _).trans g1
    have B0 := box_cell g1' (i := 0) rfl
    have B1 := box_cell g1' (i := 1) rfl
    have X0 : w1.cell? ⟨w.heap.size + 1, 0, none⟩ = some (.slice ma c.mark.length mc) := by have h := box_cell g1 (i := 0) rfl; simpa using h
    have X1 : w1.cell? ⟨w.heap.size + 1, 1, none⟩ = some (.slice ba c.busy.length bc) := by have h := box_cell g1 (i := 1) rfl; simpa using h
    have GW1 : Gr w w1 := ((Gr.refl w).alloc _).trans g1'
    go_wp2_with fail
    refine (Do_calls _ _ N c 2 _ _ (hN'.gr GW1) (hc0.gr GW1) (by decide) ht).mono ?_
    rw [HD.out]; rintro _ w2 ⟨v2, rfl, i2, g2⟩
    clear GW1
    obtain ⟨xa, xn, ya, yn, rfl, _, _, _, _, _, _⟩ := i2.r.open_
    have GX : Gr w2 (w2.alloc (.cells #[.slice xa x.mark.length xn, .slice ya x.busy.length yn] 65)) := (Gr.refl _).alloc _
    have Y0 : (w2.alloc (.cells #[.slice xa x.mark.length xn, .slice ya x.busy.length yn] 65)).cell? ⟨w2.heap.size, 0, none⟩ = some (.slice xa x.mark.length xn) := box_cell (Gr.refl _) (i := 0) rfl
    have Y1 : (w2.alloc (.cells #[.slice xa x.mark.length xn, .slice ya x.busy.length yn] 65)).cell? ⟨w2.heap.size, 1, none⟩ = some (.slice ya x.busy.length yn) := box_cell (Gr.refl _) (i := 1) rfl
    replace B0 := cell_gr (cell_gr B0 g2) GX
    replace B1 := cell_gr (cell_gr B1 g2) GX
    have GW : Gr w w2 := by (repeat (first | exact Gr.refl _ | assumption | apply Gr.alloc | apply Gr.drew | apply Gr.drewN | refine Gr.trans ?_ (by assumption)))
    replace GW := GW.trans GX
    have X2 := cell_gr (cell_gr X0 g2) GX
    have X3 := cell_gr (cell_gr X1 g2) GX
    clear g1 g1' g2 X0 X1
    go_wp2_with fail
    refine (Do_calls _ _ N x 3 _ _ (hN'.gr GW) (i2.r.gr GX) (by decide) ht).mono ?_
    rw [HY.out]; rintro _ w3 ⟨v3, rfl, i3, g3⟩
    obtain ⟨za, zn, ua, un, rfl, _, _, _, _, _, _⟩ := i3.r.open_
    have GX3 : Gr w3 (w3.alloc (.cells #[.slice za y.mark.length zn, .slice ua y.busy.length un] 65)) := (Gr.refl _).alloc _
    have Z0 : (w3.alloc (.cells #[.slice za y.mark.length zn, .slice ua y.busy.length un] 65)).cell? ⟨w3.heap.size, 0, none⟩ = some (.slice za y.mark.length zn) := box_cell (Gr.refl _) (i := 0) rfl
    have Z1 : (w3.alloc (.cells #[.slice za y.mark.length zn, .slice ua y.busy.length un] 65)).cell? ⟨w3.heap.size, 1, none⟩ = some (.slice ua y.busy.length un) := box_cell (Gr.refl _) (i := 1) rfl
    have X4 := cell_gr (cell_gr X2 g3) GX3
    have X5 := cell_gr (cell_gr X3 g3) GX3
    replace B0 := cell_gr (cell_gr B0 g3) GX3
    replace B1 := cell_gr (cell_gr B1 g3) GX3
    replace GW := (GW.trans g3).trans GX3
    go_wp2_with fail
    refine (Fire_calls _ _ N c.mark _ _ (hN'.gr GW) (hM.gr GW) ht).mono ?_
    rw [HF.out]; rintro _ w4 ⟨v4, rfl, i4, g4⟩
    obtain ⟨ma4, mc4, rfl, _, _⟩ := i4.len
    have GW4 := GW.trans g4
    replace Z0 := cell_gr Z0 g4
    replace Z1 := cell_gr Z1 g4
    replace X5 := cell_gr X5 g4
    go_wp2_with fail
    go_ret
    exact ⟨rfl, GW4⟩
  · have HD := Lib.hid hd
    rcases once_law hB with ⟨m, hy, hf⟩ | ⟨e, hy, he, hf⟩
    · obtain ⟨y, hyy⟩ : ∃ y : CaseD, y = ⟨m, c.busy⟩ := ⟨_, rfl⟩
      rw [← hyy] at hy
      have HY := Lib.hid hy
      have HF := Lib.hid hf
      have e6 : eqB y.mark m = true := eqB_yes (by rw [hyy])
      have e7 : eqB y.busy c.busy = true := eqB_yes (by rw [hyy])
      clear hd hB hy hf hyy
      go_enter Try.func13, Try.ntmps13
      go_wp2_with fail
      refine (alive16_calls _).mono ?_
      rintro _ w1 ⟨rfl, g1⟩
      have g1' : Gr (w.alloc (.cells #[.int .i64 N.places, .slice a N.trans.length cap] 24)) w1 := ((Gr.refl _).alloc _).trans g1
      have B0 := box_cell g1' (i := 0) rfl
      have B1 := box_cell g1' (i := 1) rfl
      have X0 : w1.cell? ⟨w.heap.size + 1, 0, none⟩ = some (.slice ma c.mark.length mc) := by have h := box_cell g1 (i := 0) rfl; simpa using h
      have X1 : w1.cell? ⟨w.heap.size + 1, 1, none⟩ = some (.slice ba c.busy.length bc) := by have h := box_cell g1 (i := 1) rfl; simpa using h
      have GW1 : Gr w w1 := ((Gr.refl w).alloc _).trans g1'
      go_wp2_with fail
      refine (Do_calls _ _ N c 2 _ _ (hN'.gr GW1) (hc0.gr GW1) (by decide) ht).mono ?_
      rw [HD.out]; rintro _ w2 ⟨v2, rfl, i2, g2⟩
      clear GW1
      obtain ⟨xa, xn, ya, yn, rfl, _, _, _, _, _, _⟩ := i2.r.open_
      have GX : Gr w2 (w2.alloc (.cells #[.slice xa x.mark.length xn, .slice ya x.busy.length yn] 65)) := (Gr.refl _).alloc _
      have Y0 : (w2.alloc (.cells #[.slice xa x.mark.length xn, .slice ya x.busy.length yn] 65)).cell? ⟨w2.heap.size, 0, none⟩ = some (.slice xa x.mark.length xn) := box_cell (Gr.refl _) (i := 0) rfl
      have Y1 : (w2.alloc (.cells #[.slice xa x.mark.length xn, .slice ya x.busy.length yn] 65)).cell? ⟨w2.heap.size, 1, none⟩ = some (.slice ya x.busy.length yn) := box_cell (Gr.refl _) (i := 1) rfl
      replace B0 := cell_gr (cell_gr B0 g2) GX
      replace B1 := cell_gr (cell_gr B1 g2) GX
      have GW : Gr w w2 := by (repeat (first | exact Gr.refl _ | assumption | apply Gr.alloc | apply Gr.drew | apply Gr.drewN | refine Gr.trans ?_ (by assumption)))
      replace GW := GW.trans GX
      have X2 := cell_gr (cell_gr X0 g2) GX
      have X3 := cell_gr (cell_gr X1 g2) GX
      clear g1 g1' g2 X0 X1
      go_wp2_with fail
      refine (Do_calls _ _ N x 3 _ _ (hN'.gr GW) (i2.r.gr GX) (by decide) ht).mono ?_
      rw [HY.out]; rintro _ w3 ⟨v3, rfl, i3, g3⟩
      obtain ⟨za, zn, ua, un, rfl, _, _, _, _, _, _⟩ := i3.r.open_
      have GX3 : Gr w3 (w3.alloc (.cells #[.slice za y.mark.length zn, .slice ua y.busy.length un] 65)) := (Gr.refl _).alloc _
      have Z0 : (w3.alloc (.cells #[.slice za y.mark.length zn, .slice ua y.busy.length un] 65)).cell? ⟨w3.heap.size, 0, none⟩ = some (.slice za y.mark.length zn) := box_cell (Gr.refl _) (i := 0) rfl
      have Z1 : (w3.alloc (.cells #[.slice za y.mark.length zn, .slice ua y.busy.length un] 65)).cell? ⟨w3.heap.size, 1, none⟩ = some (.slice ua y.busy.length un) := box_cell (Gr.refl _) (i := 1) rfl
      have X4 := cell_gr (cell_gr X2 g3) GX3
      have X5 := cell_gr (cell_gr X3 g3) GX3
      replace B0 := cell_gr (cell_gr B0 g3) GX3
      replace B1 := cell_gr (cell_gr B1 g3) GX3
      replace GW := (GW.trans g3).trans GX3
      go_wp2_with fail
      refine (Fire_calls _ _ N c.mark _ _ (hN'.gr GW) (hM.gr GW) ht).mono ?_
      rw [HF.out]; rintro _ w4 ⟨v4, rfl, i4, g4⟩
      obtain ⟨ma4, mc4, rfl, _, _⟩ := i4.len
      have GW4 := GW.trans g4
      replace Z0 := cell_gr Z0 g4
      replace Z1 := cell_gr Z1 g4
      replace X5 := cell_gr X5 g4
      obtain ⟨_, _, _, _, hv, _, _, _, _, KM, KB⟩ := i3.r.open_
      cases hv
      have G34 : Gr w3 w4 := GX3.trans g4
      replace KM := KM.gr G34
      replace KB := KB.gr G34
      go_wp2_with fail
      refine (Equal_calls _ _ y.mark m _ KM i4).mono ?_
      rw [e6]; rintro _ w5 ⟨rfl, g5⟩
      replace Z1 := cell_gr Z1 g5
      replace X5 := cell_gr X5 g5
      go_wp2_with fail
      refine (Equal_calls _ _ y.busy c.busy _ (KB.gr g5) (hB'.gr (GW4.trans g5))).mono ?_
      rw [e7]; rintro _ w6 ⟨rfl, g6⟩
      go_wp2_with fail
      go_ret
      exact ⟨rfl, (GW4.trans g5).trans g6⟩
    · have q1 : (e != 0) = true := by simpa using he
      obtain ⟨y, hyy⟩ : ∃ y : CaseD, y = zeroC := ⟨_, rfl⟩
      rw [← hyy] at hy
      have HY := Lib.hid hy
      have HF := Lib.hid hf
      clear hd hB hy hf hyy he
      go_enter Try.func13, Try.ntmps13
      go_wp2_with fail
      refine (alive16_calls _).mono ?_
      rintro _ w1 ⟨rfl, g1⟩
      have g1' : Gr (w.alloc (.cells #[.int .i64 N.places, .slice a N.trans.length cap] 24)) w1 := ((Gr.refl _).alloc _).trans g1
      have B0 := box_cell g1' (i := 0) rfl
      have B1 := box_cell g1' (i := 1) rfl
      have X0 : w1.cell? ⟨w.heap.size + 1, 0, none⟩ = some (.slice ma c.mark.length mc) := by have h := box_cell g1 (i := 0) rfl; simpa using h
      have X1 : w1.cell? ⟨w.heap.size + 1, 1, none⟩ = some (.slice ba c.busy.length bc) := by have h := box_cell g1 (i := 1) rfl; simpa using h
      have GW1 : Gr w w1 := ((Gr.refl w).alloc _).trans g1'
      go_wp2_with fail
      refine (Do_calls _ _ N c 2 _ _ (hN'.gr GW1) (hc0.gr GW1) (by decide) ht).mono ?_
      rw [HD.out]; rintro _ w2 ⟨v2, rfl, i2, g2⟩
      clear GW1
      obtain ⟨xa, xn, ya, yn, rfl, _, _, _, _, _, _⟩ := i2.r.open_
      have GX : Gr w2 (w2.alloc (.cells #[.slice xa x.mark.length xn, .slice ya x.busy.length yn] 65)) := (Gr.refl _).alloc _
      have Y0 : (w2.alloc (.cells #[.slice xa x.mark.length xn, .slice ya x.busy.length yn] 65)).cell? ⟨w2.heap.size, 0, none⟩ = some (.slice xa x.mark.length xn) := box_cell (Gr.refl _) (i := 0) rfl
      have Y1 : (w2.alloc (.cells #[.slice xa x.mark.length xn, .slice ya x.busy.length yn] 65)).cell? ⟨w2.heap.size, 1, none⟩ = some (.slice ya x.busy.length yn) := box_cell (Gr.refl _) (i := 1) rfl
      replace B0 := cell_gr (cell_gr B0 g2) GX
      replace B1 := cell_gr (cell_gr B1 g2) GX
      have GW : Gr w w2 := by (repeat (first | exact Gr.refl _ | assumption | apply Gr.alloc | apply Gr.drew | apply Gr.drewN | refine Gr.trans ?_ (by assumption)))
      replace GW := GW.trans GX
      have X2 := cell_gr (cell_gr X0 g2) GX
      have X3 := cell_gr (cell_gr X1 g2) GX
      clear g1 g1' g2 X0 X1
      go_wp2_with fail
      refine (Do_calls _ _ N x 3 _ _ (hN'.gr GW) (i2.r.gr GX) (by decide) ht).mono ?_
      rw [HY.out]; rintro _ w3 ⟨v3, rfl, i3, g3⟩
      obtain ⟨za, zn, ua, un, rfl, _, _, _, _, _, _⟩ := i3.r.open_
      have GX3 : Gr w3 (w3.alloc (.cells #[.slice za y.mark.length zn, .slice ua y.busy.length un] 65)) := (Gr.refl _).alloc _
      have Z0 : (w3.alloc (.cells #[.slice za y.mark.length zn, .slice ua y.busy.length un] 65)).cell? ⟨w3.heap.size, 0, none⟩ = some (.slice za y.mark.length zn) := box_cell (Gr.refl _) (i := 0) rfl
      have Z1 : (w3.alloc (.cells #[.slice za y.mark.length zn, .slice ua y.busy.length un] 65)).cell? ⟨w3.heap.size, 1, none⟩ = some (.slice ua y.busy.length un) := box_cell (Gr.refl _) (i := 1) rfl
      have X4 := cell_gr (cell_gr X2 g3) GX3
      have X5 := cell_gr (cell_gr X3 g3) GX3
      replace B0 := cell_gr (cell_gr B0 g3) GX3
      replace B1 := cell_gr (cell_gr B1 g3) GX3
      replace GW := (GW.trans g3).trans GX3
      go_wp2_with fail
      refine (Fire_calls _ _ N c.mark _ _ (hN'.gr GW) (hM.gr GW) ht).mono ?_
      rw [HF.out]; rintro _ w4 ⟨v4, rfl, i4, g4⟩
      obtain ⟨ma4, mc4, rfl, _, _⟩ := i4.len
      have GW4 := GW.trans g4
      replace Z0 := cell_gr Z0 g4
      replace Z1 := cell_gr Z1 g4
      replace X5 := cell_gr X5 g4
      go_wp2_with fail
      go_ret
      exact ⟨rfl, GW4⟩
end Go.Proofs.Ytmigejcejnofiaa
