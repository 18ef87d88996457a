/- The call CasesUndo answers true at any net, case and transition that read as data; nothing that lay there turns. -/
import Derived.Test.YtmigejcejnofiaaAlive16
namespace Go.Proofs.Ytmigejcejnofiaa
open Go.RowKit Go.Tok
set_option linter.unusedVariables false

set_option maxHeartbeats 4000000 in
set_option maxRecDepth 100000 in
theorem CasesUndo_walk {v u : Value} {N : NetD} {c : CaseD} {t : Int} (w : World) (hN : NetR w v N) (hc : CaseR w u c) (ht : I64 t) :
    Calls Try.prog 12 #[v, u, .int .i64 t] w fun e w' => e = .returned (.bool true) ∧ Gr w w' := by
  have hN' := hN
  obtain ⟨a, cap, rfl, hnl, hncap, hpl, hT⟩ := hN.open_
  have hpl1 := hpl.1
  have hpl2 := hpl.2
  have hc0 := hc
  obtain ⟨ma, mc, ba, bc, rfl, hml, hml', hbl, hbl', hM, hB⟩ := hc.open_
  rcases begin_cases N c t with ⟨e, hd, he⟩ | ⟨x, j, rfl, hd, hB⟩
  · have HD := Lib.hid hd
    have q1 : (e != 0) = true := by simpa using he
    clear hd he
    go_enter Try.func12, Try.ntmps12
    go_wp2_with fail
    refine (alive16_calls _).mono ?_
    rintro _ w1 ⟨rfl, g1⟩
    have g1' : Gr (w.alloc (.cells #[.int .i64 N.places, .slice a N.trans.length cap] 24)) w1 := ((Gr.refl _).alloc _).trans g1
    have B0 := box_cell g1' (i := 0) rfl
    have B1 := box_cell g1' (i := 1) rfl
    have X0 : w1.cell? ⟨w.heap.size + 1, 0, none⟩ = some (.slice ma c.mark.length mc) := by have h := box_cell g1 (i := 0) rfl; simpa using h
    have X1 : w1.cell? ⟨w.heap.size + 1, 1, none⟩ = some (.slice ba c.busy.length bc) := by have h := box_cell g1 (i := 1) rfl; simpa using h
    have GW1 : Gr w w1 := ((Gr.refl w).alloc _).trans g1'
    go_wp2_with fail
    refine (Do_calls _ _ N c 2 _ _ (hN'.gr GW1) (hc0.gr GW1) (by decide) ht).mono ?_
    rw [HD.out]; rintro _ w2 ⟨v2, rfl, i2, g2⟩
    clear GW1
    obtain ⟨xa, xn, ya, yn, rfl, _, _, _, _, _, _⟩ := i2.r.open_
    go_wp2_with fail
    go_ret
    exact ⟨rfl, by (repeat (first | exact Gr.refl _ | assumption | apply Gr.alloc | apply Gr.drew | apply Gr.drewN | refine Gr.trans ?_ (by assumption)))⟩
  · have HD := Lib.hid hd
    have HU := Lib.hid (undo_law hB)
    have HS := Lib.hid (sameC_self c)
    clear hd hB
    go_enter Try.func12, Try.ntmps12
    go_wp2_with fail
    refine (alive16_calls _).mono ?_
    rintro _ w1 ⟨rfl, g1⟩
    have g1' : Gr (w.alloc (.cells #[.int .i64 N.places, .slice a N.trans.length cap] 24)) w1 := ((Gr.refl _).alloc _).trans g1
    have B0 := box_cell g1' (i := 0) rfl
    have B1 := box_cell g1' (i := 1) rfl
    have X0 : w1.cell? ⟨w.heap.size + 1, 0, none⟩ = some (.slice ma c.mark.length mc) := by have h := box_cell g1 (i := 0) rfl; simpa using h
    have X1 : w1.cell? ⟨w.heap.size + 1, 1, none⟩ = some (.slice ba c.busy.length bc) := by have h := box_cell g1 (i := 1) rfl; simpa using h
    have GW1 : Gr w w1 := ((Gr.refl w).alloc _).trans g1'
    go_wp2_with fail
    refine (Do_calls _ _ N c 2 _ _ (hN'.gr GW1) (hc0.gr GW1) (by decide) ht).mono ?_
    rw [HD.out]; rintro _ w2 ⟨v2, rfl, i2, g2⟩
    clear GW1
    obtain ⟨xa, xn, ya, yn, rfl, _, _, _, _, _, _⟩ := i2.r.open_
    have GX : Gr w2 (w2.alloc (.cells #[.slice xa x.mark.length xn, .slice ya x.busy.length yn] 65)) := (Gr.refl _).alloc _
    have Y0 : (w2.alloc (.cells #[.slice xa x.mark.length xn, .slice ya x.busy.length yn] 65)).cell? ⟨w2.heap.size, 0, none⟩ = some (.slice xa x.mark.length xn) := box_cell (Gr.refl _) (i := 0) rfl
    have Y1 : (w2.alloc (.cells #[.slice xa x.mark.length xn, .slice ya x.busy.length yn] 65)).cell? ⟨w2.heap.size, 1, none⟩ = some (.slice ya x.busy.length yn) := box_cell (Gr.refl _) (i := 1) rfl
    replace B0 := cell_gr (cell_gr B0 g2) GX
    replace B1 := cell_gr (cell_gr B1 g2) GX
    have GW : Gr w w2 := by (repeat (first | exact Gr.refl _ | assumption | apply Gr.alloc | apply Gr.drew | apply Gr.drewN | refine Gr.trans ?_ (by assumption)))
    replace GW := GW.trans GX
    have X2 := cell_gr (cell_gr X0 g2) GX
    have X3 := cell_gr (cell_gr X1 g2) GX
    clear g1 g1' g2 X0 X1
    go_wp2_with fail
    refine (Do_calls _ _ N x 4 j _ (hN'.gr GW) (i2.r.gr GX) (by decide) ht).mono ?_
    rw [HU.out]; rintro _ w3 ⟨v3, rfl, i3, g3⟩
    obtain ⟨za, zn, ua, un, rfl, _, _, _, _, _, _⟩ := i3.r.open_
    have GX3 : Gr w3 (w3.alloc (.cells #[.slice za c.mark.length zn, .slice ua c.busy.length un] 65)) := (Gr.refl _).alloc _
    have X4 := cell_gr (cell_gr X2 g3) GX3
    have X5 := cell_gr (cell_gr X3 g3) GX3
    replace GW := (GW.trans g3).trans GX3
    go_wp2_with fail
    refine (SameCase_calls _ _ c c _ (i3.r.gr GX3) (hc0.gr GW)).mono ?_
    rw [HS.out]; rintro _ w4 ⟨rfl, g4⟩
    go_wp2_with fail
    go_ret
    exact ⟨rfl, GW.trans g4⟩
end Go.Proofs.Ytmigejcejnofiaa
