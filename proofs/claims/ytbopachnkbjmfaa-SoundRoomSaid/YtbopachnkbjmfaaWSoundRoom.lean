/- The call SoundRoom answers true at any net, places and limits that read as data; nothing that lay there turns. -/
import Derived.Test.YtbopachnkbjmfaaAlive9
namespace Go.Proofs.Ytbopachnkbjmfaa
open Go.RowKit Go.Tok
set_option linter.unusedVariables false
set_option maxHeartbeats 4000000 in
set_option maxRecDepth 100000 in
theorem SoundRoom_walk {v : Value} {N : NetD} {i o most more : Int} (w : World) (hN : NetR w v N) (hi : I64 i) (ho : I64 o) (hm : I64 most) (hr : I64 more) :
    Calls Try.prog 11 #[v, .int .i64 i, .int .i64 o, .int .i64 most, .int .i64 more] w fun e w' => e = .returned (.bool true) ∧ Gr w w' := by
  have hN' := hN
  obtain ⟨a, cap, rfl, hnl, hncap, hpl, hT⟩ := hN.open_
  have hpl1 := hpl.1
  have hpl2 := hpl.2
  rcases hj : judgeF N i o most with ⟨r, e⟩
  rcases hk : judgeF N i o more with ⟨r2, e2⟩
  have HJ := Lib.hid hj
  have HK := Lib.hid hk
  by_cases he : e = 0
  case neg =>
    have q1 : (e != 0) = true := by simpa using he
    clear hj hk he
    go_enter Try.func11, Try.ntmps11
    go_wp2_with fail
    refine (alive9_calls _).mono ?_
    rintro _ w1 ⟨rfl, g1⟩
    have B0 := box_cell g1 (i := 0) rfl
    have B1 := box_cell g1 (i := 1) rfl
    have GW : Gr w w1 := ((Gr.refl w).alloc _).trans g1
    go_wp2_with fail
    refine (Judge_calls _ N i o most _ (hN'.gr GW) hi ho hm).mono ?_
    rw [HJ.out]; rintro _ w2 ⟨v2, rfl, i2, g2⟩
    obtain ⟨a2, c2, rfl, _, _⟩ := i2.len
    simp only [] at i2
    have g3 : Gr w2 (w2.alloc (.cells #[.int .i64 r.kind, .slice a2 r.at_.length c2, .int .i64 r.tran] 84)) := (Gr.refl _).alloc _
    have V0 : (w2.alloc (.cells #[.int .i64 r.kind, .slice a2 r.at_.length c2, .int .i64 r.tran] 84)).cell? ⟨w2.heap.size, 0, none⟩ = some (.int .i64 r.kind) := box_cell (Gr.refl _) (i := 0) rfl
    have V1 : (w2.alloc (.cells #[.int .i64 r.kind, .slice a2 r.at_.length c2, .int .i64 r.tran] 84)).cell? ⟨w2.heap.size, 1, none⟩ = some (.slice a2 r.at_.length c2) := box_cell (Gr.refl _) (i := 1) rfl
    have V2 : (w2.alloc (.cells #[.int .i64 r.kind, .slice a2 r.at_.length c2, .int .i64 r.tran] 84)).cell? ⟨w2.heap.size, 2, none⟩ = some (.int .i64 r.tran) := box_cell (Gr.refl _) (i := 2) rfl
    replace B0 := cell_gr (cell_gr B0 g2) g3
    replace B1 := cell_gr (cell_gr B1 g2) g3
    replace GW := (GW.trans g2).trans g3
    replace i2 := i2.gr g3
    clear g1 g2 g3
    go_wp2_with fail
    generalize w2.alloc (.cells #[.int .i64 r.kind, .slice a2 r.at_.length c2, .int .i64 r.tran] 84) = w3 at V0 V1 V2 B0 B1 GW i2 ⊢
    generalize w2.heap.size = vb at V0 V1 V2 ⊢
    refine (Judge_calls _ N i o more _ (hN'.gr GW) hi ho hr).mono ?_
    rw [HK.out]; rintro _ w4 ⟨v4, rfl, i4, g4⟩
    obtain ⟨a4, c4, rfl, _, _⟩ := i4.len
    simp only [] at i4
    have g5 : Gr w4 (w4.alloc (.cells #[.int .i64 r2.kind, .slice a4 r2.at_.length c4, .int .i64 r2.tran] 84)) := (Gr.refl _).alloc _
    have U0 : (w4.alloc (.cells #[.int .i64 r2.kind, .slice a4 r2.at_.length c4, .int .i64 r2.tran] 84)).cell? ⟨w4.heap.size, 0, none⟩ = some (.int .i64 r2.kind) := box_cell (Gr.refl _) (i := 0) rfl
    have U1 : (w4.alloc (.cells #[.int .i64 r2.kind, .slice a4 r2.at_.length c4, .int .i64 r2.tran] 84)).cell? ⟨w4.heap.size, 1, none⟩ = some (.slice a4 r2.at_.length c4) := box_cell (Gr.refl _) (i := 1) rfl
    have U2 : (w4.alloc (.cells #[.int .i64 r2.kind, .slice a4 r2.at_.length c4, .int .i64 r2.tran] 84)).cell? ⟨w4.heap.size, 2, none⟩ = some (.int .i64 r2.tran) := box_cell (Gr.refl _) (i := 2) rfl
    replace V0 := cell_gr (cell_gr V0 g4) g5
    replace V1 := cell_gr (cell_gr V1 g4) g5
    replace V2 := cell_gr (cell_gr V2 g4) g5
    have GZ := (GW.trans g4).trans g5
    have i2' := (i2.gr g4).gr g5
    have i4' := i4.gr g5
    clear GW g4 g5 i2 i4 B0 B1
    go_wp2_with fail
    go_ret
    exact ⟨rfl, GZ⟩
  case pos =>
    subst he
    by_cases h1 : more < most
    · clear hj hk
      go_enter Try.func11, Try.ntmps11
      go_wp2_with fail
      refine (alive9_calls _).mono ?_
      rintro _ w1 ⟨rfl, g1⟩
      have B0 := box_cell g1 (i := 0) rfl
      have B1 := box_cell g1 (i := 1) rfl
      have GW : Gr w w1 := ((Gr.refl w).alloc _).trans g1
      go_wp2_with fail
      refine (Judge_calls _ N i o most _ (hN'.gr GW) hi ho hm).mono ?_
      rw [HJ.out]; rintro _ w2 ⟨v2, rfl, i2, g2⟩
      obtain ⟨a2, c2, rfl, _, _⟩ := i2.len
      simp only [] at i2
      have g3 : Gr w2 (w2.alloc (.cells #[.int .i64 r.kind, .slice a2 r.at_.length c2, .int .i64 r.tran] 84)) := (Gr.refl _).alloc _
      have V0 : (w2.alloc (.cells #[.int .i64 r.kind, .slice a2 r.at_.length c2, .int .i64 r.tran] 84)).cell? ⟨w2.heap.size, 0, none⟩ = some (.int .i64 r.kind) := box_cell (Gr.refl _) (i := 0) rfl
      have V1 : (w2.alloc (.cells #[.int .i64 r.kind, .slice a2 r.at_.length c2, .int .i64 r.tran] 84)).cell? ⟨w2.heap.size, 1, none⟩ = some (.slice a2 r.at_.length c2) := box_cell (Gr.refl _) (i := 1) rfl
      have V2 : (w2.alloc (.cells #[.int .i64 r.kind, .slice a2 r.at_.length c2, .int .i64 r.tran] 84)).cell? ⟨w2.heap.size, 2, none⟩ = some (.int .i64 r.tran) := box_cell (Gr.refl _) (i := 2) rfl
      replace B0 := cell_gr (cell_gr B0 g2) g3
      replace B1 := cell_gr (cell_gr B1 g2) g3
      replace GW := (GW.trans g2).trans g3
      replace i2 := i2.gr g3
      clear g1 g2 g3
      go_wp2_with fail
      generalize w2.alloc (.cells #[.int .i64 r.kind, .slice a2 r.at_.length c2, .int .i64 r.tran] 84) = w3 at V0 V1 V2 B0 B1 GW i2 ⊢
      generalize w2.heap.size = vb at V0 V1 V2 ⊢
      refine (Judge_calls _ N i o more _ (hN'.gr GW) hi ho hr).mono ?_
      rw [HK.out]; rintro _ w4 ⟨v4, rfl, i4, g4⟩
      obtain ⟨a4, c4, rfl, _, _⟩ := i4.len
      simp only [] at i4
      have g5 : Gr w4 (w4.alloc (.cells #[.int .i64 r2.kind, .slice a4 r2.at_.length c4, .int .i64 r2.tran] 84)) := (Gr.refl _).alloc _
      have U0 : (w4.alloc (.cells #[.int .i64 r2.kind, .slice a4 r2.at_.length c4, .int .i64 r2.tran] 84)).cell? ⟨w4.heap.size, 0, none⟩ = some (.int .i64 r2.kind) := box_cell (Gr.refl _) (i := 0) rfl
      have U1 : (w4.alloc (.cells #[.int .i64 r2.kind, .slice a4 r2.at_.length c4, .int .i64 r2.tran] 84)).cell? ⟨w4.heap.size, 1, none⟩ = some (.slice a4 r2.at_.length c4) := box_cell (Gr.refl _) (i := 1) rfl
      have U2 : (w4.alloc (.cells #[.int .i64 r2.kind, .slice a4 r2.at_.length c4, .int .i64 r2.tran] 84)).cell? ⟨w4.heap.size, 2, none⟩ = some (.int .i64 r2.tran) := box_cell (Gr.refl _) (i := 2) rfl
      replace V0 := cell_gr (cell_gr V0 g4) g5
      replace V1 := cell_gr (cell_gr V1 g4) g5
      replace V2 := cell_gr (cell_gr V2 g4) g5
      have GZ := (GW.trans g4).trans g5
      have i2' := (i2.gr g4).gr g5
      have i4' := i4.gr g5
      clear GW g4 g5 i2 i4 B0 B1
      go_wp2_with fail
      go_ret
      exact ⟨rfl, GZ⟩
    · by_cases h2 : 300 < more
      · clear hj hk
        go_enter Try.func11, Try.ntmps11
        go_wp2_with fail
        refine (alive9_calls _).mono ?_
        rintro _ w1 ⟨rfl, g1⟩
        have B0 := box_cell g1 (i := 0) rfl
        have B1 := box_cell g1 (i := 1) rfl
        have GW : Gr w w1 := ((Gr.refl w).alloc _).trans g1
        go_wp2_with fail
        refine (Judge_calls _ N i o most _ (hN'.gr GW) hi ho hm).mono ?_
        rw [HJ.out]; rintro _ w2 ⟨v2, rfl, i2, g2⟩
        obtain ⟨a2, c2, rfl, _, _⟩ := i2.len
        simp only [] at i2
        have g3 : Gr w2 (w2.alloc (.cells #[.int .i64 r.kind, .slice a2 r.at_.length c2, .int .i64 r.tran] 84)) := (Gr.refl _).alloc _
        have V0 : (w2.alloc (.cells #[.int .i64 r.kind, .slice a2 r.at_.length c2, .int .i64 r.tran] 84)).cell? ⟨w2.heap.size, 0, none⟩ = some (.int .i64 r.kind) := box_cell (Gr.refl _) (i := 0) rfl
        have V1 : (w2.alloc (.cells #[.int .i64 r.kind, .slice a2 r.at_.length c2, .int .i64 r.tran] 84)).cell? ⟨w2.heap.size, 1, none⟩ = some (.slice a2 r.at_.length c2) := box_cell (Gr.refl _) (i := 1) rfl
        have V2 : (w2.alloc (.cells #[.int .i64 r.kind, .slice a2 r.at_.length c2, .int .i64 r.tran] 84)).cell? ⟨w2.heap.size, 2, none⟩ = some (.int .i64 r.tran) := box_cell (Gr.refl _) (i := 2) rfl
        replace B0 := cell_gr (cell_gr B0 g2) g3
        replace B1 := cell_gr (cell_gr B1 g2) g3
        replace GW := (GW.trans g2).trans g3
        replace i2 := i2.gr g3
        clear g1 g2 g3
        go_wp2_with fail
        generalize w2.alloc (.cells #[.int .i64 r.kind, .slice a2 r.at_.length c2, .int .i64 r.tran] 84) = w3 at V0 V1 V2 B0 B1 GW i2 ⊢
        generalize w2.heap.size = vb at V0 V1 V2 ⊢
        refine (Judge_calls _ N i o more _ (hN'.gr GW) hi ho hr).mono ?_
        rw [HK.out]; rintro _ w4 ⟨v4, rfl, i4, g4⟩
        obtain ⟨a4, c4, rfl, _, _⟩ := i4.len
        simp only [] at i4
        have g5 : Gr w4 (w4.alloc (.cells #[.int .i64 r2.kind, .slice a4 r2.at_.length c4, .int .i64 r2.tran] 84)) := (Gr.refl _).alloc _
        have U0 : (w4.alloc (.cells #[.int .i64 r2.kind, .slice a4 r2.at_.length c4, .int .i64 r2.tran] 84)).cell? ⟨w4.heap.size, 0, none⟩ = some (.int .i64 r2.kind) := box_cell (Gr.refl _) (i := 0) rfl
        have U1 : (w4.alloc (.cells #[.int .i64 r2.kind, .slice a4 r2.at_.length c4, .int .i64 r2.tran] 84)).cell? ⟨w4.heap.size, 1, none⟩ = some (.slice a4 r2.at_.length c4) := box_cell (Gr.refl _) (i := 1) rfl
        have U2 : (w4.alloc (.cells #[.int .i64 r2.kind, .slice a4 r2.at_.length c4, .int .i64 r2.tran] 84)).cell? ⟨w4.heap.size, 2, none⟩ = some (.int .i64 r2.tran) := box_cell (Gr.refl _) (i := 2) rfl
        replace V0 := cell_gr (cell_gr V0 g4) g5
        replace V1 := cell_gr (cell_gr V1 g4) g5
        replace V2 := cell_gr (cell_gr V2 g4) g5
        have GZ := (GW.trans g4).trans g5
        have i2' := (i2.gr g4).gr g5
        have i4' := i4.gr g5
        clear GW g4 g5 i2 i4 B0 B1
        go_wp2_with fail
        go_ret
        exact ⟨rfl, GZ⟩
      · have h3 := sound_room hj (by omega) (show more ≤ 300 by omega)
        rw [hk] at h3
        obtain ⟨h4, rfl⟩ := Prod.mk.inj h3
        obtain rfl : r = r2 := h4.symm
        have e3 := eqB_yes (rfl : r.at_ = r.at_)
        clear hj hk h3
        go_enter Try.func11, Try.ntmps11
        go_wp2_with fail
        refine (alive9_calls _).mono ?_
        rintro _ w1 ⟨rfl, g1⟩
        have B0 := box_cell g1 (i := 0) rfl
        have B1 := box_cell g1 (i := 1) rfl
        have GW : Gr w w1 := ((Gr.refl w).alloc _).trans g1
        go_wp2_with fail
        refine (Judge_calls _ N i o most _ (hN'.gr GW) hi ho hm).mono ?_
        rw [HJ.out]; rintro _ w2 ⟨v2, rfl, i2, g2⟩
        obtain ⟨a2, c2, rfl, _, _⟩ := i2.len
        simp only [] at i2
        have g3 : Gr w2 (w2.alloc (.cells #[.int .i64 r.kind, .slice a2 r.at_.length c2, .int .i64 r.tran] 84)) := (Gr.refl _).alloc _
        have V0 : (w2.alloc (.cells #[.int .i64 r.kind, .slice a2 r.at_.length c2, .int .i64 r.tran] 84)).cell? ⟨w2.heap.size, 0, none⟩ = some (.int .i64 r.kind) := box_cell (Gr.refl _) (i := 0) rfl
        have V1 : (w2.alloc (.cells #[.int .i64 r.kind, .slice a2 r.at_.length c2, .int .i64 r.tran] 84)).cell? ⟨w2.heap.size, 1, none⟩ = some (.slice a2 r.at_.length c2) := box_cell (Gr.refl _) (i := 1) rfl
        have V2 : (w2.alloc (.cells #[.int .i64 r.kind, .slice a2 r.at_.length c2, .int .i64 r.tran] 84)).cell? ⟨w2.heap.size, 2, none⟩ = some (.int .i64 r.tran) := box_cell (Gr.refl _) (i := 2) rfl
        replace B0 := cell_gr (cell_gr B0 g2) g3
        replace B1 := cell_gr (cell_gr B1 g2) g3
        replace GW := (GW.trans g2).trans g3
        replace i2 := i2.gr g3
        clear g1 g2 g3
        go_wp2_with fail
        generalize w2.alloc (.cells #[.int .i64 r.kind, .slice a2 r.at_.length c2, .int .i64 r.tran] 84) = w3 at V0 V1 V2 B0 B1 GW i2 ⊢
        generalize w2.heap.size = vb at V0 V1 V2 ⊢
        refine (Judge_calls _ N i o more _ (hN'.gr GW) hi ho hr).mono ?_
        rw [HK.out]; rintro _ w4 ⟨v4, rfl, i4, g4⟩
        obtain ⟨a4, c4, rfl, _, _⟩ := i4.len
        simp only [] at i4
        have g5 : Gr w4 (w4.alloc (.cells #[.int .i64 r.kind, .slice a4 r.at_.length c4, .int .i64 r.tran] 84)) := (Gr.refl _).alloc _
        have U0 : (w4.alloc (.cells #[.int .i64 r.kind, .slice a4 r.at_.length c4, .int .i64 r.tran] 84)).cell? ⟨w4.heap.size, 0, none⟩ = some (.int .i64 r.kind) := box_cell (Gr.refl _) (i := 0) rfl
        have U1 : (w4.alloc (.cells #[.int .i64 r.kind, .slice a4 r.at_.length c4, .int .i64 r.tran] 84)).cell? ⟨w4.heap.size, 1, none⟩ = some (.slice a4 r.at_.length c4) := box_cell (Gr.refl _) (i := 1) rfl
        have U2 : (w4.alloc (.cells #[.int .i64 r.kind, .slice a4 r.at_.length c4, .int .i64 r.tran] 84)).cell? ⟨w4.heap.size, 2, none⟩ = some (.int .i64 r.tran) := box_cell (Gr.refl _) (i := 2) rfl
        replace V0 := cell_gr (cell_gr V0 g4) g5
        replace V1 := cell_gr (cell_gr V1 g4) g5
        replace V2 := cell_gr (cell_gr V2 g4) g5
        have GZ := (GW.trans g4).trans g5
        have i2' := (i2.gr g4).gr g5
        have i4' := i4.gr g5
        clear GW g4 g5 i2 i4 B0 B1
        go_wp2_with fail
        refine (Equal_calls _ _ r.at_ r.at_ _ i2' i4').mono ?_
        rw [e3]; rintro _ w6 ⟨rfl, g6⟩
        go_wp2_with fail
        go_ret
        exact ⟨rfl, GZ.trans g6⟩
end Go.Proofs.Ytbopachnkbjmfaa
