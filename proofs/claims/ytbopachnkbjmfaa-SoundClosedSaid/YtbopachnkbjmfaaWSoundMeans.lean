/- The call SoundMeans answers true at any net, places, limit and sequence that read as data; nothing that lay there turns. -/
import Derived.Test.YtbopachnkbjmfaaAlive9
import Derived.Test.YtbopachnkbjmfaaPath
namespace Go.Proofs.Ytbopachnkbjmfaa
open Go.RowKit Go.Tok
set_option linter.unusedVariables false
set_option maxHeartbeats 4000000 in
set_option maxRecDepth 100000 in
theorem SoundMeans_walk {v u : Value} {N : NetD} {i o most : Int} {seq : List Int} (w : World) (hN : NetR w v N) (hi : I64 i) (ho : I64 o) (hm : I64 most) (hs : Ints w u seq ∧ seq.length ≤ 17592186043904) :
    Calls Try.prog 14 #[v, .int .i64 i, .int .i64 o, .int .i64 most, u] w fun e w' => e = .returned (.bool true) ∧ Gr w w' := by
  replace hs := hs.1
  have hN' := hN
  obtain ⟨a, cap, rfl, hnl, hncap, hpl, hT⟩ := hN.open_
  have hpl1 := hpl.1
  have hpl2 := hpl.2
  rcases hj : judgeF N i o most with ⟨r, e⟩
  have HJ := Lib.hid hj
  by_cases he : e = 0
  case neg =>
    have q1 : (e != 0) = true := by simpa using he
    clear hj he
    go_enter Try.func14, Try.ntmps14
    go_wp2_with fail
    refine (alive9_calls _).mono ?_
    rintro _ w1 ⟨rfl, g1⟩
    have B0 := box_cell g1 (i := 0) rfl
    have B1 := box_cell g1 (i := 1) rfl
    have GW : Gr w w1 := ((Gr.refl w).alloc _).trans g1
    go_wp2_with fail
    refine (Judge_calls _ N i o most _ (hN'.gr GW) hi ho hm).mono ?_
    rw [HJ.out]; rintro _ w2 ⟨v2, rfl, i2, g2⟩
    obtain ⟨a2, c2, rfl, _, _⟩ := i2.len
    simp only [] at i2
    have g3 : Gr w2 (w2.alloc (.cells #[.int .i64 r.kind, .slice a2 r.at_.length c2, .int .i64 r.tran] 84)) := (Gr.refl _).alloc _
    have V0 : (w2.alloc (.cells #[.int .i64 r.kind, .slice a2 r.at_.length c2, .int .i64 r.tran] 84)).cell? ⟨w2.heap.size, 0, none⟩ = some (.int .i64 r.kind) := box_cell (Gr.refl _) (i := 0) rfl
    have V1 : (w2.alloc (.cells #[.int .i64 r.kind, .slice a2 r.at_.length c2, .int .i64 r.tran] 84)).cell? ⟨w2.heap.size, 1, none⟩ = some (.slice a2 r.at_.length c2) := box_cell (Gr.refl _) (i := 1) rfl
    have V2 : (w2.alloc (.cells #[.int .i64 r.kind, .slice a2 r.at_.length c2, .int .i64 r.tran] 84)).cell? ⟨w2.heap.size, 2, none⟩ = some (.int .i64 r.tran) := box_cell (Gr.refl _) (i := 2) rfl
    replace B0 := cell_gr (cell_gr B0 g2) g3
    replace B1 := cell_gr (cell_gr B1 g2) g3
    replace GW := (GW.trans g2).trans g3
    replace i2 := i2.gr g3
    clear g1 g2 g3
    go_wp2_with fail
    generalize w2.alloc (.cells #[.int .i64 r.kind, .slice a2 r.at_.length c2, .int .i64 r.tran] 84) = w3 at V0 V1 V2 B0 B1 GW i2 ⊢
    generalize w2.heap.size = vb at V0 V1 V2 ⊢
    go_wp2_with fail
    go_ret
    exact ⟨rfl, GW⟩
  case pos =>
    subst he
    by_cases hk : r.kind = 1
    case neg =>
      have q1 : (r.kind != 1) = true := by simpa using hk
      clear hj hk
      go_enter Try.func14, Try.ntmps14
      go_wp2_with fail
      refine (alive9_calls _).mono ?_
      rintro _ w1 ⟨rfl, g1⟩
      have B0 := box_cell g1 (i := 0) rfl
      have B1 := box_cell g1 (i := 1) rfl
      have GW : Gr w w1 := ((Gr.refl w).alloc _).trans g1
      go_wp2_with fail
      refine (Judge_calls _ N i o most _ (hN'.gr GW) hi ho hm).mono ?_
      rw [HJ.out]; rintro _ w2 ⟨v2, rfl, i2, g2⟩
      obtain ⟨a2, c2, rfl, _, _⟩ := i2.len
      simp only [] at i2
      have g3 : Gr w2 (w2.alloc (.cells #[.int .i64 r.kind, .slice a2 r.at_.length c2, .int .i64 r.tran] 84)) := (Gr.refl _).alloc _
      have V0 : (w2.alloc (.cells #[.int .i64 r.kind, .slice a2 r.at_.length c2, .int .i64 r.tran] 84)).cell? ⟨w2.heap.size, 0, none⟩ = some (.int .i64 r.kind) := box_cell (Gr.refl _) (i := 0) rfl
      have V1 : (w2.alloc (.cells #[.int .i64 r.kind, .slice a2 r.at_.length c2, .int .i64 r.tran] 84)).cell? ⟨w2.heap.size, 1, none⟩ = some (.slice a2 r.at_.length c2) := box_cell (Gr.refl _) (i := 1) rfl
      have V2 : (w2.alloc (.cells #[.int .i64 r.kind, .slice a2 r.at_.length c2, .int .i64 r.tran] 84)).cell? ⟨w2.heap.size, 2, none⟩ = some (.int .i64 r.tran) := box_cell (Gr.refl _) (i := 2) rfl
      replace B0 := cell_gr (cell_gr B0 g2) g3
      replace B1 := cell_gr (cell_gr B1 g2) g3
      replace GW := (GW.trans g2).trans g3
      replace i2 := i2.gr g3
      clear g1 g2 g3
      go_wp2_with fail
      generalize w2.alloc (.cells #[.int .i64 r.kind, .slice a2 r.at_.length c2, .int .i64 r.tran] 84) = w3 at V0 V1 V2 B0 B1 GW i2 ⊢
      generalize w2.heap.size = vb at V0 V1 V2 ⊢
      go_wp2_with fail
      go_ret
      exact ⟨rfl, GW⟩
    case pos =>
      have q1 : (r.kind != 1) = false := by rw [hk]; rfl
      rcases hr : runF N (oneN (startLen N) i) seq with ⟨x, f⟩
      have HR := Lib.hid hr
      rcases sound_means hj hk hr with ⟨h1, rfl⟩ | ⟨rfl, p, h2, h3, h4⟩
      · clear hj hk hr h1
        go_enter Try.func14, Try.ntmps14
        go_wp2_with fail
        refine (alive9_calls _).mono ?_
        rintro _ w1 ⟨rfl, g1⟩
        have B0 := box_cell g1 (i := 0) rfl
        have B1 := box_cell g1 (i := 1) rfl
        have GW : Gr w w1 := ((Gr.refl w).alloc _).trans g1
        go_wp2_with fail
        refine (Judge_calls _ N i o most _ (hN'.gr GW) hi ho hm).mono ?_
        rw [HJ.out]; rintro _ w2 ⟨v2, rfl, i2, g2⟩
        obtain ⟨a2, c2, rfl, _, _⟩ := i2.len
        simp only [] at i2
        have g3 : Gr w2 (w2.alloc (.cells #[.int .i64 r.kind, .slice a2 r.at_.length c2, .int .i64 r.tran] 84)) := (Gr.refl _).alloc _
        have V0 : (w2.alloc (.cells #[.int .i64 r.kind, .slice a2 r.at_.length c2, .int .i64 r.tran] 84)).cell? ⟨w2.heap.size, 0, none⟩ = some (.int .i64 r.kind) := box_cell (Gr.refl _) (i := 0) rfl
        have V1 : (w2.alloc (.cells #[.int .i64 r.kind, .slice a2 r.at_.length c2, .int .i64 r.tran] 84)).cell? ⟨w2.heap.size, 1, none⟩ = some (.slice a2 r.at_.length c2) := box_cell (Gr.refl _) (i := 1) rfl
        have V2 : (w2.alloc (.cells #[.int .i64 r.kind, .slice a2 r.at_.length c2, .int .i64 r.tran] 84)).cell? ⟨w2.heap.size, 2, none⟩ = some (.int .i64 r.tran) := box_cell (Gr.refl _) (i := 2) rfl
        replace B0 := cell_gr (cell_gr B0 g2) g3
        replace B1 := cell_gr (cell_gr B1 g2) g3
        replace GW := (GW.trans g2).trans g3
        replace i2 := i2.gr g3
        clear g1 g2 g3
        go_wp2_with fail
        generalize w2.alloc (.cells #[.int .i64 r.kind, .slice a2 r.at_.length c2, .int .i64 r.tran] 84) = w3 at V0 V1 V2 B0 B1 GW i2 ⊢
        generalize w2.heap.size = vb at V0 V1 V2 ⊢
        go_wp2_with fail
        go_region_held3 (fun w' => w'.cell? ⟨w.heap.size, 0, none⟩ = some (.int .i64 N.places) ∧ w'.cell? ⟨w.heap.size, 1, none⟩ = some (.slice a N.trans.length cap)) (first | go_keep | ((refine ⟨cell_gr B0 ?_, cell_gr B1 ?_⟩); (all_goals (focus ((repeat (first | exact Gr.refl _ | assumption | apply Gr.alloc | apply Gr.drew | apply Gr.drewN | refine Gr.trans ?_ (by assumption))); done))))) (first | (go_at_call 51; (with_reducible refine (Start_calls _ N _ _ (hN'.gr ?_) hi).mono ?_); ((focus (exact GW.trans (by (repeat (first | exact Gr.refl _ | assumption | apply Gr.alloc | apply Gr.drew | apply Gr.drewN | refine Gr.trans ?_ (by assumption)))); done))); rintro _ w4 ⟨v4, rfl, o4, g4⟩) | (go_at_call 19; (with_reducible refine (Run_own _ _ _ N (oneN (startLen N) i) seq _ (hN'.gr ?_) (o4.ints.gr ?_) (hs.gr ?_)).mono ?_); ((focus (exact GW.trans (by (repeat (first | exact Gr.refl _ | assumption | apply Gr.alloc | apply Gr.drew | apply Gr.drewN | refine Gr.trans ?_ (by assumption)))); done))); ((focus ((repeat (first | exact Gr.refl _ | assumption | apply Gr.alloc | apply Gr.drew | apply Gr.drewN | refine Gr.trans ?_ (by assumption))); done))); ((focus (exact GW.trans (by (repeat (first | exact Gr.refl _ | assumption | apply Gr.alloc | apply Gr.drew | apply Gr.drewN | refine Gr.trans ?_ (by assumption)))); done))); rw [HR.out]; rintro _ w5 ⟨v5, rfl, o5, g5⟩))
        have G5 : Gr w3 w5 := by (repeat (first | exact Gr.refl _ | assumption | apply Gr.alloc | apply Gr.drew | apply Gr.drewN | refine Gr.trans ?_ (by assumption)))
        replace B0 := cell_gr B0 G5
        replace B1 := cell_gr B1 G5
        replace GW := GW.trans G5
        have i5 := o5.ints
        clear V0 V1 V2 i2 o4 o5 g4 g5 G5
        all_goals
          go_wp2_with fail
          go_ret
          exact ⟨rfl, GW⟩
      · have HP := Lib.hid h2
        have HR2 := Lib.hid h3
        have ee := eqB_yes (rfl : oneN (startLen N) o = oneN (startLen N) o)
        have HC := Lib.hid h4
        clear hj hk hr h2 h3 h4
        go_enter Try.func14, Try.ntmps14
        go_wp2_with fail
        refine (alive9_calls _).mono ?_
        rintro _ w1 ⟨rfl, g1⟩
        have B0 := box_cell g1 (i := 0) rfl
        have B1 := box_cell g1 (i := 1) rfl
        have GW : Gr w w1 := ((Gr.refl w).alloc _).trans g1
        go_wp2_with fail
        refine (Judge_calls _ N i o most _ (hN'.gr GW) hi ho hm).mono ?_
        rw [HJ.out]; rintro _ w2 ⟨v2, rfl, i2, g2⟩
        obtain ⟨a2, c2, rfl, _, _⟩ := i2.len
        simp only [] at i2
        have g3 : Gr w2 (w2.alloc (.cells #[.int .i64 r.kind, .slice a2 r.at_.length c2, .int .i64 r.tran] 84)) := (Gr.refl _).alloc _
        have V0 : (w2.alloc (.cells #[.int .i64 r.kind, .slice a2 r.at_.length c2, .int .i64 r.tran] 84)).cell? ⟨w2.heap.size, 0, none⟩ = some (.int .i64 r.kind) := box_cell (Gr.refl _) (i := 0) rfl
        have V1 : (w2.alloc (.cells #[.int .i64 r.kind, .slice a2 r.at_.length c2, .int .i64 r.tran] 84)).cell? ⟨w2.heap.size, 1, none⟩ = some (.slice a2 r.at_.length c2) := box_cell (Gr.refl _) (i := 1) rfl
        have V2 : (w2.alloc (.cells #[.int .i64 r.kind, .slice a2 r.at_.length c2, .int .i64 r.tran] 84)).cell? ⟨w2.heap.size, 2, none⟩ = some (.int .i64 r.tran) := box_cell (Gr.refl _) (i := 2) rfl
        replace B0 := cell_gr (cell_gr B0 g2) g3
        replace B1 := cell_gr (cell_gr B1 g2) g3
        replace GW := (GW.trans g2).trans g3
        replace i2 := i2.gr g3
        clear g1 g2 g3
        go_wp2_with fail
        generalize w2.alloc (.cells #[.int .i64 r.kind, .slice a2 r.at_.length c2, .int .i64 r.tran] 84) = w3 at V0 V1 V2 B0 B1 GW i2 ⊢
        generalize w2.heap.size = vb at V0 V1 V2 ⊢
        go_wp2_with fail
        go_region_held3 (fun w' => w'.cell? ⟨w.heap.size, 0, none⟩ = some (.int .i64 N.places) ∧ w'.cell? ⟨w.heap.size, 1, none⟩ = some (.slice a N.trans.length cap)) (first | go_keep | ((refine ⟨cell_gr B0 ?_, cell_gr B1 ?_⟩); (all_goals (focus ((repeat (first | exact Gr.refl _ | assumption | apply Gr.alloc | apply Gr.drew | apply Gr.drewN | refine Gr.trans ?_ (by assumption))); done))))) (first | (go_at_call 51; (with_reducible refine (Start_calls _ N _ _ (hN'.gr ?_) hi).mono ?_); ((focus (exact GW.trans (by (repeat (first | exact Gr.refl _ | assumption | apply Gr.alloc | apply Gr.drew | apply Gr.drewN | refine Gr.trans ?_ (by assumption)))); done))); rintro _ w4 ⟨v4, rfl, o4, g4⟩) | (go_at_call 19; (with_reducible refine (Run_own _ _ _ N (oneN (startLen N) i) seq _ (hN'.gr ?_) (o4.ints.gr ?_) (hs.gr ?_)).mono ?_); ((focus (exact GW.trans (by (repeat (first | exact Gr.refl _ | assumption | apply Gr.alloc | apply Gr.drew | apply Gr.drewN | refine Gr.trans ?_ (by assumption)))); done))); ((focus ((repeat (first | exact Gr.refl _ | assumption | apply Gr.alloc | apply Gr.drew | apply Gr.drewN | refine Gr.trans ?_ (by assumption))); done))); ((focus (exact GW.trans (by (repeat (first | exact Gr.refl _ | assumption | apply Gr.alloc | apply Gr.drew | apply Gr.drewN | refine Gr.trans ?_ (by assumption)))); done))); rw [HR.out]; rintro _ w5 ⟨v5, rfl, o5, g5⟩))
        have G5 : Gr w3 w5 := by (repeat (first | exact Gr.refl _ | assumption | apply Gr.alloc | apply Gr.drew | apply Gr.drewN | refine Gr.trans ?_ (by assumption)))
        replace B0 := cell_gr B0 G5
        replace B1 := cell_gr B1 G5
        replace GW := GW.trans G5
        have i5 := o5.ints
        clear V0 V1 V2 i2 o4 o5 g4 g5 G5
        all_goals
          go_wp2_with fail
          refine (Start_calls _ N o _ (hN'.gr GW) ho).mono ?_
          rintro _ w6 ⟨v6, rfl, o6, g6⟩
          replace B0 := cell_gr B0 g6
          replace B1 := cell_gr B1 g6
          replace GW := GW.trans g6
          replace i5 := i5.gr g6
          have i6 := o6.ints
          clear o6 g6
          go_wp2_with fail
          refine (Path_calls _ _ _ N x (oneN (startLen N) o) most _ (hN'.gr GW) i5 i6 hm).mono ?_
          rw [HP.out]; rintro _ w7 ⟨v7, rfl, o7, g7⟩
          replace B0 := cell_gr B0 g7
          replace B1 := cell_gr B1 g7
          replace GW := GW.trans g7
          replace i5 := i5.gr g7
          replace i6 := i6.gr g7
          have i7 := o7.ints
          clear o7 g7
          go_wp2_with fail
          refine (Run_own _ _ _ N x p _ (hN'.gr GW) i5 i7).mono ?_
          rw [HR2.out]; rintro _ w8 ⟨v8, rfl, o8, g8⟩
          replace GW := GW.trans g8
          replace i5 := i5.gr g8
          replace i6 := i6.gr g8
          have i8 := o8.ints
          clear o8 g8 i7 B0 B1
          cases hc : coversB x (oneN (startLen N) o)
          · go_wp2_with fail
            refine (Equal_calls _ _ (oneN (startLen N) o) (oneN (startLen N) o) _ i8 i6).mono ?_
            rw [ee]; rintro _ w9 ⟨rfl, g9⟩
            go_wp2_with fail
            refine (Covers_calls _ _ x (oneN (startLen N) o) _ (i5.gr g9) (i6.gr g9)).mono ?_
            rw [hc]; rintro _ _ ⟨rfl, rfl⟩
            go_wp2_with fail
            go_ret
            exact ⟨rfl, GW.trans g9⟩
          · have e2 : eqB x (oneN (startLen N) o) = true := by
              rcases HC.out with h | h
              · rw [hc] at h; cases h
              · exact h
            go_wp2_with fail
            refine (Equal_calls _ _ (oneN (startLen N) o) (oneN (startLen N) o) _ i8 i6).mono ?_
            rw [ee]; rintro _ w9 ⟨rfl, g9⟩
            go_wp2_with fail
            refine (Covers_calls _ _ x (oneN (startLen N) o) _ (i5.gr g9) (i6.gr g9)).mono ?_
            rw [hc]; rintro _ _ ⟨rfl, rfl⟩
            go_wp2_with fail
            refine (Equal_calls _ _ x (oneN (startLen N) o) _ (i5.gr g9) (i6.gr g9)).mono ?_
            rw [e2]; rintro _ w10 ⟨rfl, g10⟩
            go_wp2_with fail
            go_ret
            exact ⟨rfl, (GW.trans g9).trans g10⟩
end Go.Proofs.Ytbopachnkbjmfaa
