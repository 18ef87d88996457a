/- The call SoundClosed answers true at any net, places and limit that read as data; nothing that lay there turns. -/
import Derived.Test.YtbopachnkbjmfaaWSoundMeans
import Derived.Test.YtbopachnkbjmfaaGS
namespace Go.Proofs.Ytbopachnkbjmfaa
open Go.RowKit Go.Tok
set_option linter.unusedVariables false
theorem sound_closed2 {N : NetD} {i o most : Int} {v : VerdD} {S : SpaceD} {e : Int} {Cn : NetD} (h : judgeF N i o most = (v, 0)) (hc : closeF N i o = (Cn, 0)) (hg : graphF Cn (oneN (startLen Cn) i) 300 = (S, e)) :
    (e ≠ 0 ∧ v.kind ≠ 1) ∨ (e = 0 ∧ ((v.kind = 1 ∧ (liveF S (Cn.trans.length : Int)).length = Cn.trans.length) ∨ (v.kind ≠ 1 ∧ (liveF S (Cn.trans.length : Int)).length ≠ Cn.trans.length))) := by
  rcases close_cases N i o with ⟨c, h1, h2⟩ | ⟨a, b, rfl, rfl, h1, h2, h24⟩
  · rw [h1] at hc; exact absurd (Prod.mk.inj hc).2 h2
  · rw [h1] at hc
    obtain ⟨rfl, _⟩ := Prod.mk.inj hc
    rcases sound_closed h rfl rfl h24 hg with h3 | ⟨h3, h4⟩
    · exact .inl h3
    · refine .inr ⟨h3, ?_⟩
      by_cases hk : v.kind = 1
      · exact .inl ⟨hk, h4.1 hk⟩
      · exact .inr ⟨hk, fun hl => hk (h4.2 hl)⟩
set_option maxHeartbeats 8000000 in
set_option maxRecDepth 100000 in
theorem SoundClosed_walk {v : Value} {N : NetD} {i o most : Int} (w : World) (hN : NetR w v N) (hi : I64 i) (ho : I64 o) (hm : I64 most) :
    Calls Try.prog 15 #[v, .int .i64 i, .int .i64 o, .int .i64 most] w fun e w' => e = .returned (.bool true) ∧ Gr w w' := by
  have hN' := hN
  have h300 : I64 300 := by decide
  obtain ⟨a, cap, rfl, hnl, hncap, hpl, hT⟩ := hN.open_
  have hpl1 := hpl.1
  have hpl2 := hpl.2
  rcases hj : judgeF N i o most with ⟨r, e⟩
  rcases hcl : closeF N i o with ⟨C, f⟩
  have HJ := Lib.hid hj
  have HCL := Lib.hid hcl
  by_cases he : e = 0
  case neg =>
    have q1 : (e != 0) = true := by simpa using he
    clear hj he hcl
    go_enter Try.func15, Try.ntmps15
    go_wp2_with fail
    refine (alive9_calls _).mono ?_
    rintro _ w1 ⟨rfl, g1⟩
    have B0 := box_cell g1 (i := 0) rfl
    have B1 := box_cell g1 (i := 1) rfl
    have GW : Gr w w1 := ((Gr.refl w).alloc _).trans g1
    go_wp2_with fail
    refine (Judge_calls _ N i o most _ (hN'.gr GW) hi ho hm).mono ?_
    rw [HJ.out]; rintro _ w2 ⟨v2, rfl, i2, g2⟩
    obtain ⟨a2, c2, rfl, _, _⟩ := i2.len
    simp only [] at i2
    have g3 : Gr w2 (w2.alloc (.cells #[.int .i64 r.kind, .slice a2 r.at_.length c2, .int .i64 r.tran] 84)) := (Gr.refl _).alloc _
    have V0 : (w2.alloc (.cells #[.int .i64 r.kind, .slice a2 r.at_.length c2, .int .i64 r.tran] 84)).cell? ⟨w2.heap.size, 0, none⟩ = some (.int .i64 r.kind) := box_cell (Gr.refl _) (i := 0) rfl
    have V1 : (w2.alloc (.cells #[.int .i64 r.kind, .slice a2 r.at_.length c2, .int .i64 r.tran] 84)).cell? ⟨w2.heap.size, 1, none⟩ = some (.slice a2 r.at_.length c2) := box_cell (Gr.refl _) (i := 1) rfl
    have V2 : (w2.alloc (.cells #[.int .i64 r.kind, .slice a2 r.at_.length c2, .int .i64 r.tran] 84)).cell? ⟨w2.heap.size, 2, none⟩ = some (.int .i64 r.tran) := box_cell (Gr.refl _) (i := 2) rfl
    replace B0 := cell_gr (cell_gr B0 g2) g3
    replace B1 := cell_gr (cell_gr B1 g2) g3
    replace GW := (GW.trans g2).trans g3
    replace i2 := i2.gr g3
    clear g1 g2 g3
    go_wp2_with fail
    generalize w2.alloc (.cells #[.int .i64 r.kind, .slice a2 r.at_.length c2, .int .i64 r.tran] 84) = w3 at V0 V1 V2 B0 B1 GW i2 ⊢
    generalize w2.heap.size = vb at V0 V1 V2 ⊢
    refine (Close_calls _ N i o _ (hN'.gr GW) hi ho).mono ?_
    rw [HCL.out]; rintro _ w4 ⟨v4, rfl, i4, g4⟩
    simp only [] at i4
    obtain ⟨ca, cc, rfl, _, _, _, _⟩ := i4.open_
    have g5 : Gr w4 (w4.alloc (.cells #[.int .i64 C.places, .slice ca C.trans.length cc] 24)) := (Gr.refl _).alloc _
    have b0 : Blk (w4.alloc (.cells #[.int .i64 C.places, .slice ca C.trans.length cc] 24)) w4.heap.size 24 #[.int .i64 C.places, .slice ca C.trans.length cc] := Blk.new rfl
    replace V0 := cell_gr (cell_gr V0 g4) g5
    replace GW := (GW.trans g4).trans g5
    have K1 := i4.gr g5
    clear g4 g5 B0 B1 V1 V2 i2 i4
    go_wp2_with fail
    generalize w4.alloc (.cells #[.int .i64 C.places, .slice ca C.trans.length cc] 24) = w1 at V0 GW K1 b0 ⊢
    generalize w4.heap.size = cb at b0 ⊢
    have C0 := b0.cell (i := 0) rfl
    have C1 := b0.cell (i := 1) rfl
    go_wp2_with fail
    go_ret
    exact ⟨rfl, GW⟩
  case pos =>
    subst he
    by_cases hf : f = 0
    case neg =>
      have q1 : (f != 0) = true := by simpa using hf
      clear hj hf hcl
      go_enter Try.func15, Try.ntmps15
      go_wp2_with fail
      refine (alive9_calls _).mono ?_
      rintro _ w1 ⟨rfl, g1⟩
      have B0 := box_cell g1 (i := 0) rfl
      have B1 := box_cell g1 (i := 1) rfl
      have GW : Gr w w1 := ((Gr.refl w).alloc _).trans g1
      go_wp2_with fail
      refine (Judge_calls _ N i o most _ (hN'.gr GW) hi ho hm).mono ?_
      rw [HJ.out]; rintro _ w2 ⟨v2, rfl, i2, g2⟩
      obtain ⟨a2, c2, rfl, _, _⟩ := i2.len
      simp only [] at i2
      have g3 : Gr w2 (w2.alloc (.cells #[.int .i64 r.kind, .slice a2 r.at_.length c2, .int .i64 r.tran] 84)) := (Gr.refl _).alloc _
      have V0 : (w2.alloc (.cells #[.int .i64 r.kind, .slice a2 r.at_.length c2, .int .i64 r.tran] 84)).cell? ⟨w2.heap.size, 0, none⟩ = some (.int .i64 r.kind) := box_cell (Gr.refl _) (i := 0) rfl
      have V1 : (w2.alloc (.cells #[.int .i64 r.kind, .slice a2 r.at_.length c2, .int .i64 r.tran] 84)).cell? ⟨w2.heap.size, 1, none⟩ = some (.slice a2 r.at_.length c2) := box_cell (Gr.refl _) (i := 1) rfl
      have V2 : (w2.alloc (.cells #[.int .i64 r.kind, .slice a2 r.at_.length c2, .int .i64 r.tran] 84)).cell? ⟨w2.heap.size, 2, none⟩ = some (.int .i64 r.tran) := box_cell (Gr.refl _) (i := 2) rfl
      replace B0 := cell_gr (cell_gr B0 g2) g3
      replace B1 := cell_gr (cell_gr B1 g2) g3
      replace GW := (GW.trans g2).trans g3
      replace i2 := i2.gr g3
      clear g1 g2 g3
      go_wp2_with fail
      generalize w2.alloc (.cells #[.int .i64 r.kind, .slice a2 r.at_.length c2, .int .i64 r.tran] 84) = w3 at V0 V1 V2 B0 B1 GW i2 ⊢
      generalize w2.heap.size = vb at V0 V1 V2 ⊢
      refine (Close_calls _ N i o _ (hN'.gr GW) hi ho).mono ?_
      rw [HCL.out]; rintro _ w4 ⟨v4, rfl, i4, g4⟩
      simp only [] at i4
      obtain ⟨ca, cc, rfl, _, _, _, _⟩ := i4.open_
      have g5 : Gr w4 (w4.alloc (.cells #[.int .i64 C.places, .slice ca C.trans.length cc] 24)) := (Gr.refl _).alloc _
      have b0 : Blk (w4.alloc (.cells #[.int .i64 C.places, .slice ca C.trans.length cc] 24)) w4.heap.size 24 #[.int .i64 C.places, .slice ca C.trans.length cc] := Blk.new rfl
      replace V0 := cell_gr (cell_gr V0 g4) g5
      replace GW := (GW.trans g4).trans g5
      have K1 := i4.gr g5
      clear g4 g5 B0 B1 V1 V2 i2 i4
      go_wp2_with fail
      generalize w4.alloc (.cells #[.int .i64 C.places, .slice ca C.trans.length cc] 24) = w1 at V0 GW K1 b0 ⊢
      generalize w4.heap.size = cb at b0 ⊢
      have C0 := b0.cell (i := 0) rfl
      have C1 := b0.cell (i := 1) rfl
      go_wp2_with fail
      go_ret
      exact ⟨rfl, GW⟩
    case pos =>
      subst hf
      rcases hg : graphF C (oneN (startLen C) i) 300 with ⟨A, e⟩
      have HGR := Lib.hid hg
      rcases sound_closed2 hj hcl hg with ⟨h1, h2⟩ | ⟨rfl, h1⟩
      · have q1 : (e != 0) = true := by simpa using h1
        have q2 : (r.kind != 1) = true := by simpa using h2
        clear hj hcl hg h1 h2
        go_enter Try.func15, Try.ntmps15
        go_wp2_with fail
        refine (alive9_calls _).mono ?_
        rintro _ w1 ⟨rfl, g1⟩
        have B0 := box_cell g1 (i := 0) rfl
        have B1 := box_cell g1 (i := 1) rfl
        have GW : Gr w w1 := ((Gr.refl w).alloc _).trans g1
        go_wp2_with fail
        refine (Judge_calls _ N i o most _ (hN'.gr GW) hi ho hm).mono ?_
        rw [HJ.out]; rintro _ w2 ⟨v2, rfl, i2, g2⟩
        obtain ⟨a2, c2, rfl, _, _⟩ := i2.len
        simp only [] at i2
        have g3 : Gr w2 (w2.alloc (.cells #[.int .i64 r.kind, .slice a2 r.at_.length c2, .int .i64 r.tran] 84)) := (Gr.refl _).alloc _
        have V0 : (w2.alloc (.cells #[.int .i64 r.kind, .slice a2 r.at_.length c2, .int .i64 r.tran] 84)).cell? ⟨w2.heap.size, 0, none⟩ = some (.int .i64 r.kind) := box_cell (Gr.refl _) (i := 0) rfl
        have V1 : (w2.alloc (.cells #[.int .i64 r.kind, .slice a2 r.at_.length c2, .int .i64 r.tran] 84)).cell? ⟨w2.heap.size, 1, none⟩ = some (.slice a2 r.at_.length c2) := box_cell (Gr.refl _) (i := 1) rfl
        have V2 : (w2.alloc (.cells #[.int .i64 r.kind, .slice a2 r.at_.length c2, .int .i64 r.tran] 84)).cell? ⟨w2.heap.size, 2, none⟩ = some (.int .i64 r.tran) := box_cell (Gr.refl _) (i := 2) rfl
        replace B0 := cell_gr (cell_gr B0 g2) g3
        replace B1 := cell_gr (cell_gr B1 g2) g3
        replace GW := (GW.trans g2).trans g3
        replace i2 := i2.gr g3
        clear g1 g2 g3
        go_wp2_with fail
        generalize w2.alloc (.cells #[.int .i64 r.kind, .slice a2 r.at_.length c2, .int .i64 r.tran] 84) = w3 at V0 V1 V2 B0 B1 GW i2 ⊢
        generalize w2.heap.size = vb at V0 V1 V2 ⊢
        refine (Close_calls _ N i o _ (hN'.gr GW) hi ho).mono ?_
        rw [HCL.out]; rintro _ w4 ⟨v4, rfl, i4, g4⟩
        simp only [] at i4
        obtain ⟨ca, cc, rfl, _, _, _, _⟩ := i4.open_
        have g5 : Gr w4 (w4.alloc (.cells #[.int .i64 C.places, .slice ca C.trans.length cc] 24)) := (Gr.refl _).alloc _
        have b0 : Blk (w4.alloc (.cells #[.int .i64 C.places, .slice ca C.trans.length cc] 24)) w4.heap.size 24 #[.int .i64 C.places, .slice ca C.trans.length cc] := Blk.new rfl
        replace V0 := cell_gr (cell_gr V0 g4) g5
        replace GW := (GW.trans g4).trans g5
        have K1 := i4.gr g5
        clear g4 g5 B0 B1 V1 V2 i2 i4
        go_wp2_with fail
        generalize w4.alloc (.cells #[.int .i64 C.places, .slice ca C.trans.length cc] 24) = w1 at V0 GW K1 b0 ⊢
        generalize w4.heap.size = cb at b0 ⊢
        have C0 := b0.cell (i := 0) rfl
        have C1 := b0.cell (i := 1) rfl
        go_wp2_with fail
        go_region_held3 (fun w' => w'.cell? ⟨cb, 0, none⟩ = some (.int .i64 C.places) ∧ w'.cell? ⟨cb, 1, none⟩ = some (.slice ca C.trans.length cc)) (first | go_keep | ((refine ⟨cell_gr C0 ?_, cell_gr C1 ?_⟩); (all_goals (focus ((repeat (first | exact Gr.refl _ | assumption | apply Gr.drewN | apply Gr.drew | apply Gr.alloc | (refine Gr.setCell ?_ (by simp; try omega) _) | refine Gr.trans ?_ (by assumption))); done))))) (first | (go_at_call 51; (with_reducible refine (Start_calls _ C _ _ (K1.gr ?_) hi).mono ?_); ((focus ((repeat (first | exact Gr.refl _ | assumption | apply Gr.alloc | apply Gr.drew | apply Gr.drewN | refine Gr.trans ?_ (by assumption))); done))); rintro _ w3 ⟨v3, rfl, o3, g3⟩; obtain ⟨ia, ic, rfl, _, _⟩ := o3.ints.len; have hw3 := g3.le; (try simp at hw3); have hw3' : w1.heap.size ≤ w3.heap.size := (by omega); (first | have bsA : Blk w3 w1.heap.size 76 #[.slice none 0 0, .slice none 0 0] := (Blk.new (w := w1.drew) rfl).gr g3 | skip)) | (go_at_call 35; (with_reducible refine (Graph_own _ _ C (oneN (startLen C) i) 300 _ (K1.gr ?_) (o3.ints.gr ?_) h300).mono ?_); ((focus ((repeat (first | exact Gr.refl _ | assumption | apply Gr.alloc | apply Gr.drew | apply Gr.drewN | refine Gr.trans ?_ (by assumption))); done))); ((focus ((repeat (first | exact Gr.refl _ | assumption | apply Gr.alloc | apply Gr.drew | apply Gr.drewN | refine Gr.trans ?_ (by assumption))); done))); rw [HGR.out]; rintro _ w4 ⟨v4, rfl, i4, g4⟩; obtain ⟨ma, mc, aa, ac, rfl, hc1, hc2, hc3, hc4, hM, hA⟩ := i4.now.open_; clear hM hA; have hw4 := g4.le; (try simp at hw4); have hw4' : w1.heap.size ≤ w4.heap.size := (by omega); (first | have bs := bsA.gr g4 | have bs : Blk w4 w3.heap.size 76 #[.slice none 0 0, .slice none 0 0] := (Blk.new (w := w3) rfl).gr g4 | have bs : Blk (w4.alloc (.cells #[.slice none 0 0, .slice none 0 0] 76)) w4.heap.size 76 #[.slice none 0 0, .slice none 0 0] := Blk.new rfl); have S0 := bs.cell (i := 0) rfl; have SF0 := bs.frozen 0; have bs1 := bs.set 0 (.slice ma A.marks.length mc); have S1 := bs1.cell (i := 1) rfl; have SF1 := bs1.frozen 1; have bs2 := bs1.set 1 (.slice aa A.arcs.length ac)))
        · have bS : Blk (w4.alloc (.cells #[.slice ma A.marks.length mc, .slice aa A.arcs.length ac] 76)) w4.heap.size 76 #[.slice ma A.marks.length mc, .slice aa A.arcs.length ac] := Blk.new rfl
          have hOn : On (fun b => b ≠ cb) (fun w => SpaceR w (.agg #[.slice ma A.marks.length mc, .slice aa A.arcs.length ac]) A) (w4.alloc (.cells #[.slice ma A.marks.length mc, .slice aa A.arcs.length ac] 76)) := (i4.gr ((Gr.refl w4).alloc _)).mono (fun b _ hb => by have := b0.lt; omega)
          have GF : Gr w1 (w4.alloc (.cells #[.slice ma A.marks.length mc, .slice aa A.arcs.length ac] 76)) := by (repeat (first | exact Gr.refl _ | assumption | apply Gr.drewN | apply Gr.drew | apply Gr.alloc | (refine Gr.setCell ?_ (by simp; try omega) _) | refine Gr.trans ?_ (by assumption)))
          replace hOn := hOn.now
          clear bs bs1 S0 S1 SF0 SF1 o3 g4 i4
          generalize w4.alloc (.cells #[.slice ma A.marks.length mc, .slice aa A.arcs.length ac] 76) = wf at bS hOn GF ⊢
          generalize w4.heap.size = sb at bS ⊢
          replace V0 := cell_gr V0 GF
          replace C1 := cell_gr C1 GF
          replace GW := GW.trans GF
          have S0 := bS.cell (i := 0) rfl
          have S1 := bS.cell (i := 1) rfl
          clear b0 bS K1 C0 GF
          go_wp2_with fail
          go_ret
          exact ⟨rfl, GW⟩
        · have bS : Blk ((w4.setCell ⟨w3.heap.size, 0, none⟩ (.slice ma A.marks.length mc)).setCell ⟨w3.heap.size, 1, none⟩ (.slice aa A.arcs.length ac)) w3.heap.size 76 #[.slice ma A.marks.length mc, .slice aa A.arcs.length ac] := bs2
          have hOn : On (fun b => b ≠ cb) (fun w => SpaceR w (.agg #[.slice ma A.marks.length mc, .slice aa A.arcs.length ac]) A) ((w4.setCell ⟨w3.heap.size, 0, none⟩ (.slice ma A.marks.length mc)).setCell ⟨w3.heap.size, 1, none⟩ (.slice aa A.arcs.length ac)) := (i4.kp (Kp.trans (set_kp (by simp) _) (set_kp (by simp) _))).mono (fun b _ hb => by have := b0.lt; simp at hb; omega)
          have GF : Gr w1 ((w4.setCell ⟨w3.heap.size, 0, none⟩ (.slice ma A.marks.length mc)).setCell ⟨w3.heap.size, 1, none⟩ (.slice aa A.arcs.length ac)) := by (repeat (first | exact Gr.refl _ | assumption | apply Gr.drewN | apply Gr.drew | apply Gr.alloc | (refine Gr.setCell ?_ (by simp; try omega) _) | refine Gr.trans ?_ (by assumption)))
          replace hOn := hOn.now
          clear bs bs1 S0 S1 SF0 SF1 o3 g4 i4
          generalize (w4.setCell ⟨w3.heap.size, 0, none⟩ (.slice ma A.marks.length mc)).setCell ⟨w3.heap.size, 1, none⟩ (.slice aa A.arcs.length ac) = wf at bS hOn GF ⊢
          generalize w3.heap.size = sb at bS ⊢
          replace V0 := cell_gr V0 GF
          replace C1 := cell_gr C1 GF
          replace GW := GW.trans GF
          have S0 := bS.cell (i := 0) rfl
          have S1 := bS.cell (i := 1) rfl
          clear b0 bS K1 C0 GF
          go_wp2_with fail
          go_ret
          exact ⟨rfl, GW⟩
        · have bS : Blk ((w4.setCell ⟨w1.heap.size, 0, none⟩ (.slice ma A.marks.length mc)).setCell ⟨w1.heap.size, 1, none⟩ (.slice aa A.arcs.length ac)) w1.heap.size 76 #[.slice ma A.marks.length mc, .slice aa A.arcs.length ac] := bs2
          have hOn : On (fun b => b ≠ cb) (fun w => SpaceR w (.agg #[.slice ma A.marks.length mc, .slice aa A.arcs.length ac]) A) ((w4.setCell ⟨w1.heap.size, 0, none⟩ (.slice ma A.marks.length mc)).setCell ⟨w1.heap.size, 1, none⟩ (.slice aa A.arcs.length ac)) := (i4.kp (Kp.trans (set_kp (by simp; omega) _) (set_kp (by simp; omega) _))).mono (fun b _ hb => by have := b0.lt; omega)
          have GF : Gr w1 ((w4.setCell ⟨w1.heap.size, 0, none⟩ (.slice ma A.marks.length mc)).setCell ⟨w1.heap.size, 1, none⟩ (.slice aa A.arcs.length ac)) := by (repeat (first | exact Gr.refl _ | assumption | apply Gr.drewN | apply Gr.drew | apply Gr.alloc | (refine Gr.setCell ?_ (by simp; try omega) _) | refine Gr.trans ?_ (by assumption)))
          replace hOn := hOn.now
          clear bs bs1 S0 S1 SF0 SF1 o3 g4 i4
          generalize (w4.setCell ⟨w1.heap.size, 0, none⟩ (.slice ma A.marks.length mc)).setCell ⟨w1.heap.size, 1, none⟩ (.slice aa A.arcs.length ac) = wf at bS hOn GF ⊢
          generalize w1.heap.size = sb at bS ⊢
          replace V0 := cell_gr V0 GF
          replace C1 := cell_gr C1 GF
          replace GW := GW.trans GF
          have S0 := bS.cell (i := 0) rfl
          have S1 := bS.cell (i := 1) rfl
          clear b0 bS K1 C0 GF
          go_wp2_with fail
          go_ret
          exact ⟨rfl, GW⟩
      · obtain ⟨hml, hal, hC64⟩ : A.marks.length ≤ 5864062014805 ∧ A.arcs.length ≤ 5864062014805 ∧ I64 (C.trans.length : Int) := by
          obtain ⟨s, k1, rfl, k2, k3, h4, hW⟩ := search_of_graph hg
          have h5 := (fits_sizes h4).1
          exact ⟨by have := hW.le; simp only []; omega, by have := search_arcs k1; simp only []; omega, i64_nat (by omega)⟩
        rcases h1 with ⟨h1, h2⟩ | ⟨h1, h2⟩
        · have q2 : (r.kind == 1) = true := by simpa using h1
          have q3 : (((liveF A (C.trans.length : Int)).length : Int) == (C.trans.length : Int)) = true := by rw [h2]; simp
          have q4 : ((liveF A (C.trans.length : Int)).length == C.trans.length) = true := by rw [h2]; simp
          clear hj hcl hg h1 h2
          go_enter Try.func15, Try.ntmps15
          go_wp2_with fail
          refine (alive9_calls _).mono ?_
          rintro _ w1 ⟨rfl, g1⟩
          have B0 := box_cell g1 (i := 0) rfl
          have B1 := box_cell g1 (i := 1) rfl
          have GW : Gr w w1 := ((Gr.refl w).alloc _).trans g1
          go_wp2_with fail
          refine (Judge_calls _ N i o most _ (hN'.gr GW) hi ho hm).mono ?_
          rw [HJ.out]; rintro _ w2 ⟨v2, rfl, i2, g2⟩
          obtain ⟨a2, c2, rfl, _, _⟩ := i2.len
          simp only [] at i2
          have g3 : Gr w2 (w2.alloc (.cells #[.int .i64 r.kind, .slice a2 r.at_.length c2, .int .i64 r.tran] 84)) := (Gr.refl _).alloc _
          have V0 : (w2.alloc (.cells #[.int .i64 r.kind, .slice a2 r.at_.length c2, .int .i64 r.tran] 84)).cell? ⟨w2.heap.size, 0, none⟩ = some (.int .i64 r.kind) := box_cell (Gr.refl _) (i := 0) rfl
          have V1 : (w2.alloc (.cells #[.int .i64 r.kind, .slice a2 r.at_.length c2, .int .i64 r.tran] 84)).cell? ⟨w2.heap.size, 1, none⟩ = some (.slice a2 r.at_.length c2) := box_cell (Gr.refl _) (i := 1) rfl
          have V2 : (w2.alloc (.cells #[.int .i64 r.kind, .slice a2 r.at_.length c2, .int .i64 r.tran] 84)).cell? ⟨w2.heap.size, 2, none⟩ = some (.int .i64 r.tran) := box_cell (Gr.refl _) (i := 2) rfl
          replace B0 := cell_gr (cell_gr B0 g2) g3
          replace B1 := cell_gr (cell_gr B1 g2) g3
          replace GW := (GW.trans g2).trans g3
          replace i2 := i2.gr g3
          clear g1 g2 g3
          go_wp2_with fail
          generalize w2.alloc (.cells #[.int .i64 r.kind, .slice a2 r.at_.length c2, .int .i64 r.tran] 84) = w3 at V0 V1 V2 B0 B1 GW i2 ⊢
          generalize w2.heap.size = vb at V0 V1 V2 ⊢
          refine (Close_calls _ N i o _ (hN'.gr GW) hi ho).mono ?_
          rw [HCL.out]; rintro _ w4 ⟨v4, rfl, i4, g4⟩
          simp only [] at i4
          obtain ⟨ca, cc, rfl, _, _, _, _⟩ := i4.open_
          have g5 : Gr w4 (w4.alloc (.cells #[.int .i64 C.places, .slice ca C.trans.length cc] 24)) := (Gr.refl _).alloc _
          have b0 : Blk (w4.alloc (.cells #[.int .i64 C.places, .slice ca C.trans.length cc] 24)) w4.heap.size 24 #[.int .i64 C.places, .slice ca C.trans.length cc] := Blk.new rfl
          replace V0 := cell_gr (cell_gr V0 g4) g5
          replace GW := (GW.trans g4).trans g5
          have K1 := i4.gr g5
          clear g4 g5 B0 B1 V1 V2 i2 i4
          go_wp2_with fail
          generalize w4.alloc (.cells #[.int .i64 C.places, .slice ca C.trans.length cc] 24) = w1 at V0 GW K1 b0 ⊢
          generalize w4.heap.size = cb at b0 ⊢
          have C0 := b0.cell (i := 0) rfl
          have C1 := b0.cell (i := 1) rfl
          go_wp2_with fail
          go_region_held3 (fun w' => w'.cell? ⟨cb, 0, none⟩ = some (.int .i64 C.places) ∧ w'.cell? ⟨cb, 1, none⟩ = some (.slice ca C.trans.length cc)) (first | go_keep | ((refine ⟨cell_gr C0 ?_, cell_gr C1 ?_⟩); (all_goals (focus ((repeat (first | exact Gr.refl _ | assumption | apply Gr.drewN | apply Gr.drew | apply Gr.alloc | (refine Gr.setCell ?_ (by simp; try omega) _) | refine Gr.trans ?_ (by assumption))); done))))) (first | (go_at_call 51; (with_reducible refine (Start_calls _ C _ _ (K1.gr ?_) hi).mono ?_); ((focus ((repeat (first | exact Gr.refl _ | assumption | apply Gr.alloc | apply Gr.drew | apply Gr.drewN | refine Gr.trans ?_ (by assumption))); done))); rintro _ w3 ⟨v3, rfl, o3, g3⟩; obtain ⟨ia, ic, rfl, _, _⟩ := o3.ints.len; have hw3 := g3.le; (try simp at hw3); have hw3' : w1.heap.size ≤ w3.heap.size := (by omega); (first | have bsA : Blk w3 w1.heap.size 76 #[.slice none 0 0, .slice none 0 0] := (Blk.new (w := w1.drew) rfl).gr g3 | skip)) | (go_at_call 35; (with_reducible refine (Graph_own _ _ C (oneN (startLen C) i) 300 _ (K1.gr ?_) (o3.ints.gr ?_) h300).mono ?_); ((focus ((repeat (first | exact Gr.refl _ | assumption | apply Gr.alloc | apply Gr.drew | apply Gr.drewN | refine Gr.trans ?_ (by assumption))); done))); ((focus ((repeat (first | exact Gr.refl _ | assumption | apply Gr.alloc | apply Gr.drew | apply Gr.drewN | refine Gr.trans ?_ (by assumption))); done))); rw [HGR.out]; rintro _ w4 ⟨v4, rfl, i4, g4⟩; obtain ⟨ma, mc, aa, ac, rfl, hc1, hc2, hc3, hc4, hM, hA⟩ := i4.now.open_; clear hM hA; have hw4 := g4.le; (try simp at hw4); have hw4' : w1.heap.size ≤ w4.heap.size := (by omega); (first | have bs := bsA.gr g4 | have bs : Blk w4 w3.heap.size 76 #[.slice none 0 0, .slice none 0 0] := (Blk.new (w := w3) rfl).gr g4 | have bs : Blk (w4.alloc (.cells #[.slice none 0 0, .slice none 0 0] 76)) w4.heap.size 76 #[.slice none 0 0, .slice none 0 0] := Blk.new rfl); have S0 := bs.cell (i := 0) rfl; have SF0 := bs.frozen 0; have bs1 := bs.set 0 (.slice ma A.marks.length mc); have S1 := bs1.cell (i := 1) rfl; have SF1 := bs1.frozen 1; have bs2 := bs1.set 1 (.slice aa A.arcs.length ac)))
          · have bS : Blk (w4.alloc (.cells #[.slice ma A.marks.length mc, .slice aa A.arcs.length ac] 76)) w4.heap.size 76 #[.slice ma A.marks.length mc, .slice aa A.arcs.length ac] := Blk.new rfl
            have hOn : On (fun b => b ≠ cb) (fun w => SpaceR w (.agg #[.slice ma A.marks.length mc, .slice aa A.arcs.length ac]) A) (w4.alloc (.cells #[.slice ma A.marks.length mc, .slice aa A.arcs.length ac] 76)) := (i4.gr ((Gr.refl w4).alloc _)).mono (fun b _ hb => by have := b0.lt; omega)
            have GF : Gr w1 (w4.alloc (.cells #[.slice ma A.marks.length mc, .slice aa A.arcs.length ac] 76)) := by (repeat (first | exact Gr.refl _ | assumption | apply Gr.drewN | apply Gr.drew | apply Gr.alloc | (refine Gr.setCell ?_ (by simp; try omega) _) | refine Gr.trans ?_ (by assumption)))
            replace hOn := hOn.now
            clear bs bs1 S0 S1 SF0 SF1 o3 g4 i4
            generalize w4.alloc (.cells #[.slice ma A.marks.length mc, .slice aa A.arcs.length ac] 76) = wf at bS hOn GF ⊢
            generalize w4.heap.size = sb at bS ⊢
            replace V0 := cell_gr V0 GF
            replace C1 := cell_gr C1 GF
            replace GW := GW.trans GF
            have S0 := bS.cell (i := 0) rfl
            have S1 := bS.cell (i := 1) rfl
            clear b0 bS K1 C0 GF
            have GX : Gr wf wf := Gr.refl _
            go_wp2_with fail
            go_region_held3 (fun w' => w'.cell? ⟨vb, 0, none⟩ = some (.int .i64 r.kind) ∧ w'.cell? ⟨cb, 1, none⟩ = some (.slice ca C.trans.length cc) ∧ w'.cell? ⟨sb, 0, none⟩ = some (.slice ma A.marks.length mc) ∧ w'.cell? ⟨sb, 1, none⟩ = some (.slice aa A.arcs.length ac)) (first | go_keep | ((refine ⟨cell_gr V0 ?_, cell_gr C1 ?_, cell_gr S0 ?_, cell_gr S1 ?_⟩); (all_goals (focus ((repeat (first | exact Gr.refl _ | assumption | apply Gr.alloc | apply Gr.drew | apply Gr.drewN | refine Gr.trans ?_ (by assumption))); done))))) (first | (go_at_call 48; (with_reducible refine (Live_calls _ A (C.trans.length : Int) _ (hOn.gr ?_) hC64 hml hal).mono ?_); ((focus ((repeat (first | exact Gr.refl _ | assumption | apply Gr.alloc | apply Gr.drew | apply Gr.drewN | refine Gr.trans ?_ (by assumption))); done))); rintro _ w6 ⟨v6, rfl, o6, g6⟩; obtain ⟨la, lc, rfl, _, _⟩ := o6.ints.len))
            have GZ := GW.trans (show Gr wf w6 from by (repeat (first | exact Gr.refl _ | assumption | apply Gr.alloc | apply Gr.drew | apply Gr.drewN | refine Gr.trans ?_ (by assumption))))
            go_wp2_with fail
            go_ret
            exact ⟨rfl, GZ⟩
          · have bS : Blk ((w4.setCell ⟨w3.heap.size, 0, none⟩ (.slice ma A.marks.length mc)).setCell ⟨w3.heap.size, 1, none⟩ (.slice aa A.arcs.length ac)) w3.heap.size 76 #[.slice ma A.marks.length mc, .slice aa A.arcs.length ac] := bs2
            have hOn : On (fun b => b ≠ cb) (fun w => SpaceR w (.agg #[.slice ma A.marks.length mc, .slice aa A.arcs.length ac]) A) ((w4.setCell ⟨w3.heap.size, 0, none⟩ (.slice ma A.marks.length mc)).setCell ⟨w3.heap.size, 1, none⟩ (.slice aa A.arcs.length ac)) := (i4.kp (Kp.trans (set_kp (by simp) _) (set_kp (by simp) _))).mono (fun b _ hb => by have := b0.lt; simp at hb; omega)
            have GF : Gr w1 ((w4.setCell ⟨w3.heap.size, 0, none⟩ (.slice ma A.marks.length mc)).setCell ⟨w3.heap.size, 1, none⟩ (.slice aa A.arcs.length ac)) := by (repeat (first | exact Gr.refl _ | assumption | apply Gr.drewN | apply Gr.drew | apply Gr.alloc | (refine Gr.setCell ?_ (by simp; try omega) _) | refine Gr.trans ?_ (by assumption)))
            replace hOn := hOn.now
            clear bs bs1 S0 S1 SF0 SF1 o3 g4 i4
            generalize (w4.setCell ⟨w3.heap.size, 0, none⟩ (.slice ma A.marks.length mc)).setCell ⟨w3.heap.size, 1, none⟩ (.slice aa A.arcs.length ac) = wf at bS hOn GF ⊢
            generalize w3.heap.size = sb at bS ⊢
            replace V0 := cell_gr V0 GF
            replace C1 := cell_gr C1 GF
            replace GW := GW.trans GF
            have S0 := bS.cell (i := 0) rfl
            have S1 := bS.cell (i := 1) rfl
            clear b0 bS K1 C0 GF
            have GX : Gr wf wf := Gr.refl _
            go_wp2_with fail
            go_region_held3 (fun w' => w'.cell? ⟨vb, 0, none⟩ = some (.int .i64 r.kind) ∧ w'.cell? ⟨cb, 1, none⟩ = some (.slice ca C.trans.length cc) ∧ w'.cell? ⟨sb, 0, none⟩ = some (.slice ma A.marks.length mc) ∧ w'.cell? ⟨sb, 1, none⟩ = some (.slice aa A.arcs.length ac)) (first | go_keep | ((refine ⟨cell_gr V0 ?_, cell_gr C1 ?_, cell_gr S0 ?_, cell_gr S1 ?_⟩); (all_goals (focus ((repeat (first | exact Gr.refl _ | assumption | apply Gr.alloc | apply Gr.drew | apply Gr.drewN | refine Gr.trans ?_ (by assumption))); done))))) (first | (go_at_call 48; (with_reducible refine (Live_calls _ A (C.trans.length : Int) _ (hOn.gr ?_) hC64 hml hal).mono ?_); ((focus ((repeat (first | exact Gr.refl _ | assumption | apply Gr.alloc | apply Gr.drew | apply Gr.drewN | refine Gr.trans ?_ (by assumption))); done))); rintro _ w6 ⟨v6, rfl, o6, g6⟩; obtain ⟨la, lc, rfl, _, _⟩ := o6.ints.len))
            have GZ := GW.trans (show Gr wf w6 from by (repeat (first | exact Gr.refl _ | assumption | apply Gr.alloc | apply Gr.drew | apply Gr.drewN | refine Gr.trans ?_ (by assumption))))
            go_wp2_with fail
            go_ret
            exact ⟨rfl, GZ⟩
          · have bS : Blk ((w4.setCell ⟨w1.heap.size, 0, none⟩ (.slice ma A.marks.length mc)).setCell ⟨w1.heap.size, 1, none⟩ (.slice aa A.arcs.length ac)) w1.heap.size 76 #[.slice ma A.marks.length mc, .slice aa A.arcs.length ac] := bs2
            have hOn : On (fun b => b ≠ cb) (fun w => SpaceR w (.agg #[.slice ma A.marks.length mc, .slice aa A.arcs.length ac]) A) ((w4.setCell ⟨w1.heap.size, 0, none⟩ (.slice ma A.marks.length mc)).setCell ⟨w1.heap.size, 1, none⟩ (.slice aa A.arcs.length ac)) := (i4.kp (Kp.trans (set_kp (by simp; omega) _) (set_kp (by simp; omega) _))).mono (fun b _ hb => by have := b0.lt; omega)
            have GF : Gr w1 ((w4.setCell ⟨w1.heap.size, 0, none⟩ (.slice ma A.marks.length mc)).setCell ⟨w1.heap.size, 1, none⟩ (.slice aa A.arcs.length ac)) := by (repeat (first | exact Gr.refl _ | assumption | apply Gr.drewN | apply Gr.drew | apply Gr.alloc | (refine Gr.setCell ?_ (by simp; try omega) _) | refine Gr.trans ?_ (by assumption)))
            replace hOn := hOn.now
            clear bs bs1 S0 S1 SF0 SF1 o3 g4 i4
            generalize (w4.setCell ⟨w1.heap.size, 0, none⟩ (.slice ma A.marks.length mc)).setCell ⟨w1.heap.size, 1, none⟩ (.slice aa A.arcs.length ac) = wf at bS hOn GF ⊢
            generalize w1.heap.size = sb at bS ⊢
            replace V0 := cell_gr V0 GF
            replace C1 := cell_gr C1 GF
            replace GW := GW.trans GF
            have S0 := bS.cell (i := 0) rfl
            have S1 := bS.cell (i := 1) rfl
            clear b0 bS K1 C0 GF
            have GX : Gr wf wf := Gr.refl _
            go_wp2_with fail
            go_region_held3 (fun w' => w'.cell? ⟨vb, 0, none⟩ = some (.int .i64 r.kind) ∧ w'.cell? ⟨cb, 1, none⟩ = some (.slice ca C.trans.length cc) ∧ w'.cell? ⟨sb, 0, none⟩ = some (.slice ma A.marks.length mc) ∧ w'.cell? ⟨sb, 1, none⟩ = some (.slice aa A.arcs.length ac)) (first | go_keep | ((refine ⟨cell_gr V0 ?_, cell_gr C1 ?_, cell_gr S0 ?_, cell_gr S1 ?_⟩); (all_goals (focus ((repeat (first | exact Gr.refl _ | assumption | apply Gr.alloc | apply Gr.drew | apply Gr.drewN | refine Gr.trans ?_ (by assumption))); done))))) (first | (go_at_call 48; (with_reducible refine (Live_calls _ A (C.trans.length : Int) _ (hOn.gr ?_) hC64 hml hal).mono ?_); ((focus ((repeat (first | exact Gr.refl _ | assumption | apply Gr.alloc | apply Gr.drew | apply Gr.drewN | refine Gr.trans ?_ (by assumption))); done))); rintro _ w6 ⟨v6, rfl, o6, g6⟩; obtain ⟨la, lc, rfl, _, _⟩ := o6.ints.len))
            have GZ := GW.trans (show Gr wf w6 from by (repeat (first | exact Gr.refl _ | assumption | apply Gr.alloc | apply Gr.drew | apply Gr.drewN | refine Gr.trans ?_ (by assumption))))
            go_wp2_with fail
            go_ret
            exact ⟨rfl, GZ⟩
        · have q2 : (r.kind == 1) = false := by simpa using h1
          have q3 : (((liveF A (C.trans.length : Int)).length : Int) == (C.trans.length : Int)) = false := beq_eq_false_iff_ne.2 (by omega)
          have q4 : ((liveF A (C.trans.length : Int)).length == C.trans.length) = false := beq_eq_false_iff_ne.2 (by omega)
          clear hj hcl hg h1 h2
          go_enter Try.func15, Try.ntmps15
          go_wp2_with fail
          refine (alive9_calls _).mono ?_
          rintro _ w1 ⟨rfl, g1⟩
          have B0 := box_cell g1 (i := 0) rfl
          have B1 := box_cell g1 (i := 1) rfl
          have GW : Gr w w1 := ((Gr.refl w).alloc _).trans g1
          go_wp2_with fail
          refine (Judge_calls _ N i o most _ (hN'.gr GW) hi ho hm).mono ?_
          rw [HJ.out]; rintro _ w2 ⟨v2, rfl, i2, g2⟩
          obtain ⟨a2, c2, rfl, _, _⟩ := i2.len
          simp only [] at i2
          have g3 : Gr w2 (w2.alloc (.cells #[.int .i64 r.kind, .slice a2 r.at_.length c2, .int .i64 r.tran] 84)) := (Gr.refl _).alloc _
          have V0 : (w2.alloc (.cells #[.int .i64 r.kind, .slice a2 r.at_.length c2, .int .i64 r.tran] 84)).cell? ⟨w2.heap.size, 0, none⟩ = some (.int .i64 r.kind) := box_cell (Gr.refl _) (i := 0) rfl
          have V1 : (w2.alloc (.cells #[.int .i64 r.kind, .slice a2 r.at_.length c2, .int .i64 r.tran] 84)).cell? ⟨w2.heap.size, 1, none⟩ = some (.slice a2 r.at_.length c2) := box_cell (Gr.refl _) (i := 1) rfl
          have V2 : (w2.alloc (.cells #[.int .i64 r.kind, .slice a2 r.at_.length c2, .int .i64 r.tran] 84)).cell? ⟨w2.heap.size, 2, none⟩ = some (.int .i64 r.tran) := box_cell (Gr.refl _) (i := 2) rfl
          replace B0 := cell_gr (cell_gr B0 g2) g3
          replace B1 := cell_gr (cell_gr B1 g2) g3
          replace GW := (GW.trans g2).trans g3
          replace i2 := i2.gr g3
          clear g1 g2 g3
          go_wp2_with fail
          generalize w2.alloc (.cells #[.int .i64 r.kind, .slice a2 r.at_.length c2, .int .i64 r.tran] 84) = w3 at V0 V1 V2 B0 B1 GW i2 ⊢
          generalize w2.heap.size = vb at V0 V1 V2 ⊢
          refine (Close_calls _ N i o _ (hN'.gr GW) hi ho).mono ?_
          rw [HCL.out]; rintro _ w4 ⟨v4, rfl, i4, g4⟩
          simp only [] at i4
          obtain ⟨ca, cc, rfl, _, _, _, _⟩ := i4.open_
          have g5 : Gr w4 (w4.alloc (.cells #[.int .i64 C.places, .slice ca C.trans.length cc] 24)) := (Gr.refl _).alloc _
          have b0 : Blk (w4.alloc (.cells #[.int .i64 C.places, .slice ca C.trans.length cc] 24)) w4.heap.size 24 #[.int .i64 C.places, .slice ca C.trans.length cc] := Blk.new rfl
          replace V0 := cell_gr (cell_gr V0 g4) g5
          replace GW := (GW.trans g4).trans g5
          have K1 := i4.gr g5
          clear g4 g5 B0 B1 V1 V2 i2 i4
          go_wp2_with fail
          generalize w4.alloc (.cells #[.int .i64 C.places, .slice ca C.trans.length cc] 24) = w1 at V0 GW K1 b0 ⊢
          generalize w4.heap.size = cb at b0 ⊢
          have C0 := b0.cell (i := 0) rfl
          have C1 := b0.cell (i := 1) rfl
          go_wp2_with fail
          go_region_held3 (fun w' => w'.cell? ⟨cb, 0, none⟩ = some (.int .i64 C.places) ∧ w'.cell? ⟨cb, 1, none⟩ = some (.slice ca C.trans.length cc)) (first | go_keep | ((refine ⟨cell_gr C0 ?_, cell_gr C1 ?_⟩); (all_goals (focus ((repeat (first | exact Gr.refl _ | assumption | apply Gr.drewN | apply Gr.drew | apply Gr.alloc | (refine Gr.setCell ?_ (by simp; try omega) _) | refine Gr.trans ?_ (by assumption))); done))))) (first | (go_at_call 51; (with_reducible refine (Start_calls _ C _ _ (K1.gr ?_) hi).mono ?_); ((focus ((repeat (first | exact Gr.refl _ | assumption | apply Gr.alloc | apply Gr.drew | apply Gr.drewN | refine Gr.trans ?_ (by assumption))); done))); rintro _ w3 ⟨v3, rfl, o3, g3⟩; obtain ⟨ia, ic, rfl, _, _⟩ := o3.ints.len; have hw3 := g3.le; (try simp at hw3); have hw3' : w1.heap.size ≤ w3.heap.size := (by omega); (first | have bsA : Blk w3 w1.heap.size 76 #[.slice none 0 0, .slice none 0 0] := (Blk.new (w := w1.drew) rfl).gr g3 | skip)) | (go_at_call 35; (with_reducible refine (Graph_own _ _ C (oneN (startLen C) i) 300 _ (K1.gr ?_) (o3.ints.gr ?_) h300).mono ?_); ((focus ((repeat (first | exact Gr.refl _ | assumption | apply Gr.alloc | apply Gr.drew | apply Gr.drewN | refine Gr.trans ?_ (by assumption))); done))); ((focus ((repeat (first | exact Gr.refl _ | assumption | apply Gr.alloc | apply Gr.drew | apply Gr.drewN | refine Gr.trans ?_ (by assumption))); done))); rw [HGR.out]; rintro _ w4 ⟨v4, rfl, i4, g4⟩; obtain ⟨ma, mc, aa, ac, rfl, hc1, hc2, hc3, hc4, hM, hA⟩ := i4.now.open_; clear hM hA; have hw4 := g4.le; (try simp at hw4); have hw4' : w1.heap.size ≤ w4.heap.size := (by omega); (first | have bs := bsA.gr g4 | have bs : Blk w4 w3.heap.size 76 #[.slice none 0 0, .slice none 0 0] := (Blk.new (w := w3) rfl).gr g4 | have bs : Blk (w4.alloc (.cells #[.slice none 0 0, .slice none 0 0] 76)) w4.heap.size 76 #[.slice none 0 0, .slice none 0 0] := Blk.new rfl); have S0 := bs.cell (i := 0) rfl; have SF0 := bs.frozen 0; have bs1 := bs.set 0 (.slice ma A.marks.length mc); have S1 := bs1.cell (i := 1) rfl; have SF1 := bs1.frozen 1; have bs2 := bs1.set 1 (.slice aa A.arcs.length ac)))
          · have bS : Blk (w4.alloc (.cells #[.slice ma A.marks.length mc, .slice aa A.arcs.length ac] 76)) w4.heap.size 76 #[.slice ma A.marks.length mc, .slice aa A.arcs.length ac] := Blk.new rfl
            have hOn : On (fun b => b ≠ cb) (fun w => SpaceR w (.agg #[.slice ma A.marks.length mc, .slice aa A.arcs.length ac]) A) (w4.alloc (.cells #[.slice ma A.marks.length mc, .slice aa A.arcs.length ac] 76)) := (i4.gr ((Gr.refl w4).alloc _)).mono (fun b _ hb => by have := b0.lt; omega)
            have GF : Gr w1 (w4.alloc (.cells #[.slice ma A.marks.length mc, .slice aa A.arcs.length ac] 76)) := by (repeat (first | exact Gr.refl _ | assumption | apply Gr.drewN | apply Gr.drew | apply Gr.alloc | (refine Gr.setCell ?_ (by simp; try omega) _) | refine Gr.trans ?_ (by assumption)))
            replace hOn := hOn.now
            clear bs bs1 S0 S1 SF0 SF1 o3 g4 i4
            generalize w4.alloc (.cells #[.slice ma A.marks.length mc, .slice aa A.arcs.length ac] 76) = wf at bS hOn GF ⊢
            generalize w4.heap.size = sb at bS ⊢
            replace V0 := cell_gr V0 GF
            replace C1 := cell_gr C1 GF
            replace GW := GW.trans GF
            have S0 := bS.cell (i := 0) rfl
            have S1 := bS.cell (i := 1) rfl
            clear b0 bS K1 C0 GF
            have GX : Gr wf wf := Gr.refl _
            go_wp2_with fail
            go_region_held3 (fun w' => w'.cell? ⟨vb, 0, none⟩ = some (.int .i64 r.kind) ∧ w'.cell? ⟨cb, 1, none⟩ = some (.slice ca C.trans.length cc) ∧ w'.cell? ⟨sb, 0, none⟩ = some (.slice ma A.marks.length mc) ∧ w'.cell? ⟨sb, 1, none⟩ = some (.slice aa A.arcs.length ac)) (first | go_keep | ((refine ⟨cell_gr V0 ?_, cell_gr C1 ?_, cell_gr S0 ?_, cell_gr S1 ?_⟩); (all_goals (focus ((repeat (first | exact Gr.refl _ | assumption | apply Gr.alloc | apply Gr.drew | apply Gr.drewN | refine Gr.trans ?_ (by assumption))); done))))) (first | (go_at_call 48; (with_reducible refine (Live_calls _ A (C.trans.length : Int) _ (hOn.gr ?_) hC64 hml hal).mono ?_); ((focus ((repeat (first | exact Gr.refl _ | assumption | apply Gr.alloc | apply Gr.drew | apply Gr.drewN | refine Gr.trans ?_ (by assumption))); done))); rintro _ w6 ⟨v6, rfl, o6, g6⟩; obtain ⟨la, lc, rfl, _, _⟩ := o6.ints.len))
            have GZ := GW.trans (show Gr wf w6 from by (repeat (first | exact Gr.refl _ | assumption | apply Gr.alloc | apply Gr.drew | apply Gr.drewN | refine Gr.trans ?_ (by assumption))))
            go_wp2_with fail
            go_ret
            exact ⟨rfl, GZ⟩
          · have bS : Blk ((w4.setCell ⟨w3.heap.size, 0, none⟩ (.slice ma A.marks.length mc)).setCell ⟨w3.heap.size, 1, none⟩ (.slice aa A.arcs.length ac)) w3.heap.size 76 #[.slice ma A.marks.length mc, .slice aa A.arcs.length ac] := bs2
            have hOn : On (fun b => b ≠ cb) (fun w => SpaceR w (.agg #[.slice ma A.marks.length mc, .slice aa A.arcs.length ac]) A) ((w4.setCell ⟨w3.heap.size, 0, none⟩ (.slice ma A.marks.length mc)).setCell ⟨w3.heap.size, 1, none⟩ (.slice aa A.arcs.length ac)) := (i4.kp (Kp.trans (set_kp (by simp) _) (set_kp (by simp) _))).mono (fun b _ hb => by have := b0.lt; simp at hb; omega)
            have GF : Gr w1 ((w4.setCell ⟨w3.heap.size, 0, none⟩ (.slice ma A.marks.length mc)).setCell ⟨w3.heap.size, 1, none⟩ (.slice aa A.arcs.length ac)) := by (repeat (first | exact Gr.refl _ | assumption | apply Gr.drewN | apply Gr.drew | apply Gr.alloc | (refine Gr.setCell ?_ (by simp; try omega) _) | refine Gr.trans ?_ (by assumption)))
            replace hOn := hOn.now
            clear bs bs1 S0 S1 SF0 SF1 o3 g4 i4
            generalize (w4.setCell ⟨w3.heap.size, 0, none⟩ (.slice ma A.marks.length mc)).setCell ⟨w3.heap.size, 1, none⟩ (.slice aa A.arcs.length ac) = wf at bS hOn GF ⊢
            generalize w3.heap.size = sb at bS ⊢
            replace V0 := cell_gr V0 GF
            replace C1 := cell_gr C1 GF
            replace GW := GW.trans GF
            have S0 := bS.cell (i := 0) rfl
            have S1 := bS.cell (i := 1) rfl
            clear b0 bS K1 C0 GF
            have GX : Gr wf wf := Gr.refl _
            go_wp2_with fail
            go_region_held3 (fun w' => w'.cell? ⟨vb, 0, none⟩ = some (.int .i64 r.kind) ∧ w'.cell? ⟨cb, 1, none⟩ = some (.slice ca C.trans.length cc) ∧ w'.cell? ⟨sb, 0, none⟩ = some (.slice ma A.marks.length mc) ∧ w'.cell? ⟨sb, 1, none⟩ = some (.slice aa A.arcs.length ac)) (first | go_keep | ((refine ⟨cell_gr V0 ?_, cell_gr C1 ?_, cell_gr S0 ?_, cell_gr S1 ?_⟩); (all_goals (focus ((repeat (first | exact Gr.refl _ | assumption | apply Gr.alloc | apply Gr.drew | apply Gr.drewN | refine Gr.trans ?_ (by assumption))); done))))) (first | (go_at_call 48; (with_reducible refine (Live_calls _ A (C.trans.length : Int) _ (hOn.gr ?_) hC64 hml hal).mono ?_); ((focus ((repeat (first | exact Gr.refl _ | assumption | apply Gr.alloc | apply Gr.drew | apply Gr.drewN | refine Gr.trans ?_ (by assumption))); done))); rintro _ w6 ⟨v6, rfl, o6, g6⟩; obtain ⟨la, lc, rfl, _, _⟩ := o6.ints.len))
            have GZ := GW.trans (show Gr wf w6 from by (repeat (first | exact Gr.refl _ | assumption | apply Gr.alloc | apply Gr.drew | apply Gr.drewN | refine Gr.trans ?_ (by assumption))))
            go_wp2_with fail
            go_ret
            exact ⟨rfl, GZ⟩
          · have bS : Blk ((w4.setCell ⟨w1.heap.size, 0, none⟩ (.slice ma A.marks.length mc)).setCell ⟨w1.heap.size, 1, none⟩ (.slice aa A.arcs.length ac)) w1.heap.size 76 #[.slice ma A.marks.length mc, .slice aa A.arcs.length ac] := bs2
            have hOn : On (fun b => b ≠ cb) (fun w => SpaceR w (.agg #[.slice ma A.marks.length mc, .slice aa A.arcs.length ac]) A) ((w4.setCell ⟨w1.heap.size, 0, none⟩ (.slice ma A.marks.length mc)).setCell ⟨w1.heap.size, 1, none⟩ (.slice aa A.arcs.length ac)) := (i4.kp (Kp.trans (set_kp (by simp; omega) _) (set_kp (by simp; omega) _))).mono (fun b _ hb => by have := b0.lt; omega)
            have GF : Gr w1 ((w4.setCell ⟨w1.heap.size, 0, none⟩ (.slice ma A.marks.length mc)).setCell ⟨w1.heap.size, 1, none⟩ (.slice aa A.arcs.length ac)) := by (repeat (first | exact Gr.refl _ | assumption | apply Gr.drewN | apply Gr.drew | apply Gr.alloc | (refine Gr.setCell ?_ (by simp; try omega) _) | refine Gr.trans ?_ (by assumption)))
            replace hOn := hOn.now
            clear bs bs1 S0 S1 SF0 SF1 o3 g4 i4
            generalize (w4.setCell ⟨w1.heap.size, 0, none⟩ (.slice ma A.marks.length mc)).setCell ⟨w1.heap.size, 1, none⟩ (.slice aa A.arcs.length ac) = wf at bS hOn GF ⊢
            generalize w1.heap.size = sb at bS ⊢
            replace V0 := cell_gr V0 GF
            replace C1 := cell_gr C1 GF
            replace GW := GW.trans GF
            have S0 := bS.cell (i := 0) rfl
            have S1 := bS.cell (i := 1) rfl
            clear b0 bS K1 C0 GF
            have GX : Gr wf wf := Gr.refl _
            go_wp2_with fail
            go_region_held3 (fun w' => w'.cell? ⟨vb, 0, none⟩ = some (.int .i64 r.kind) ∧ w'.cell? ⟨cb, 1, none⟩ = some (.slice ca C.trans.length cc) ∧ w'.cell? ⟨sb, 0, none⟩ = some (.slice ma A.marks.length mc) ∧ w'.cell? ⟨sb, 1, none⟩ = some (.slice aa A.arcs.length ac)) (first | go_keep | ((refine ⟨cell_gr V0 ?_, cell_gr C1 ?_, cell_gr S0 ?_, cell_gr S1 ?_⟩); (all_goals (focus ((repeat (first | exact Gr.refl _ | assumption | apply Gr.alloc | apply Gr.drew | apply Gr.drewN | refine Gr.trans ?_ (by assumption))); done))))) (first | (go_at_call 48; (with_reducible refine (Live_calls _ A (C.trans.length : Int) _ (hOn.gr ?_) hC64 hml hal).mono ?_); ((focus ((repeat (first | exact Gr.refl _ | assumption | apply Gr.alloc | apply Gr.drew | apply Gr.drewN | refine Gr.trans ?_ (by assumption))); done))); rintro _ w6 ⟨v6, rfl, o6, g6⟩; obtain ⟨la, lc, rfl, _, _⟩ := o6.ints.len))
            have GZ := GW.trans (show Gr wf w6 from by (repeat (first | exact Gr.refl _ | assumption | apply Gr.alloc | apply Gr.drew | apply Gr.drewN | refine Gr.trans ?_ (by assumption))))
            go_wp2_with fail
            go_ret
            exact ⟨rfl, GZ⟩
end Go.Proofs.Ytbopachnkbjmfaa
