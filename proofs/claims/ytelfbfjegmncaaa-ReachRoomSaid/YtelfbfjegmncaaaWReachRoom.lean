/- The call ReachRoom answers true at any net, mark and limits that read as data; nothing that lay there turns. -/
import Derived.Test.YtelfbfjegmncaaaAlive4
namespace Go.Proofs.Ytelfbfjegmncaaa
open Go.RowKit Go.Tok
set_option linter.unusedVariables false
set_option maxHeartbeats 4000000 in
set_option maxRecDepth 100000 in
theorem ReachRoom_walk {v u : Value} {N : NetD} {m : List Int} {most more : Int} (w : World) (hN : NetR w v N) (hm0 : Ints w u m ∧ m.length ≤ 17592186043904) (hmo : I64 most) (hme : I64 more) :
    Calls Try.prog 5 #[v, u, .int .i64 most, .int .i64 more] w fun e w' => e = .returned (.bool true) ∧ Gr w w' := by
  obtain ⟨hm, _⟩ := hm0
  have hN' := hN
  obtain ⟨a, cap, rfl, hnl, hncap, hpl, hT⟩ := hN.open_
  have hpl1 := hpl.1
  have hpl2 := hpl.2
  have hm1 := hme.1
  have hm2 := hme.2
  rcases ha : graphF N m most with ⟨A, e⟩
  have HA := Lib.hid ha
  rcases hb : graphF N m more with ⟨B, f⟩
  by_cases he : e = 0
  case neg =>
    have q1 : (e != 0) = true := by simpa using he
    have HB := Lib.hid hb
    clear ha hb he
    go_enter Try.func5, Try.ntmps5
    go_wp2_with fail
    refine (alive4_calls _).mono ?_
    rintro _ w1 ⟨rfl, g1⟩
    have B0 := box_cell g1 (i := 0) rfl
    have B1 := box_cell g1 (i := 1) rfl
    have GW : Gr w w1 := ((Gr.refl w).alloc _).trans g1
    go_wp2_with fail
    refine (Graph_calls _ _ N m most _ (hN'.gr GW) (hm.gr GW) hmo).mono ?_
    rw [HA.out]; rintro _ w2 ⟨v2, rfl, i2, g2⟩
    obtain ⟨ma2, mc2, aa2, ac2, rfl, _, _, _, _, ms2, as2⟩ := i2.open_
    have GS2 : Gr w2 (w2.alloc (.cells #[.slice ma2 A.marks.length mc2, .slice aa2 A.arcs.length ac2] 40)) := (Gr.refl _).alloc _
    have S02 : (w2.alloc (.cells #[.slice ma2 A.marks.length mc2, .slice aa2 A.arcs.length ac2] 40)).cell? ⟨w2.heap.size, 0, none⟩ = some (.slice ma2 A.marks.length mc2) := box_cell (Gr.refl _) (i := 0) rfl
    have S12 : (w2.alloc (.cells #[.slice ma2 A.marks.length mc2, .slice aa2 A.arcs.length ac2] 40)).cell? ⟨w2.heap.size, 1, none⟩ = some (.slice aa2 A.arcs.length ac2) := box_cell (Gr.refl _) (i := 1) rfl
    replace B0 := cell_gr (cell_gr B0 g2) GS2
    replace B1 := cell_gr (cell_gr B1 g2) GS2
    replace GW := (GW.trans g2).trans GS2
    clear g1 g2
    go_wp2_with fail
    refine (Graph_calls _ _ N m more _ (hN'.gr GW) (hm.gr GW) hme).mono ?_
    rw [HB.out]; rintro _ w3 ⟨v3, rfl, i3, g3⟩
    obtain ⟨ma3, mc3, aa3, ac3, rfl, _, _, _, _, ms3, as3⟩ := i3.open_
    have GS3 : Gr w3 (w3.alloc (.cells #[.slice ma3 B.marks.length mc3, .slice aa3 B.arcs.length ac3] 40)) := (Gr.refl _).alloc _
    have S03 : (w3.alloc (.cells #[.slice ma3 B.marks.length mc3, .slice aa3 B.arcs.length ac3] 40)).cell? ⟨w3.heap.size, 0, none⟩ = some (.slice ma3 B.marks.length mc3) := box_cell (Gr.refl _) (i := 0) rfl
    have S13 : (w3.alloc (.cells #[.slice ma3 B.marks.length mc3, .slice aa3 B.arcs.length ac3] 40)).cell? ⟨w3.heap.size, 1, none⟩ = some (.slice aa3 B.arcs.length ac3) := box_cell (Gr.refl _) (i := 1) rfl
    replace S02 := cell_gr (cell_gr S02 g3) GS3
    replace S12 := cell_gr (cell_gr S12 g3) GS3
    replace ms2 := ((ms2.gr GS2).gr g3).gr GS3
    replace as2 := ((as2.gr GS2).gr g3).gr GS3
    replace GW := (GW.trans g3).trans GS3
    clear g3
    go_wp2_with fail
    go_ret
    exact ⟨rfl, GW⟩
  case pos =>
    subst he
    by_cases h1 : 1 ≤ more
    case neg =>
      have h1' : more < 1 := by omega
      have HB := Lib.hid hb
      clear ha hb h1
      go_enter Try.func5, Try.ntmps5
      go_wp2_with fail
      refine (alive4_calls _).mono ?_
      rintro _ w1 ⟨rfl, g1⟩
      have B0 := box_cell g1 (i := 0) rfl
      have B1 := box_cell g1 (i := 1) rfl
      have GW : Gr w w1 := ((Gr.refl w).alloc _).trans g1
      go_wp2_with fail
      refine (Graph_calls _ _ N m most _ (hN'.gr GW) (hm.gr GW) hmo).mono ?_
      rw [HA.out]; rintro _ w2 ⟨v2, rfl, i2, g2⟩
      obtain ⟨ma2, mc2, aa2, ac2, rfl, _, _, _, _, ms2, as2⟩ := i2.open_
      have GS2 : Gr w2 (w2.alloc (.cells #[.slice ma2 A.marks.length mc2, .slice aa2 A.arcs.length ac2] 40)) := (Gr.refl _).alloc _
      have S02 : (w2.alloc (.cells #[.slice ma2 A.marks.length mc2, .slice aa2 A.arcs.length ac2] 40)).cell? ⟨w2.heap.size, 0, none⟩ = some (.slice ma2 A.marks.length mc2) := box_cell (Gr.refl _) (i := 0) rfl
      have S12 : (w2.alloc (.cells #[.slice ma2 A.marks.length mc2, .slice aa2 A.arcs.length ac2] 40)).cell? ⟨w2.heap.size, 1, none⟩ = some (.slice aa2 A.arcs.length ac2) := box_cell (Gr.refl _) (i := 1) rfl
      replace B0 := cell_gr (cell_gr B0 g2) GS2
      replace B1 := cell_gr (cell_gr B1 g2) GS2
      replace GW := (GW.trans g2).trans GS2
      clear g1 g2
      go_wp2_with fail
      refine (Graph_calls _ _ N m more _ (hN'.gr GW) (hm.gr GW) hme).mono ?_
      rw [HB.out]; rintro _ w3 ⟨v3, rfl, i3, g3⟩
      obtain ⟨ma3, mc3, aa3, ac3, rfl, _, _, _, _, ms3, as3⟩ := i3.open_
      have GS3 : Gr w3 (w3.alloc (.cells #[.slice ma3 B.marks.length mc3, .slice aa3 B.arcs.length ac3] 40)) := (Gr.refl _).alloc _
      have S03 : (w3.alloc (.cells #[.slice ma3 B.marks.length mc3, .slice aa3 B.arcs.length ac3] 40)).cell? ⟨w3.heap.size, 0, none⟩ = some (.slice ma3 B.marks.length mc3) := box_cell (Gr.refl _) (i := 0) rfl
      have S13 : (w3.alloc (.cells #[.slice ma3 B.marks.length mc3, .slice aa3 B.arcs.length ac3] 40)).cell? ⟨w3.heap.size, 1, none⟩ = some (.slice aa3 B.arcs.length ac3) := box_cell (Gr.refl _) (i := 1) rfl
      replace S02 := cell_gr (cell_gr S02 g3) GS3
      replace S12 := cell_gr (cell_gr S12 g3) GS3
      replace ms2 := ((ms2.gr GS2).gr g3).gr GS3
      replace as2 := ((as2.gr GS2).gr g3).gr GS3
      replace GW := (GW.trans g3).trans GS3
      clear g3
      go_wp2_with fail
      go_ret
      exact ⟨rfl, GW⟩
    case pos =>
      by_cases h2 : more ≤ 300
      case neg =>
        have h2' : 300 < more := by omega
        have HB := Lib.hid hb
        clear ha hb h2
        go_enter Try.func5, Try.ntmps5
        go_wp2_with fail
        refine (alive4_calls _).mono ?_
        rintro _ w1 ⟨rfl, g1⟩
        have B0 := box_cell g1 (i := 0) rfl
        have B1 := box_cell g1 (i := 1) rfl
        have GW : Gr w w1 := ((Gr.refl w).alloc _).trans g1
        go_wp2_with fail
        refine (Graph_calls _ _ N m most _ (hN'.gr GW) (hm.gr GW) hmo).mono ?_
        rw [HA.out]; rintro _ w2 ⟨v2, rfl, i2, g2⟩
        obtain ⟨ma2, mc2, aa2, ac2, rfl, _, _, _, _, ms2, as2⟩ := i2.open_
        have GS2 : Gr w2 (w2.alloc (.cells #[.slice ma2 A.marks.length mc2, .slice aa2 A.arcs.length ac2] 40)) := (Gr.refl _).alloc _
        have S02 : (w2.alloc (.cells #[.slice ma2 A.marks.length mc2, .slice aa2 A.arcs.length ac2] 40)).cell? ⟨w2.heap.size, 0, none⟩ = some (.slice ma2 A.marks.length mc2) := box_cell (Gr.refl _) (i := 0) rfl
        have S12 : (w2.alloc (.cells #[.slice ma2 A.marks.length mc2, .slice aa2 A.arcs.length ac2] 40)).cell? ⟨w2.heap.size, 1, none⟩ = some (.slice aa2 A.arcs.length ac2) := box_cell (Gr.refl _) (i := 1) rfl
        replace B0 := cell_gr (cell_gr B0 g2) GS2
        replace B1 := cell_gr (cell_gr B1 g2) GS2
        replace GW := (GW.trans g2).trans GS2
        clear g1 g2
        go_wp2_with fail
        refine (Graph_calls _ _ N m more _ (hN'.gr GW) (hm.gr GW) hme).mono ?_
        rw [HB.out]; rintro _ w3 ⟨v3, rfl, i3, g3⟩
        obtain ⟨ma3, mc3, aa3, ac3, rfl, _, _, _, _, ms3, as3⟩ := i3.open_
        have GS3 : Gr w3 (w3.alloc (.cells #[.slice ma3 B.marks.length mc3, .slice aa3 B.arcs.length ac3] 40)) := (Gr.refl _).alloc _
        have S03 : (w3.alloc (.cells #[.slice ma3 B.marks.length mc3, .slice aa3 B.arcs.length ac3] 40)).cell? ⟨w3.heap.size, 0, none⟩ = some (.slice ma3 B.marks.length mc3) := box_cell (Gr.refl _) (i := 0) rfl
        have S13 : (w3.alloc (.cells #[.slice ma3 B.marks.length mc3, .slice aa3 B.arcs.length ac3] 40)).cell? ⟨w3.heap.size, 1, none⟩ = some (.slice aa3 B.arcs.length ac3) := box_cell (Gr.refl _) (i := 1) rfl
        replace S02 := cell_gr (cell_gr S02 g3) GS3
        replace S12 := cell_gr (cell_gr S12 g3) GS3
        replace ms2 := ((ms2.gr GS2).gr g3).gr GS3
        replace as2 := ((as2.gr GS2).gr g3).gr GS3
        replace GW := (GW.trans g3).trans GS3
        clear g3
        go_wp2_with fail
        go_ret
        exact ⟨rfl, GW⟩
      case pos =>
        by_cases h3 : more < (A.marks.length : Int)
        · have hl := graph_less ha h1 h2 h3
          rw [hl] at hb
          obtain ⟨rfl, rfl⟩ := Prod.mk.inj hb
          have HB := Lib.hid hl
          clear ha hl hb
          go_enter Try.func5, Try.ntmps5
          go_wp2_with fail
          refine (alive4_calls _).mono ?_
          rintro _ w1 ⟨rfl, g1⟩
          have B0 := box_cell g1 (i := 0) rfl
          have B1 := box_cell g1 (i := 1) rfl
          have GW : Gr w w1 := ((Gr.refl w).alloc _).trans g1
          go_wp2_with fail
          refine (Graph_calls _ _ N m most _ (hN'.gr GW) (hm.gr GW) hmo).mono ?_
          rw [HA.out]; rintro _ w2 ⟨v2, rfl, i2, g2⟩
          obtain ⟨ma2, mc2, aa2, ac2, rfl, _, _, _, _, ms2, as2⟩ := i2.open_
          have GS2 : Gr w2 (w2.alloc (.cells #[.slice ma2 A.marks.length mc2, .slice aa2 A.arcs.length ac2] 40)) := (Gr.refl _).alloc _
          have S02 : (w2.alloc (.cells #[.slice ma2 A.marks.length mc2, .slice aa2 A.arcs.length ac2] 40)).cell? ⟨w2.heap.size, 0, none⟩ = some (.slice ma2 A.marks.length mc2) := box_cell (Gr.refl _) (i := 0) rfl
          have S12 : (w2.alloc (.cells #[.slice ma2 A.marks.length mc2, .slice aa2 A.arcs.length ac2] 40)).cell? ⟨w2.heap.size, 1, none⟩ = some (.slice aa2 A.arcs.length ac2) := box_cell (Gr.refl _) (i := 1) rfl
          replace B0 := cell_gr (cell_gr B0 g2) GS2
          replace B1 := cell_gr (cell_gr B1 g2) GS2
          replace GW := (GW.trans g2).trans GS2
          clear g1 g2
          go_wp2_with fail
          refine (Graph_calls _ _ N m more _ (hN'.gr GW) (hm.gr GW) hme).mono ?_
          rw [HB.out]; rintro _ w3 ⟨v3, rfl, i3, g3⟩
          obtain ⟨ma3, mc3, aa3, ac3, rfl⟩ := i3.open0
          have GS3 : Gr w3 (w3.alloc (.cells #[.slice ma3 0 mc3, .slice aa3 0 ac3] 40)) := (Gr.refl _).alloc _
          have e1 : zeroS.marks.length = 0 := rfl
          have e2 : zeroS.arcs.length = 0 := rfl
          replace S02 := cell_gr (cell_gr S02 g3) GS3
          replace S12 := cell_gr (cell_gr S12 g3) GS3
          replace ms2 := ((ms2.gr GS2).gr g3).gr GS3
          replace as2 := ((as2.gr GS2).gr g3).gr GS3
          replace GW := (GW.trans g3).trans GS3
          clear g3
          go_wp2_with fail
          go_ret
          exact ⟨rfl, GW⟩
        · have h3' : (A.marks.length : Int) ≤ more := by omega
          have hl := graph_more ha h1 h2 h3'
          rw [hl] at hb
          obtain ⟨rfl, rfl⟩ := Prod.mk.inj hb
          have HB := Lib.hid hl
          clear ha hl hb h3
          go_enter Try.func5, Try.ntmps5
          go_wp2_with fail
          refine (alive4_calls _).mono ?_
          rintro _ w1 ⟨rfl, g1⟩
          have B0 := box_cell g1 (i := 0) rfl
          have B1 := box_cell g1 (i := 1) rfl
          have GW : Gr w w1 := ((Gr.refl w).alloc _).trans g1
          go_wp2_with fail
          refine (Graph_calls _ _ N m most _ (hN'.gr GW) (hm.gr GW) hmo).mono ?_
          rw [HA.out]; rintro _ w2 ⟨v2, rfl, i2, g2⟩
          obtain ⟨ma2, mc2, aa2, ac2, rfl, _, _, _, _, ms2, as2⟩ := i2.open_
          have GS2 : Gr w2 (w2.alloc (.cells #[.slice ma2 A.marks.length mc2, .slice aa2 A.arcs.length ac2] 40)) := (Gr.refl _).alloc _
          have S02 : (w2.alloc (.cells #[.slice ma2 A.marks.length mc2, .slice aa2 A.arcs.length ac2] 40)).cell? ⟨w2.heap.size, 0, none⟩ = some (.slice ma2 A.marks.length mc2) := box_cell (Gr.refl _) (i := 0) rfl
          have S12 : (w2.alloc (.cells #[.slice ma2 A.marks.length mc2, .slice aa2 A.arcs.length ac2] 40)).cell? ⟨w2.heap.size, 1, none⟩ = some (.slice aa2 A.arcs.length ac2) := box_cell (Gr.refl _) (i := 1) rfl
          replace B0 := cell_gr (cell_gr B0 g2) GS2
          replace B1 := cell_gr (cell_gr B1 g2) GS2
          replace GW := (GW.trans g2).trans GS2
          clear g1 g2
          go_wp2_with fail
          refine (Graph_calls _ _ N m more _ (hN'.gr GW) (hm.gr GW) hme).mono ?_
          rw [HB.out]; rintro _ w3 ⟨v3, rfl, i3, g3⟩
          obtain ⟨ma3, mc3, aa3, ac3, rfl, _, _, _, _, ms3, as3⟩ := i3.open_
          have GS3 : Gr w3 (w3.alloc (.cells #[.slice ma3 A.marks.length mc3, .slice aa3 A.arcs.length ac3] 40)) := (Gr.refl _).alloc _
          have S03 : (w3.alloc (.cells #[.slice ma3 A.marks.length mc3, .slice aa3 A.arcs.length ac3] 40)).cell? ⟨w3.heap.size, 0, none⟩ = some (.slice ma3 A.marks.length mc3) := box_cell (Gr.refl _) (i := 0) rfl
          have S13 : (w3.alloc (.cells #[.slice ma3 A.marks.length mc3, .slice aa3 A.arcs.length ac3] 40)).cell? ⟨w3.heap.size, 1, none⟩ = some (.slice aa3 A.arcs.length ac3) := box_cell (Gr.refl _) (i := 1) rfl
          replace S02 := cell_gr (cell_gr S02 g3) GS3
          replace S12 := cell_gr (cell_gr S12 g3) GS3
          replace ms2 := ((ms2.gr GS2).gr g3).gr GS3
          replace as2 := ((as2.gr GS2).gr g3).gr GS3
          replace GW := (GW.trans g3).trans GS3
          clear g3
          go_wp2_with fail
          refine (SameSpace_self _ _ A _ (SpaceR.mk_ ms2 as2) (SpaceR.mk_ (ms3.gr GS3) (as3.gr GS3))).mono ?_
          rintro _ w4 ⟨rfl, g4⟩
          go_wp2_with fail
          go_ret
          exact ⟨rfl, GW.trans g4⟩
end Go.Proofs.Ytelfbfjegmncaaa
