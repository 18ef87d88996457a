/- The call SoundWitness answers true at any net, places, limit and sequence that read as data; nothing that lay there turns. -/
import Derived.Test.YtbopachnkbjmfaaWSoundMeans
namespace Go.Proofs.Ytbopachnkbjmfaa
open Go.RowKit Go.Tok
set_option linter.unusedVariables false
set_option maxHeartbeats 4000000 in
set_option maxRecDepth 100000 in
theorem SoundWitness_walk {v u : Value} {N : NetD} {i o most : Int} {seq : List Int} (w : World) (hN : NetR w v N) (hi : I64 i) (ho : I64 o) (hm : I64 most) (hs : Ints w u seq ∧ seq.length ≤ 17592186043904) :
    Calls Try.prog 16 #[v, .int .i64 i, .int .i64 o, .int .i64 most, u] w fun e w' => e = .returned (.bool true) ∧ Gr w w' := by
  replace hs := hs.1
  have hN' := hN
  obtain ⟨a, cap, rfl, hnl, hncap, hpl, hT⟩ := hN.open_
  have hpl1 := hpl.1
  have hpl2 := hpl.2
  rcases hj : judgeF N i o most with ⟨r, e⟩
  have HJ := Lib.hid hj
  by_cases he : e = 0
  case neg =>
    have q1 : (e != 0) = true := by simpa using he
    have hz := judge_bad hj he
    have q2 : (r.kind == 0) = true := by rw [hz]; rfl
    clear hj he hz
    go_enter Try.func16, Try.ntmps16
    go_wp2_with fail
    refine (alive9_calls _).mono ?_
    rintro _ w1 ⟨rfl, g1⟩
    have B0 := box_cell g1 (i := 0) rfl
    have B1 := box_cell g1 (i := 1) rfl
    have GW : Gr w w1 := ((Gr.refl w).alloc _).trans g1
    go_wp2_with fail
    refine (Judge_calls _ N i o most _ (hN'.gr GW) hi ho hm).mono ?_
    rw [HJ.out]; rintro _ w2 ⟨v2, rfl, i2, g2⟩
    obtain ⟨a2, c2, rfl, _, _⟩ := i2.len
    simp only [] at i2
    have g3 : Gr w2 (w2.alloc (.cells #[.int .i64 r.kind, .slice a2 r.at_.length c2, .int .i64 r.tran] 84)) := (Gr.refl _).alloc _
    have V0 : (w2.alloc (.cells #[.int .i64 r.kind, .slice a2 r.at_.length c2, .int .i64 r.tran] 84)).cell? ⟨w2.heap.size, 0, none⟩ = some (.int .i64 r.kind) := box_cell (Gr.refl _) (i := 0) rfl
    have V1 : (w2.alloc (.cells #[.int .i64 r.kind, .slice a2 r.at_.length c2, .int .i64 r.tran] 84)).cell? ⟨w2.heap.size, 1, none⟩ = some (.slice a2 r.at_.length c2) := box_cell (Gr.refl _) (i := 1) rfl
    have V2 : (w2.alloc (.cells #[.int .i64 r.kind, .slice a2 r.at_.length c2, .int .i64 r.tran] 84)).cell? ⟨w2.heap.size, 2, none⟩ = some (.int .i64 r.tran) := box_cell (Gr.refl _) (i := 2) rfl
    replace B0 := cell_gr (cell_gr B0 g2) g3
    replace B1 := cell_gr (cell_gr B1 g2) g3
    replace GW := (GW.trans g2).trans g3
    replace i2 := i2.gr g3
    clear g1 g2 g3
    go_wp2_with fail
    generalize w2.alloc (.cells #[.int .i64 r.kind, .slice a2 r.at_.length c2, .int .i64 r.tran] 84) = w3 at V0 V1 V2 B0 B1 GW i2 ⊢
    generalize w2.heap.size = vb at V0 V1 V2 ⊢
    go_wp2_with fail
    go_ret
    exact ⟨rfl, GW⟩
  case pos =>
    subst he
    rcases sound_witness hj with hk | ⟨hk, h1, h2, h3⟩ | ⟨hk, h1, h2⟩ | ⟨hk, k, h1, h2, h3⟩
    · have q1 : (r.kind == 1) = true := by rw [hk]; rfl
      clear hj hk
      go_enter Try.func16, Try.ntmps16
      go_wp2_with fail
      refine (alive9_calls _).mono ?_
      rintro _ w1 ⟨rfl, g1⟩
      have B0 := box_cell g1 (i := 0) rfl
      have B1 := box_cell g1 (i := 1) rfl
      have GW : Gr w w1 := ((Gr.refl w).alloc _).trans g1
      go_wp2_with fail
      refine (Judge_calls _ N i o most _ (hN'.gr GW) hi ho hm).mono ?_
      rw [HJ.out]; rintro _ w2 ⟨v2, rfl, i2, g2⟩
      obtain ⟨a2, c2, rfl, _, _⟩ := i2.len
      simp only [] at i2
      have g3 : Gr w2 (w2.alloc (.cells #[.int .i64 r.kind, .slice a2 r.at_.length c2, .int .i64 r.tran] 84)) := (Gr.refl _).alloc _
      have V0 : (w2.alloc (.cells #[.int .i64 r.kind, .slice a2 r.at_.length c2, .int .i64 r.tran] 84)).cell? ⟨w2.heap.size, 0, none⟩ = some (.int .i64 r.kind) := box_cell (Gr.refl _) (i := 0) rfl
      have V1 : (w2.alloc (.cells #[.int .i64 r.kind, .slice a2 r.at_.length c2, .int .i64 r.tran] 84)).cell? ⟨w2.heap.size, 1, none⟩ = some (.slice a2 r.at_.length c2) := box_cell (Gr.refl _) (i := 1) rfl
      have V2 : (w2.alloc (.cells #[.int .i64 r.kind, .slice a2 r.at_.length c2, .int .i64 r.tran] 84)).cell? ⟨w2.heap.size, 2, none⟩ = some (.int .i64 r.tran) := box_cell (Gr.refl _) (i := 2) rfl
      replace B0 := cell_gr (cell_gr B0 g2) g3
      replace B1 := cell_gr (cell_gr B1 g2) g3
      replace GW := (GW.trans g2).trans g3
      replace i2 := i2.gr g3
      clear g1 g2 g3
      go_wp2_with fail
      generalize w2.alloc (.cells #[.int .i64 r.kind, .slice a2 r.at_.length c2, .int .i64 r.tran] 84) = w3 at V0 V1 V2 B0 B1 GW i2 ⊢
      generalize w2.heap.size = vb at V0 V1 V2 ⊢
      go_wp2_with fail
      refine (Start_calls _ N o _ (hN'.gr GW) ho).mono ?_
      rintro _ w4 ⟨v4, rfl, o4, g4⟩
      replace B0 := cell_gr B0 g4
      replace B1 := cell_gr B1 g4
      replace V0 := cell_gr V0 g4
      replace V1 := cell_gr V1 g4
      replace V2 := cell_gr V2 g4
      replace GW := GW.trans g4
      replace i2 := i2.gr g4
      have i4 := o4.ints
      clear o4 g4
      go_wp2_with fail
      refine (Start_calls _ N i _ (hN'.gr GW) hi).mono ?_
      rintro _ w5 ⟨v5, rfl, o5, g5⟩
      replace B0 := cell_gr B0 g5
      replace B1 := cell_gr B1 g5
      replace V0 := cell_gr V0 g5
      replace V1 := cell_gr V1 g5
      replace V2 := cell_gr V2 g5
      replace GW := GW.trans g5
      replace i2 := i2.gr g5
      replace i4 := i4.gr g5
      have i5 := o5.ints
      clear o5 g5
      go_wp2_with fail
      go_ret
      exact ⟨rfl, GW⟩
    · have q1 : (r.kind == 1) = false := by rw [hk]; rfl
      have q2 : (r.kind == 2) = true := by rw [hk]; rfl
      rcases hp : pathF N (oneN (startLen N) i) r.at_ most with ⟨p, f⟩
      have HP := Lib.hid hp
      rw [hp] at h1
      simp only [] at h1
      subst h1
      clear hj hk hp
      go_enter Try.func16, Try.ntmps16
      go_wp2_with fail
      refine (alive9_calls _).mono ?_
      rintro _ w1 ⟨rfl, g1⟩
      have B0 := box_cell g1 (i := 0) rfl
      have B1 := box_cell g1 (i := 1) rfl
      have GW : Gr w w1 := ((Gr.refl w).alloc _).trans g1
      go_wp2_with fail
      refine (Judge_calls _ N i o most _ (hN'.gr GW) hi ho hm).mono ?_
      rw [HJ.out]; rintro _ w2 ⟨v2, rfl, i2, g2⟩
      obtain ⟨a2, c2, rfl, _, _⟩ := i2.len
      simp only [] at i2
      have g3 : Gr w2 (w2.alloc (.cells #[.int .i64 r.kind, .slice a2 r.at_.length c2, .int .i64 r.tran] 84)) := (Gr.refl _).alloc _
      have V0 : (w2.alloc (.cells #[.int .i64 r.kind, .slice a2 r.at_.length c2, .int .i64 r.tran] 84)).cell? ⟨w2.heap.size, 0, none⟩ = some (.int .i64 r.kind) := box_cell (Gr.refl _) (i := 0) rfl
      have V1 : (w2.alloc (.cells #[.int .i64 r.kind, .slice a2 r.at_.length c2, .int .i64 r.tran] 84)).cell? ⟨w2.heap.size, 1, none⟩ = some (.slice a2 r.at_.length c2) := box_cell (Gr.refl _) (i := 1) rfl
      have V2 : (w2.alloc (.cells #[.int .i64 r.kind, .slice a2 r.at_.length c2, .int .i64 r.tran] 84)).cell? ⟨w2.heap.size, 2, none⟩ = some (.int .i64 r.tran) := box_cell (Gr.refl _) (i := 2) rfl
      replace B0 := cell_gr (cell_gr B0 g2) g3
      replace B1 := cell_gr (cell_gr B1 g2) g3
      replace GW := (GW.trans g2).trans g3
      replace i2 := i2.gr g3
      clear g1 g2 g3
      go_wp2_with fail
      generalize w2.alloc (.cells #[.int .i64 r.kind, .slice a2 r.at_.length c2, .int .i64 r.tran] 84) = w3 at V0 V1 V2 B0 B1 GW i2 ⊢
      generalize w2.heap.size = vb at V0 V1 V2 ⊢
      go_wp2_with fail
      refine (Start_calls _ N o _ (hN'.gr GW) ho).mono ?_
      rintro _ w4 ⟨v4, rfl, o4, g4⟩
      replace B0 := cell_gr B0 g4
      replace B1 := cell_gr B1 g4
      replace V0 := cell_gr V0 g4
      replace V1 := cell_gr V1 g4
      replace V2 := cell_gr V2 g4
      replace GW := GW.trans g4
      replace i2 := i2.gr g4
      have i4 := o4.ints
      clear o4 g4
      go_wp2_with fail
      refine (Start_calls _ N i _ (hN'.gr GW) hi).mono ?_
      rintro _ w5 ⟨v5, rfl, o5, g5⟩
      replace B0 := cell_gr B0 g5
      replace B1 := cell_gr B1 g5
      replace V0 := cell_gr V0 g5
      replace V1 := cell_gr V1 g5
      replace V2 := cell_gr V2 g5
      replace GW := GW.trans g5
      replace i2 := i2.gr g5
      replace i4 := i4.gr g5
      have i5 := o5.ints
      clear o5 g5
      go_wp2_with fail
      refine (Path_calls _ _ _ N (oneN (startLen N) i) r.at_ most _ (hN'.gr GW) i5 i2 hm).mono ?_
      rw [HP.out]; rintro _ w6 ⟨v6, rfl, o6, g6⟩
      replace B0 := cell_gr B0 g6
      replace B1 := cell_gr B1 g6
      replace V0 := cell_gr V0 g6
      replace V1 := cell_gr V1 g6
      replace V2 := cell_gr V2 g6
      replace GW := GW.trans g6
      replace i2 := i2.gr g6
      replace i4 := i4.gr g6
      replace i5 := i5.gr g6
      clear o6 g6
      go_wp2_with fail
      refine (Covers_calls _ _ r.at_ (oneN (startLen N) o) _ i2 i4).mono ?_
      rw [h2]; rintro _ _ ⟨rfl, rfl⟩
      go_wp2_with fail
      refine (Equal_calls _ _ r.at_ (oneN (startLen N) o) _ i2 i4).mono ?_
      rw [h3]; rintro _ w7 ⟨rfl, g7⟩
      go_wp2_with fail
      go_ret
      exact ⟨rfl, GW.trans g7⟩
    · have q1 : (r.kind == 1) = false := by rw [hk]; rfl
      have q2 : (r.kind == 2) = false := by rw [hk]; rfl
      have q3 : (r.kind == 3) = true := by rw [hk]; rfl
      rcases hp : pathF N (oneN (startLen N) i) r.at_ most with ⟨p, f⟩
      rcases hp2 : pathF N r.at_ (oneN (startLen N) o) most with ⟨p2, f2⟩
      have HP := Lib.hid hp
      have HP2 := Lib.hid hp2
      rw [hp] at h1
      rw [hp2] at h2
      simp only [] at h1 h2
      subst h1 h2
      clear hj hk hp hp2
      go_enter Try.func16, Try.ntmps16
      go_wp2_with fail
      refine (alive9_calls _).mono ?_
      rintro _ w1 ⟨rfl, g1⟩
      have B0 := box_cell g1 (i := 0) rfl
      have B1 := box_cell g1 (i := 1) rfl
      have GW : Gr w w1 := ((Gr.refl w).alloc _).trans g1
      go_wp2_with fail
      refine (Judge_calls _ N i o most _ (hN'.gr GW) hi ho hm).mono ?_
      rw [HJ.out]; rintro _ w2 ⟨v2, rfl, i2, g2⟩
      obtain ⟨a2, c2, rfl, _, _⟩ := i2.len
      simp only [] at i2
      have g3 : Gr w2 (w2.alloc (.cells #[.int .i64 r.kind, .slice a2 r.at_.length c2, .int .i64 r.tran] 84)) := (Gr.refl _).alloc _
      have V0 : (w2.alloc (.cells #[.int .i64 r.kind, .slice a2 r.at_.length c2, .int .i64 r.tran] 84)).cell? ⟨w2.heap.size, 0, none⟩ = some (.int .i64 r.kind) := box_cell (Gr.refl _) (i := 0) rfl
      have V1 : (w2.alloc (.cells #[.int .i64 r.kind, .slice a2 r.at_.length c2, .int .i64 r.tran] 84)).cell? ⟨w2.heap.size, 1, none⟩ = some (.slice a2 r.at_.length c2) := box_cell (Gr.refl _) (i := 1) rfl
      have V2 : (w2.alloc (.cells #[.int .i64 r.kind, .slice a2 r.at_.length c2, .int .i64 r.tran] 84)).cell? ⟨w2.heap.size, 2, none⟩ = some (.int .i64 r.tran) := box_cell (Gr.refl _) (i := 2) rfl
      replace B0 := cell_gr (cell_gr B0 g2) g3
      replace B1 := cell_gr (cell_gr B1 g2) g3
      replace GW := (GW.trans g2).trans g3
      replace i2 := i2.gr g3
      clear g1 g2 g3
      go_wp2_with fail
      generalize w2.alloc (.cells #[.int .i64 r.kind, .slice a2 r.at_.length c2, .int .i64 r.tran] 84) = w3 at V0 V1 V2 B0 B1 GW i2 ⊢
      generalize w2.heap.size = vb at V0 V1 V2 ⊢
      go_wp2_with fail
      refine (Start_calls _ N o _ (hN'.gr GW) ho).mono ?_
      rintro _ w4 ⟨v4, rfl, o4, g4⟩
      replace B0 := cell_gr B0 g4
      replace B1 := cell_gr B1 g4
      replace V0 := cell_gr V0 g4
      replace V1 := cell_gr V1 g4
      replace V2 := cell_gr V2 g4
      replace GW := GW.trans g4
      replace i2 := i2.gr g4
      have i4 := o4.ints
      clear o4 g4
      go_wp2_with fail
      refine (Start_calls _ N i _ (hN'.gr GW) hi).mono ?_
      rintro _ w5 ⟨v5, rfl, o5, g5⟩
      replace B0 := cell_gr B0 g5
      replace B1 := cell_gr B1 g5
      replace V0 := cell_gr V0 g5
      replace V1 := cell_gr V1 g5
      replace V2 := cell_gr V2 g5
      replace GW := GW.trans g5
      replace i2 := i2.gr g5
      replace i4 := i4.gr g5
      have i5 := o5.ints
      clear o5 g5
      go_wp2_with fail
      refine (Path_calls _ _ _ N (oneN (startLen N) i) r.at_ most _ (hN'.gr GW) i5 i2 hm).mono ?_
      rw [HP.out]; rintro _ w6 ⟨v6, rfl, o6, g6⟩
      replace B0 := cell_gr B0 g6
      replace B1 := cell_gr B1 g6
      replace V0 := cell_gr V0 g6
      replace V1 := cell_gr V1 g6
      replace V2 := cell_gr V2 g6
      replace GW := GW.trans g6
      replace i2 := i2.gr g6
      replace i4 := i4.gr g6
      replace i5 := i5.gr g6
      clear o6 g6
      go_wp2_with fail
      refine (Path_calls _ _ _ N r.at_ (oneN (startLen N) o) most _ (hN'.gr GW) i2 i4 hm).mono ?_
      rw [HP2.out]; rintro _ w6 ⟨v6, rfl, o6, g6⟩
      replace B0 := cell_gr B0 g6
      replace B1 := cell_gr B1 g6
      replace V0 := cell_gr V0 g6
      replace V1 := cell_gr V1 g6
      replace V2 := cell_gr V2 g6
      replace GW := GW.trans g6
      replace i2 := i2.gr g6
      replace i4 := i4.gr g6
      replace i5 := i5.gr g6
      clear o6 g6
      go_wp2_with fail
      go_ret
      exact ⟨rfl, GW⟩
    · have q1 : (r.kind == 1) = false := by rw [hk]; rfl
      have q2 : (r.kind == 2) = false := by rw [hk]; rfl
      have q3 : (r.kind == 3) = false := by rw [hk]; rfl
      have q4 : (r.kind == 4) = true := by rw [hk]; rfl
      have t0 : (0 : Int) ≤ r.tran := by omega
      have t1 : r.tran < (N.trans.length : Int) := by omega
      rcases hr : runF N (oneN (startLen N) i) seq with ⟨x, f⟩
      have HR := Lib.hid hr
      by_cases hf : f = 0
      · subst hf
        have hh := h3 seq x hr
        rw [← h1] at hh
        clear hj hk hr h1 h2 h3
        go_enter Try.func16, Try.ntmps16
        go_wp2_with fail
        refine (alive9_calls _).mono ?_
        rintro _ w1 ⟨rfl, g1⟩
        have B0 := box_cell g1 (i := 0) rfl
        have B1 := box_cell g1 (i := 1) rfl
        have GW : Gr w w1 := ((Gr.refl w).alloc _).trans g1
        go_wp2_with fail
        refine (Judge_calls _ N i o most _ (hN'.gr GW) hi ho hm).mono ?_
        rw [HJ.out]; rintro _ w2 ⟨v2, rfl, i2, g2⟩
        obtain ⟨a2, c2, rfl, _, _⟩ := i2.len
        simp only [] at i2
        have g3 : Gr w2 (w2.alloc (.cells #[.int .i64 r.kind, .slice a2 r.at_.length c2, .int .i64 r.tran] 84)) := (Gr.refl _).alloc _
        have V0 : (w2.alloc (.cells #[.int .i64 r.kind, .slice a2 r.at_.length c2, .int .i64 r.tran] 84)).cell? ⟨w2.heap.size, 0, none⟩ = some (.int .i64 r.kind) := box_cell (Gr.refl _) (i := 0) rfl
        have V1 : (w2.alloc (.cells #[.int .i64 r.kind, .slice a2 r.at_.length c2, .int .i64 r.tran] 84)).cell? ⟨w2.heap.size, 1, none⟩ = some (.slice a2 r.at_.length c2) := box_cell (Gr.refl _) (i := 1) rfl
        have V2 : (w2.alloc (.cells #[.int .i64 r.kind, .slice a2 r.at_.length c2, .int .i64 r.tran] 84)).cell? ⟨w2.heap.size, 2, none⟩ = some (.int .i64 r.tran) := box_cell (Gr.refl _) (i := 2) rfl
        replace B0 := cell_gr (cell_gr B0 g2) g3
        replace B1 := cell_gr (cell_gr B1 g2) g3
        replace GW := (GW.trans g2).trans g3
        replace i2 := i2.gr g3
        clear g1 g2 g3
        go_wp2_with fail
        generalize w2.alloc (.cells #[.int .i64 r.kind, .slice a2 r.at_.length c2, .int .i64 r.tran] 84) = w3 at V0 V1 V2 B0 B1 GW i2 ⊢
        generalize w2.heap.size = vb at V0 V1 V2 ⊢
        go_wp2_with fail
        refine (Start_calls _ N o _ (hN'.gr GW) ho).mono ?_
        rintro _ w4 ⟨v4, rfl, o4, g4⟩
        replace B0 := cell_gr B0 g4
        replace B1 := cell_gr B1 g4
        replace V0 := cell_gr V0 g4
        replace V1 := cell_gr V1 g4
        replace V2 := cell_gr V2 g4
        replace GW := GW.trans g4
        replace i2 := i2.gr g4
        have i4 := o4.ints
        clear o4 g4
        go_wp2_with fail
        refine (Start_calls _ N i _ (hN'.gr GW) hi).mono ?_
        rintro _ w5 ⟨v5, rfl, o5, g5⟩
        replace B0 := cell_gr B0 g5
        replace B1 := cell_gr B1 g5
        replace V0 := cell_gr V0 g5
        replace V1 := cell_gr V1 g5
        replace V2 := cell_gr V2 g5
        replace GW := GW.trans g5
        replace i2 := i2.gr g5
        replace i4 := i4.gr g5
        have i5 := o5.ints
        clear o5 g5
        go_wp2_with fail
        refine (Run_own _ _ _ N (oneN (startLen N) i) seq _ (hN'.gr GW) i5 (hs.gr GW)).mono ?_
        rw [HR.out]; rintro _ w7 ⟨v7, rfl, o7, g7⟩
        replace B0 := cell_gr B0 g7
        replace B1 := cell_gr B1 g7
        replace V2 := cell_gr V2 g7
        replace GW := GW.trans g7
        clear o7 g7 V0 V1 i2 i4 i5
        go_wp2_with fail
        refine (Contains_calls _ seq r.tran _ (hs.gr GW)).mono ?_
        rw [hh]; rintro _ _ ⟨rfl, rfl⟩
        go_wp2_with fail
        go_ret
        exact ⟨rfl, GW⟩
      · have q5 : (f != 0) = true := by simpa using hf
        clear hj hk hr h1 h2 h3 hf
        go_enter Try.func16, Try.ntmps16
        go_wp2_with fail
        refine (alive9_calls _).mono ?_
        rintro _ w1 ⟨rfl, g1⟩
        have B0 := box_cell g1 (i := 0) rfl
        have B1 := box_cell g1 (i := 1) rfl
        have GW : Gr w w1 := ((Gr.refl w).alloc _).trans g1
        go_wp2_with fail
        refine (Judge_calls _ N i o most _ (hN'.gr GW) hi ho hm).mono ?_
        rw [HJ.out]; rintro _ w2 ⟨v2, rfl, i2, g2⟩
        obtain ⟨a2, c2, rfl, _, _⟩ := i2.len
        simp only [] at i2
        have g3 : Gr w2 (w2.alloc (.cells #[.int .i64 r.kind, .slice a2 r.at_.length c2, .int .i64 r.tran] 84)) := (Gr.refl _).alloc _
        have V0 : (w2.alloc (.cells #[.int .i64 r.kind, .slice a2 r.at_.length c2, .int .i64 r.tran] 84)).cell? ⟨w2.heap.size, 0, none⟩ = some (.int .i64 r.kind) := box_cell (Gr.refl _) (i := 0) rfl
        have V1 : (w2.alloc (.cells #[.int .i64 r.kind, .slice a2 r.at_.length c2, .int .i64 r.tran] 84)).cell? ⟨w2.heap.size, 1, none⟩ = some (.slice a2 r.at_.length c2) := box_cell (Gr.refl _) (i := 1) rfl
        have V2 : (w2.alloc (.cells #[.int .i64 r.kind, .slice a2 r.at_.length c2, .int .i64 r.tran] 84)).cell? ⟨w2.heap.size, 2, none⟩ = some (.int .i64 r.tran) := box_cell (Gr.refl _) (i := 2) rfl
        replace B0 := cell_gr (cell_gr B0 g2) g3
        replace B1 := cell_gr (cell_gr B1 g2) g3
        replace GW := (GW.trans g2).trans g3
        replace i2 := i2.gr g3
        clear g1 g2 g3
        go_wp2_with fail
        generalize w2.alloc (.cells #[.int .i64 r.kind, .slice a2 r.at_.length c2, .int .i64 r.tran] 84) = w3 at V0 V1 V2 B0 B1 GW i2 ⊢
        generalize w2.heap.size = vb at V0 V1 V2 ⊢
        go_wp2_with fail
        refine (Start_calls _ N o _ (hN'.gr GW) ho).mono ?_
        rintro _ w4 ⟨v4, rfl, o4, g4⟩
        replace B0 := cell_gr B0 g4
        replace B1 := cell_gr B1 g4
        replace V0 := cell_gr V0 g4
        replace V1 := cell_gr V1 g4
        replace V2 := cell_gr V2 g4
        replace GW := GW.trans g4
        replace i2 := i2.gr g4
        have i4 := o4.ints
        clear o4 g4
        go_wp2_with fail
        refine (Start_calls _ N i _ (hN'.gr GW) hi).mono ?_
        rintro _ w5 ⟨v5, rfl, o5, g5⟩
        replace B0 := cell_gr B0 g5
        replace B1 := cell_gr B1 g5
        replace V0 := cell_gr V0 g5
        replace V1 := cell_gr V1 g5
        replace V2 := cell_gr V2 g5
        replace GW := GW.trans g5
        replace i2 := i2.gr g5
        replace i4 := i4.gr g5
        have i5 := o5.ints
        clear o5 g5
        go_wp2_with fail
        refine (Run_own _ _ _ N (oneN (startLen N) i) seq _ (hN'.gr GW) i5 (hs.gr GW)).mono ?_
        rw [HR.out]; rintro _ w7 ⟨v7, rfl, o7, g7⟩
        replace B0 := cell_gr B0 g7
        replace B1 := cell_gr B1 g7
        replace V2 := cell_gr V2 g7
        replace GW := GW.trans g7
        clear o7 g7 V0 V1 i2 i4 i5
        go_wp2_with fail
        go_ret
        exact ⟨rfl, GW⟩
end Go.Proofs.Ytbopachnkbjmfaa
