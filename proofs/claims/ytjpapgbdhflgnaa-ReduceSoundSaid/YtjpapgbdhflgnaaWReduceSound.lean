/- The walk of ReduceSound: at every net, any two places and any limit, it answers true. -/
import Derived.Test.YtjpapgbdhflgnaaAlive13
import Derived.Test.YtjpapgbdhflgnaaRedSound
import Derived.Test.YtjpapgbdhflgnaaGU
namespace Go.Proofs.Ytjpapgbdhflgnaa
open Go.RowKit Go.Tok
set_option linter.unusedVariables false
theorem judge_shape {N : NetD} {i o most : Int} (h : shapeC N i o ≠ 0) : judgeF N i o most = (zeroVd, shapeC N i o) := by unfold judgeF; rw [if_pos h]
theorem red_kind {N M : NetD} {i o p q most : Int} {n : Nat} {d : VerdD} (h : shapeC N i o = 0) (e : reduceF ⟨N, i, o⟩ = (⟨M, p, q⟩, n)) (hj : judgeF N i o most = (d, 0)) :
    I64 p ∧ I64 q ∧ ∃ d', judgeF M p q most = (d', 0) ∧ d'.kind = d.kind := by
  have hS := shapeS_of (s := ⟨N, i, o⟩) h
  have R := (redF_ok hS).shape.code
  have K := reduce_kind (most := most) (c := d.kind) hS ⟨d, hj, rfl⟩
  rw [e] at R K
  have h2 := shapeC_zero R
  have b1 := netOk_p16 h2.1
  simp only at h2 b1
  exact ⟨⟨by omega, by omega⟩, ⟨by omega, by omega⟩, K⟩
set_option maxHeartbeats 8000000 in
set_option maxRecDepth 100000 in
theorem ReduceSound_walk {v : Value} {N : NetD} {i o most : Int} (w : World) (hN : NetR w v N) (hi : I64 i) (ho : I64 o) (hm : I64 most) :
    Calls Try.prog 5 #[v, .int .i64 i, .int .i64 o, .int .i64 most] w fun e w' => e = .returned (.bool true) ∧ Gr w w' := by
  by_cases hz : shapeC N i o = 0
  case neg =>
    have hN' := hN
    obtain ⟨a, cap, rfl, hnl, hncap, hpl, hT⟩ := hN.open_
    have hpl1 := hpl.1
    have hpl2 := hpl.2
    go_enter Try.func5, Try.ntmps5
    go_wp2_with fail
    refine (alive13_calls _).mono ?_
    rintro _ w1 ⟨rfl, g1⟩
    have B0 := box_cell g1 (i := 0) rfl
    have B1 := box_cell g1 (i := 1) rfl
    have GW : Gr w w1 := ((Gr.refl w).alloc _).trans g1
    clear g1
    go_wp2_with fail
    refine (Reduce_calls _ N i o _ (hN'.gr GW) hi ho).mono ?_
    rintro _ w2 hr
    obtain ⟨v2, y1, y2, y3, y4, rfl, g2, hc⟩ := hr.out
    replace B0 := cell_gr B0 g2
    replace B1 := cell_gr B1 g2
    replace GW := GW.trans g2
    clear hr g2
    obtain ⟨rfl, rfl, rfl, rfl, rfl⟩ : y4 = shapeC N i o ∧ v2 = .agg #[.int .i64 0, .slice none 0 0] ∧ y1 = 0 ∧ y2 = 0 ∧ y3 = 0 := by
      rcases hc with ⟨_, h1, _⟩ | ⟨h1, _, h2, h3, h4, h5⟩
      · exact absurd h1 hz
      · exact ⟨h1, h2, h3, h4, h5⟩
    have q1 : (shapeC N i o != 0) = true := by simpa using hz
    have q2 : (shapeC N i o == shapeC N i o) = true := by simp
    have q3 : (shapeC N i o == 0) = false := by simpa using hz
    have HJ := Lib.hid (judge_shape (most := most) hz)
    clear hc hz
    have gz : Gr w2 ((w2.alloc (.cells #[.int .i64 0, .slice none 0 0] 28)).alloc (.cells #[.int .i64 0, .int .i64 0, .int .i64 0] 33)) := ((Gr.refl _).alloc _).alloc _
    replace B0 := cell_gr B0 gz
    replace B1 := cell_gr B1 gz
    have GZ := GW.trans gz
    go_wp2_with fail
    refine (Judge_calls _ N i o most _ (hN'.gr GZ) hi ho hm).mono ?_
    rw [HJ.out]; rintro _ w3 ⟨v3, rfl, i3, g3⟩
    obtain ⟨a3, c3, rfl, _, _⟩ := i3.len
    go_wp2_with fail
    go_ret
    exact ⟨rfl, (GZ.trans g3).alloc _⟩
  rcases hrd : reduceF ⟨N, i, o⟩ with ⟨⟨M, p, q⟩, n⟩
  rcases hj : judgeF N i o most with ⟨d, f⟩
  have HZ := Lib.hid hz
  have HRD := Lib.hid hrd
  have HJ := Lib.hid hj
  clear hz hrd hj
  have hN' := hN
  obtain ⟨a, cap, rfl, hnl, hncap, hpl, hT⟩ := hN.open_
  have hpl1 := hpl.1
  have hpl2 := hpl.2
  go_enter Try.func5, Try.ntmps5
  go_wp2_with fail
  refine (alive13_calls _).mono ?_
  rintro _ w1 ⟨rfl, g1⟩
  have B0 := box_cell g1 (i := 0) rfl
  have B1 := box_cell g1 (i := 1) rfl
  have GW : Gr w w1 := ((Gr.refl w).alloc _).trans g1
  clear g1
  go_wp2_with fail
  refine (Reduce_calls _ N i o _ (hN'.gr GW) hi ho).mono ?_
  rintro _ w2 hr
  obtain ⟨v2, y1, y2, y3, y4, rfl, g2, hc⟩ := hr.out
  replace B0 := cell_gr B0 g2
  replace B1 := cell_gr B1 g2
  replace GW := GW.trans g2
  clear hr g2
  rw [HRD.out] at hc
  obtain ⟨rfl, hM, rfl, rfl, rfl⟩ : y4 = 0 ∧ NetR w2 v2 M ∧ y1 = p ∧ y2 = q ∧ y3 = (n : Nat) := by
    rcases hc with ⟨h1, _, h2, h3, h4, h5⟩ | ⟨_, h1, _⟩
    · exact ⟨h1, h2, h3, h4, h5⟩
    · exact absurd HZ.out h1
  obtain ⟨ma, mc, rfl, hm1, hm2, hm3, _⟩ := hM.open_
  have gz : Gr w2 ((w2.alloc (.cells #[.int .i64 M.places, .slice ma M.trans.length mc] 28)).alloc (.cells #[.int .i64 y1, .int .i64 y2, .int .i64 n] 33)) := ((Gr.refl _).alloc _).alloc _
  have bM : Blk ((w2.alloc (.cells #[.int .i64 M.places, .slice ma M.trans.length mc] 28)).alloc (.cells #[.int .i64 y1, .int .i64 y2, .int .i64 n] 33)) w2.heap.size 28 #[.int .i64 M.places, .slice ma M.trans.length mc] := (Blk.new rfl).gr ((Gr.refl _).alloc _)
  have bX : Blk ((w2.alloc (.cells #[.int .i64 M.places, .slice ma M.trans.length mc] 28)).alloc (.cells #[.int .i64 y1, .int .i64 y2, .int .i64 n] 33)) (w2.heap.size + 1) 33 #[.int .i64 y1, .int .i64 y2, .int .i64 n] := Blk.new (by simp)
  replace B0 := cell_gr B0 gz
  replace B1 := cell_gr B1 gz
  have M0 := bM.cell (i := 0) (v := .int .i64 M.places) rfl
  have M1 := bM.cell (i := 1) (v := .slice ma M.trans.length mc) rfl
  have X0 := bX.cell (i := 0) (v := .int .i64 y1) rfl
  have X1 := bX.cell (i := 1) (v := .int .i64 y2) rfl
  have GZ := GW.trans gz
  have HM := Lib.hid (hM.gr gz)
  clear hc GW gz bM bX hM hm1
  go_wp2_with fail
  refine (Judge_calls _ N i o most _ (hN'.gr GZ) hi ho hm).mono ?_
  rw [HJ.out]; rintro _ w3 ⟨v3, rfl, i3, g3⟩
  obtain ⟨a3, c3, rfl, _, _⟩ := i3.len
  simp only [] at i3
  have vx : Blk (w3.alloc (.cells #[.int .i64 d.kind, .slice a3 d.at_.length c3, .int .i64 d.tran] 41)) w3.heap.size 41 #[.int .i64 d.kind, .slice a3 d.at_.length c3, .int .i64 d.tran] := Blk.new rfl
  have gv : Gr w3 (w3.alloc (.cells #[.int .i64 d.kind, .slice a3 d.at_.length c3, .int .i64 d.tran] 41)) := (Gr.refl _).alloc _
  have GY := (GZ.trans g3).trans gv
  by_cases hf : f = 0
  case neg =>
    have q1 : (f != 0) = true := by simpa using hf
    clear hf GZ g3 gv vx i3
    go_wp2_with fail
    go_ret
    exact ⟨rfl, GY⟩
  subst hf
  obtain ⟨hip, hiq, d', hj', hk⟩ := red_kind HZ.out HRD.out HJ.out
  have HJ2 := Lib.hid hj'
  have HK := Lib.hid hk
  replace M0 := cell_gr (cell_gr M0 g3) gv
  replace M1 := cell_gr (cell_gr M1 g3) gv
  replace X0 := cell_gr (cell_gr X0 g3) gv
  replace X1 := cell_gr (cell_gr X1 g3) gv
  have HM2 := Lib.hid ((HM.out.gr g3).gr gv)
  have V0 := vx.cell (i := 0) (v := .int .i64 d.kind) rfl
  clear hj' hk g3 gv vx i3 HM GZ B0 B1
  go_wp2_with fail
  refine (Judge_calls _ M y1 y2 most _ HM2.out hip hiq hm).mono ?_
  rw [HJ2.out]; rintro _ w4 ⟨v4, rfl, i4, g4⟩
  obtain ⟨a4, c4, rfl, _, _⟩ := i4.len
  simp only [] at i4
  rw [HK.out]
  have ux : Blk (w4.alloc (.cells #[.int .i64 d.kind, .slice a4 d'.at_.length c4, .int .i64 d'.tran] 41)) w4.heap.size 41 #[.int .i64 d.kind, .slice a4 d'.at_.length c4, .int .i64 d'.tran] := Blk.new rfl
  have gu : Gr w4 (w4.alloc (.cells #[.int .i64 d.kind, .slice a4 d'.at_.length c4, .int .i64 d'.tran] 41)) := (Gr.refl _).alloc _
  replace V0 := cell_gr (cell_gr V0 g4) gu
  have U0 := ux.cell (i := 0) (v := .int .i64 d.kind) rfl
  have GU := (GY.trans g4).trans gu
  have q4 : (d.kind == d.kind) = true := by simp
  clear ux gu g4 i4 GY M0 M1 X0 X1
  go_wp2_with fail
  go_ret
  exact ⟨rfl, GU⟩
end Go.Proofs.Ytjpapgbdhflgnaa
