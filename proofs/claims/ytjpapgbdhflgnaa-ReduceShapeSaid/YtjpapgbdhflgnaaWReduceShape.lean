/- The walk of ReduceShape: at every net, and any two places, it answers true. -/
import Derived.Test.YtjpapgbdhflgnaaAlive13
import Derived.Test.YtjpapgbdhflgnaaRL
import Derived.Test.YtjpapgbdhflgnaaSame
namespace Go.Proofs.Ytjpapgbdhflgnaa
open Go.RowKit Go.Tok
set_option linter.unusedVariables false
structure RShape (N : NetD) (i o : Int) (M : NetD) (p q : Int) (n : Nat) : Prop where
  sh : shapeC M p q = 0
  again : reduceF ⟨M, p, q⟩ = (⟨M, p, q⟩, 0)
  lo : n ≤ N.places + N.trans.length - M.places - M.trans.length
  hi : N.places + N.trans.length - M.places - M.trans.length ≤ 2 * n
  zero : n = 0 → M = N
  ip : I64 p
  iq : I64 q
  np : 0 ≤ N.places ∧ N.places ≤ 16 ∧ N.trans.length ≤ 24
  mp : 0 ≤ M.places ∧ M.places ≤ 16 ∧ M.trans.length ≤ 24
theorem rshape {N : NetD} {i o : Int} {M : NetD} {p q : Int} {n : Nat} (h : shapeC N i o = 0) (e : reduceF ⟨N, i, o⟩ = (⟨M, p, q⟩, n)) : RShape N i o M p q n := by
  have R := redF_ok (shapeS_of (s := ⟨N, i, o⟩) h)
  rw [e] at R
  have hc := R.shape.code
  simp only at hc
  have h1 := shapeC_zero h
  have h2 := shapeC_zero hc
  have a1 := netOk_p16 h1.1
  have a2 := netOk_n24 h1.1
  have b1 := netOk_p16 h2.1
  have b2 := netOk_n24 h2.1
  have lo := R.lo
  have hi := R.hi
  unfold meas at lo hi
  simp only at lo hi
  refine ⟨hc, reduce_again R.done, by omega, by omega, fun hn => ?_, ⟨by omega, by omega⟩, ⟨by omega, by omega⟩, ⟨a1.1, a1.2, a2⟩, ⟨b1.1, b1.2, b2⟩⟩
  have := R.zero hn
  injection this
set_option maxHeartbeats 8000000 in
set_option maxRecDepth 100000 in
theorem ReduceShape_walk {v : Value} {N : NetD} {i o : Int} (w : World) (hN : NetR w v N) (hi : I64 i) (ho : I64 o) :
    Calls Try.prog 4 #[v, .int .i64 i, .int .i64 o] w fun e w' => e = .returned (.bool true) ∧ Gr w w' := by
  by_cases hz : shapeC N i o = 0
  case neg =>
    have hN' := hN
    obtain ⟨a, cap, rfl, hnl, hncap, hpl, hT⟩ := hN.open_
    have hpl1 := hpl.1
    have hpl2 := hpl.2
    go_enter Try.func4, Try.ntmps4
    go_wp2_with fail
    refine (alive13_calls _).mono ?_
    rintro _ w1 ⟨rfl, g1⟩
    have B0 := box_cell g1 (i := 0) rfl
    have B1 := box_cell g1 (i := 1) rfl
    have GW : Gr w w1 := ((Gr.refl w).alloc _).trans g1
    clear g1
    go_wp2_with fail
    refine (Reduce_calls _ N i o _ (hN'.gr GW) hi ho).mono ?_
    rintro _ w2 hr
    obtain ⟨v2, y1, y2, y3, y4, rfl, g2, hc⟩ := hr.out
    replace B0 := cell_gr B0 g2
    replace B1 := cell_gr B1 g2
    replace GW := GW.trans g2
    clear hr g2
    obtain ⟨rfl, rfl, rfl, rfl, rfl⟩ : y4 = shapeC N i o ∧ v2 = .agg #[.int .i64 0, .slice none 0 0] ∧ y1 = 0 ∧ y2 = 0 ∧ y3 = 0 := by
      rcases hc with ⟨_, h1, _⟩ | ⟨h1, _, h2, h3, h4, h5⟩
      · exact absurd h1 hz
      · exact ⟨h1, h2, h3, h4, h5⟩
    have q1 : (shapeC N i o != 0) = true := by simpa using hz
    have q2 : (shapeC N i o == shapeC N i o) = true := by simp
    clear hc hz
    have gz : Gr w2 ((w2.alloc (.cells #[.int .i64 0, .slice none 0 0] 28)).alloc (.cells #[.int .i64 0, .int .i64 0, .int .i64 0] 33)) := ((Gr.refl _).alloc _).alloc _
    have bz : Blk ((w2.alloc (.cells #[.int .i64 0, .slice none 0 0] 28)).alloc (.cells #[.int .i64 0, .int .i64 0, .int .i64 0] 33)) w2.heap.size 28 #[.int .i64 0, .slice none 0 0] := (Blk.new rfl).gr ((Gr.refl _).alloc _)
    replace B0 := cell_gr B0 gz
    replace B1 := cell_gr B1 gz
    have GZ := GW.trans gz
    go_wp2_with fail
    refine (ShapeWrong_calls _ N i o _ (hN'.gr GZ) hi ho).mono ?_
    rintro _ w3 ⟨rfl, g3⟩
    have Z1 := (bz.gr g3).cell (i := 1) (v := .slice none 0 0) rfl
    go_wp2_with fail
    go_ret
    exact ⟨rfl, GZ.trans g3⟩
  rcases hrd : reduceF ⟨N, i, o⟩ with ⟨⟨M, p, q⟩, n⟩
  have R := rshape hz hrd
  have HR := Lib.hid R
  have HZ := Lib.hid hz
  have HRD := Lib.hid hrd
  have hip := R.ip
  have hiq := R.iq
  clear R hz hrd
  have hN' := hN
  obtain ⟨a, cap, rfl, hnl, hncap, hpl, hT⟩ := hN.open_
  have hpl1 := hpl.1
  have hpl2 := hpl.2
  go_enter Try.func4, Try.ntmps4
  go_wp2_with fail
  refine (alive13_calls _).mono ?_
  rintro _ w1 ⟨rfl, g1⟩
  have B0 := box_cell g1 (i := 0) rfl
  have B1 := box_cell g1 (i := 1) rfl
  have GW : Gr w w1 := ((Gr.refl w).alloc _).trans g1
  clear g1
  go_wp2_with fail
  refine (Reduce_calls _ N i o _ (hN'.gr GW) hi ho).mono ?_
  rintro _ w2 hr
  obtain ⟨v2, y1, y2, y3, y4, rfl, g2, hc⟩ := hr.out
  replace B0 := cell_gr B0 g2
  replace B1 := cell_gr B1 g2
  replace GW := GW.trans g2
  clear hr g2
  rw [HRD.out] at hc
  obtain ⟨rfl, hM, rfl, rfl, rfl⟩ : y4 = 0 ∧ NetR w2 v2 M ∧ y1 = p ∧ y2 = q ∧ y3 = (n : Nat) := by
    rcases hc with ⟨h1, _, h2, h3, h4, h5⟩ | ⟨_, h1, _⟩
    · exact ⟨h1, h2, h3, h4, h5⟩
    · exact absurd HZ.out h1
  obtain ⟨ma, mc, rfl, hm1, hm2, hm3, _⟩ := hM.open_
  have hm31 := hm3.1
  have hm32 := hm3.2
  have gz : Gr w2 ((w2.alloc (.cells #[.int .i64 M.places, .slice ma M.trans.length mc] 28)).alloc (.cells #[.int .i64 y1, .int .i64 y2, .int .i64 n] 33)) := ((Gr.refl _).alloc _).alloc _
  have bM : Blk ((w2.alloc (.cells #[.int .i64 M.places, .slice ma M.trans.length mc] 28)).alloc (.cells #[.int .i64 y1, .int .i64 y2, .int .i64 n] 33)) w2.heap.size 28 #[.int .i64 M.places, .slice ma M.trans.length mc] := (Blk.new rfl).gr ((Gr.refl _).alloc _)
  have bX : Blk ((w2.alloc (.cells #[.int .i64 M.places, .slice ma M.trans.length mc] 28)).alloc (.cells #[.int .i64 y1, .int .i64 y2, .int .i64 n] 33)) (w2.heap.size + 1) 33 #[.int .i64 y1, .int .i64 y2, .int .i64 n] := Blk.new (by simp)
  replace B0 := cell_gr B0 gz
  replace B1 := cell_gr B1 gz
  have M0 := bM.cell (i := 0) (v := .int .i64 M.places) rfl
  have M1 := bM.cell (i := 1) (v := .slice ma M.trans.length mc) rfl
  have X0 := bX.cell (i := 0) (v := .int .i64 y1) rfl
  have X1 := bX.cell (i := 1) (v := .int .i64 y2) rfl
  have X2 := bX.cell (i := 2) (v := .int .i64 n) rfl
  have GZ := GW.trans gz
  have HM := Lib.hid (hM.gr gz)
  clear hc GW gz bM bX hM hm1
  go_wp2_with fail
  refine (Reduce_calls _ M y1 y2 _ HM.out hip hiq).mono ?_
  rintro _ w3 hr
  obtain ⟨v3, z1, z2, z3, z4, rfl, g3, hc⟩ := hr.out
  rw [HR.out.again] at hc
  obtain ⟨rfl, hL, rfl, rfl, rfl⟩ : z4 = 0 ∧ NetR w3 v3 M ∧ z1 = y1 ∧ z2 = y2 ∧ z3 = 0 := by
    rcases hc with ⟨h1, _, h2, h3, h4, h5⟩ | ⟨_, h1, _⟩
    · exact ⟨h1, h2, h3, h4, h5⟩
    · exact absurd HR.out.sh h1
  obtain ⟨la, lc, rfl, hl1, hl2, hl3, _⟩ := hL.open_
  have gy : Gr w3 ((w3.alloc (.cells #[.int .i64 M.places, .slice la M.trans.length lc] 28)).alloc (.cells #[.int .i64 z1, .int .i64 z2, .int .i64 0] 33)) := ((Gr.refl _).alloc _).alloc _
  have bL : Blk ((w3.alloc (.cells #[.int .i64 M.places, .slice la M.trans.length lc] 28)).alloc (.cells #[.int .i64 z1, .int .i64 z2, .int .i64 0] 33)) w3.heap.size 28 #[.int .i64 M.places, .slice la M.trans.length lc] := (Blk.new rfl).gr ((Gr.refl _).alloc _)
  have bY : Blk ((w3.alloc (.cells #[.int .i64 M.places, .slice la M.trans.length lc] 28)).alloc (.cells #[.int .i64 z1, .int .i64 z2, .int .i64 0] 33)) (w3.heap.size + 1) 33 #[.int .i64 z1, .int .i64 z2, .int .i64 0] := Blk.new (by simp)
  have g4 := g3.trans gy
  replace B0 := cell_gr B0 g4
  replace B1 := cell_gr B1 g4
  replace M0 := cell_gr M0 g4
  replace M1 := cell_gr M1 g4
  replace X0 := cell_gr X0 g4
  replace X1 := cell_gr X1 g4
  replace X2 := cell_gr X2 g4
  have GY := GZ.trans g4
  have HM2 := Lib.hid (HM.out.gr g4)
  have HL := Lib.hid (hL.gr gy)
  have HBL := Lib.hid bL
  have HBY := Lib.hid bY
  have HGZ := Lib.hid GY
  have np1 := HR.out.np.1
  have np2 := HR.out.np.2.1
  have np3 := HR.out.np.2.2
  have mp1 := HR.out.mp.1
  have mp2 := HR.out.mp.2.1
  have mp3 := HR.out.mp.2.2
  clear hc g3 g4 gy bL bY hL hl1 hr GZ GY HM
  go_wp2_with fail
  refine (ShapeWrong_calls _ M z1 z2 _ HM2.out hip hiq).mono ?_
  rw [HR.out.sh]
  rintro _ w4 ⟨rfl, g4⟩
  replace B0 := cell_gr B0 g4
  replace B1 := cell_gr B1 g4
  replace M0 := cell_gr M0 g4
  replace M1 := cell_gr M1 g4
  replace X0 := cell_gr X0 g4
  replace X1 := cell_gr X1 g4
  replace X2 := cell_gr X2 g4
  have L0 := (HBL.out.gr g4).cell (i := 0) (v := .int .i64 M.places) rfl
  have L1 := (HBL.out.gr g4).cell (i := 1) (v := .slice la M.trans.length lc) rfl
  have Y0 := (HBY.out.gr g4).cell (i := 0) (v := .int .i64 z1) rfl
  have Y1 := (HBY.out.gr g4).cell (i := 1) (v := .int .i64 z2) rfl
  have Y2 := (HBY.out.gr g4).cell (i := 2) (v := .int .i64 0) rfl
  have HG4 := Lib.hid g4
  have HE : ∀ W : World, (Op.equalIn 10000 33 (.agg #[.int .i64 z1, .int .i64 z2, .int .i64 0]) (.agg #[.int .i64 z1, .int .i64 z2, .int .i64 0])).run Try.prog W = .ok true W := fun W => (run_eq_tri z1 z2 0 z1 z2 0 W).trans (by simp)
  clear g4
  have hself : sameN M M = true := sameN_iff.2 rfl
  have HSF := Lib.hid hself
  clear hself
  go_wp2_with fail
  refine (SameNet_calls _ _ M M _ (HL.out.gr HG4.out) (HM2.out.gr HG4.out)).mono ?_
  rw [HSF.out]
  rintro _ w5 ⟨rfl, g5⟩
  replace B0 := cell_gr B0 g5
  replace B1 := cell_gr B1 g5
  replace M0 := cell_gr M0 g5
  replace M1 := cell_gr M1 g5
  replace X2 := cell_gr X2 g5
  have HN5 := Lib.hid (hN'.gr ((HGZ.out.trans HG4.out).trans g5))
  have HM5 := Lib.hid ((HM2.out.gr HG4.out).gr g5)
  have HG5 := Lib.hid ((HGZ.out.trans HG4.out).trans g5)
  have r1 := HR.out.lo
  have r2 := HR.out.hi
  clear g5 L0 L1 Y0 Y1 Y2 X0 X1 HE
  by_cases hn : n = 0
  · have hMN := HR.out.zero hn
    subst hn
    subst hMN
    go_wp2_with fail
    refine (SameNet_calls _ _ M M _ HM5.out HN5.out).mono ?_
    rw [HSF.out]
    rintro _ w6 ⟨rfl, g6⟩
    go_wp2_with fail
    go_ret
    exact ⟨rfl, HG5.out.trans g6⟩
  · have hn1 : (0 : Int) < (n : Int) := by omega
    go_wp2_with fail
    go_ret
    exact ⟨rfl, HG5.out⟩
end Go.Proofs.Ytjpapgbdhflgnaa
