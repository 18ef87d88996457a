/- Contract of reduce.Reduce. -/
import Derived.Test.YtjpapgbdhflgnaaRedLaw2
import Derived.Test.YtjpapgbdhflgnaaTurnO
import Derived.Test.YtjpapgbdhflgnaaGS
namespace Go.Tok
open Go.RowKit
set_option linter.unusedVariables false
theorem ok_small {N : NetD} {i o : Int} (h : shapeC N i o = 0) : SmG ⟨N, i, o⟩ := by
  obtain ⟨hok, hi0, ho0, hip, hop, hio⟩ := shapeC_zero h
  have hp := Go.Proofs.Ytjpapgbdhflgnaa.netOk_p16 hok
  have hn := Go.Proofs.Ytjpapgbdhflgnaa.netOk_n24 hok
  have hf : ∀ k, k < N.trans.length → TranFacts N (ix N.trans k) := fun k hk => by have := netOk_tr hok hk; unfold NetD.tr at this; rw [← ix_def] at this; exact this
  have hw : ∀ l : List Int, (∀ x ∈ l, 0 ≤ x ∧ x ≤ 9) → ∀ q, 0 ≤ nth l q ∧ nth l q ≤ 9 := fun l hl q => by
    by_cases hq : q < l.length
    · rw [nth_lt hq]; exact hl _ (List.getElem_mem hq)
    · rw [nth_ge (by omega)]; omega
  refine ⟨⟨by simp only; omega, by simp only; omega, fun k hk => ⟨(hf k hk).pre, (hf k hk).post⟩, by simp only; omega⟩, fun t ht => ?_⟩
  obtain ⟨k, hk, rfl⟩ := List.getElem_of_mem ht
  have h1 := hf k hk
  rw [ix_lt hk] at h1
  exact ⟨hw _ fun x hx => by have := h1.preW x hx; omega, hw _ fun x hx => by have := h1.postW x hx; omega⟩
end Go.Tok
namespace Go.Proofs.Ytjpapgbdhflgnaa
open Go.RowKit Go.Tok
set_option linter.unusedVariables false
/-- two blocks are written, one behind the other -/
theorem two_cells {W : World} {b1 b2 : Nat} {t1 t2 : TypeId} {u0 u1 y0 y1 y2 : Value} (h : b1 ≠ b2) (hB : Blk W b1 t1 #[u0, u1]) (hX : Blk W b2 t2 #[y0, y1, y2]) (p0 p1 x0 x1 x2 : Value) :
    (W.cell? ⟨b1, 0, none⟩ = some u0 ∧ (W.setCell ⟨b1, 0, none⟩ p0).cell? ⟨b1, 1, none⟩ = some u1 ∧ ((W.setCell ⟨b1, 0, none⟩ p0).setCell ⟨b1, 1, none⟩ p1).cell? ⟨b2, 0, none⟩ = some y0 ∧
      (((W.setCell ⟨b1, 0, none⟩ p0).setCell ⟨b1, 1, none⟩ p1).setCell ⟨b2, 0, none⟩ x0).cell? ⟨b2, 1, none⟩ = some y1 ∧ ((((W.setCell ⟨b1, 0, none⟩ p0).setCell ⟨b1, 1, none⟩ p1).setCell ⟨b2, 0, none⟩ x0).setCell ⟨b2, 1, none⟩ x1).cell? ⟨b2, 2, none⟩ = some y2) ∧
    (W.cell? ⟨b2, 0, none⟩ = some y0 ∧ (W.setCell ⟨b2, 0, none⟩ x0).cell? ⟨b2, 1, none⟩ = some y1 ∧ ((W.setCell ⟨b2, 0, none⟩ x0).setCell ⟨b2, 1, none⟩ x1).cell? ⟨b2, 2, none⟩ = some y2 ∧
      (((W.setCell ⟨b2, 0, none⟩ x0).setCell ⟨b2, 1, none⟩ x1).setCell ⟨b2, 2, none⟩ x2).cell? ⟨b1, 0, none⟩ = some u0 ∧ ((((W.setCell ⟨b2, 0, none⟩ x0).setCell ⟨b2, 1, none⟩ x1).setCell ⟨b2, 2, none⟩ x2).setCell ⟨b1, 0, none⟩ p0).cell? ⟨b1, 1, none⟩ = some u1) ∧
    (W.frozen? ⟨b1, 0, none⟩ = false ∧ W.frozen? ⟨b1, 1, none⟩ = false ∧ W.frozen? ⟨b2, 0, none⟩ = false ∧ W.frozen? ⟨b2, 1, none⟩ = false ∧ W.frozen? ⟨b2, 2, none⟩ = false) ∧
    (Blk (((((W.setCell ⟨b1, 0, none⟩ p0).setCell ⟨b1, 1, none⟩ p1).setCell ⟨b2, 0, none⟩ x0).setCell ⟨b2, 1, none⟩ x1).setCell ⟨b2, 2, none⟩ x2) b1 t1 #[p0, p1] ∧
     Blk (((((W.setCell ⟨b1, 0, none⟩ p0).setCell ⟨b1, 1, none⟩ p1).setCell ⟨b2, 0, none⟩ x0).setCell ⟨b2, 1, none⟩ x1).setCell ⟨b2, 2, none⟩ x2) b2 t2 #[x0, x1, x2]) ∧
    (Blk (((((W.setCell ⟨b2, 0, none⟩ x0).setCell ⟨b2, 1, none⟩ x1).setCell ⟨b2, 2, none⟩ x2).setCell ⟨b1, 0, none⟩ p0).setCell ⟨b1, 1, none⟩ p1) b1 t1 #[p0, p1] ∧
     Blk (((((W.setCell ⟨b2, 0, none⟩ x0).setCell ⟨b2, 1, none⟩ x1).setCell ⟨b2, 2, none⟩ x2).setCell ⟨b1, 0, none⟩ p0).setCell ⟨b1, 1, none⟩ p1) b2 t2 #[x0, x1, x2]) := by
  have h' : b2 ≠ b1 := fun e => h e.symm
  have B1 := hB.set 0 p0
  have B2 := B1.set 1 p1
  have B3 := B2.other (a := ⟨b2, 0, none⟩) h x0
  have B4 := B3.other (a := ⟨b2, 1, none⟩) h x1
  have B5 := B4.other (a := ⟨b2, 2, none⟩) h x2
  have X1 := hX.other (a := ⟨b1, 0, none⟩) h' p0
  have X2 := X1.other (a := ⟨b1, 1, none⟩) h' p1
  have X3 := X2.set 0 x0
  have X4 := X3.set 1 x1
  have X5 := X4.set 2 x2
  have Y1 := hX.set 0 x0
  have Y2 := Y1.set 1 x1
  have Y3 := Y2.set 2 x2
  have Y4 := Y3.other (a := ⟨b1, 0, none⟩) h' p0
  have Y5 := Y4.other (a := ⟨b1, 1, none⟩) h' p1
  have C1 := hB.other (a := ⟨b2, 0, none⟩) h x0
  have C2 := C1.other (a := ⟨b2, 1, none⟩) h x1
  have C3 := C2.other (a := ⟨b2, 2, none⟩) h x2
  have C4 := C3.set 0 p0
  have C5 := C4.set 1 p1
  exact ⟨⟨hB.cell (i := 0) rfl, B1.cell (i := 1) rfl, X2.cell (i := 0) rfl, X3.cell (i := 1) rfl, X4.cell (i := 2) rfl⟩, ⟨hX.cell (i := 0) rfl, Y1.cell (i := 1) rfl, Y2.cell (i := 2) rfl, C3.cell (i := 0) rfl, C4.cell (i := 1) rfl⟩, ⟨hB.frozen 0, hB.frozen 1, hX.frozen 0, hX.frozen 1, hX.frozen 2⟩, ⟨B5, X5⟩, ⟨C5, Y5⟩⟩
theorem two_grew {w W : World} {b1 b2 : Nat} (p0 p1 x0 x1 x2 : Value) (g : Gr w W) (h1 : w.heap.size ≤ b1) (h2 : w.heap.size ≤ b2) :
    Gr w (((((W.setCell ⟨b1, 0, none⟩ p0).setCell ⟨b1, 1, none⟩ p1).setCell ⟨b2, 0, none⟩ x0).setCell ⟨b2, 1, none⟩ x1).setCell ⟨b2, 2, none⟩ x2) ∧ Gr w (((((W.setCell ⟨b2, 0, none⟩ x0).setCell ⟨b2, 1, none⟩ x1).setCell ⟨b2, 2, none⟩ x2).setCell ⟨b1, 0, none⟩ p0).setCell ⟨b1, 1, none⟩ p1) :=
  ⟨((((g.setCell h1 _).setCell h1 _).setCell h2 _).setCell h2 _).setCell h2 _, ((((g.setCell h2 _).setCell h2 _).setCell h2 _).setCell h1 _).setCell h1 _⟩
theorem two_kept {w : World} {S : Nat → Prop} {b1 b2 : Nat} (p0 p1 x0 x1 x2 : Value) (h1 : ¬ S b1) (h2 : ¬ S b2) :
    Kp S w (((((w.setCell ⟨b1, 0, none⟩ p0).setCell ⟨b1, 1, none⟩ p1).setCell ⟨b2, 0, none⟩ x0).setCell ⟨b2, 1, none⟩ x1).setCell ⟨b2, 2, none⟩ x2) ∧ Kp S w (((((w.setCell ⟨b2, 0, none⟩ x0).setCell ⟨b2, 1, none⟩ x1).setCell ⟨b2, 2, none⟩ x2).setCell ⟨b1, 0, none⟩ p0).setCell ⟨b1, 1, none⟩ p1) :=
  ⟨((((set_kp (a := ⟨b1, 0, none⟩) h1 _).trans (set_kp (a := ⟨b1, 1, none⟩) h1 _)).trans (set_kp (a := ⟨b2, 0, none⟩) h2 _)).trans (set_kp (a := ⟨b2, 1, none⟩) h2 _)).trans (set_kp (a := ⟨b2, 2, none⟩) h2 _),
   ((((set_kp (a := ⟨b2, 0, none⟩) h2 _).trans (set_kp (a := ⟨b2, 1, none⟩) h2 _)).trans (set_kp (a := ⟨b2, 2, none⟩) h2 _)).trans (set_kp (a := ⟨b1, 0, none⟩) h1 _)).trans (set_kp (a := ⟨b1, 1, none⟩) h1 _)⟩
/-- what Reduce hands back -/
structure RetRd (w : World) (N : NetD) (i o : Int) (e : Ending) (w' : World) : Prop where
  out : ∃ v' x y z x2, e = .returned (.tuple #[v', .agg #[.int .i64 x, .int .i64 y, .int .i64 z], .int .i64 x2]) ∧ Gr w w' ∧
    ((x2 = 0 ∧ shapeC N i o = 0 ∧ NetR w' v' (reduceF ⟨N, i, o⟩).1.net ∧ x = (reduceF ⟨N, i, o⟩).1.i ∧ y = (reduceF ⟨N, i, o⟩).1.o ∧ z = ((reduceF ⟨N, i, o⟩).2 : Nat)) ∨
     (x2 = shapeC N i o ∧ shapeC N i o ≠ 0 ∧ v' = .agg #[.int .i64 0, .slice none 0 0] ∧ x = 0 ∧ y = 0 ∧ z = 0))
set_option maxHeartbeats 1600000 in
set_option maxRecDepth 100000 in
theorem Reduce_calls (v : Value) (N : NetD) (i o : Int) (w : World) (hN : NetR w v N) (hi : I64 i) (ho : I64 o) :
    Calls Try.prog 9 #[v, .int .i64 i, .int .i64 o] w (RetRd w N i o) := by
  have hN' := hN
  obtain ⟨a, cap, rfl, hnl, hncap, hpl, hT⟩ := hN.open_
  have hpl1 := hpl.1
  have hpl2 := hpl.2
  obtain ⟨wb, hwb⟩ : ∃ wb, wb = ((w.alloc (.cells #[.int .i64 N.places, .slice a N.trans.length cap] 28)).alloc (.cells #[.int .i64 0, .slice none 0 0] 28)).alloc (.cells #[.int .i64 0, .int .i64 0, .int .i64 0] 33) := ⟨_, rfl⟩
  have G0 : Gr w wb := by rw [hwb]; exact (((Gr.refl _).alloc _).alloc _).alloc _
  have bN : Blk wb w.heap.size 28 #[.int .i64 N.places, .slice a N.trans.length cap] := by rw [hwb]; exact (Blk.new rfl).gr (((Gr.refl _).alloc _).alloc _)
  have bS : Blk wb (w.heap.size + 1) 28 #[.int .i64 0, .slice none 0 0] := by rw [hwb]; exact (Blk.new (by simp)).gr ((Gr.refl _).alloc _)
  have bX : Blk wb (w.heap.size + 1 + 1) 33 #[.int .i64 0, .int .i64 0, .int .i64 0] := by rw [hwb]; exact (Blk.new (by simp))
  have N0 := bN.cell (i := 0) (v := .int .i64 N.places) rfl
  have N1 := bN.cell (i := 1) (v := .slice a N.trans.length cap) rfl
  have HBS := Lib.hid bS
  have HBX := Lib.hid bX
  clear bN bS bX
  go_enter Try.func9, Try.ntmps9
  go_wp2_with fail
  rw [← hwb]
  refine (ShapeWrong_calls _ N i o _ (hN'.gr G0) hi ho).mono ?_
  rintro _ w1 ⟨rfl, g1⟩
  by_cases hw : shapeC N i o = 0
  case neg =>
    have q1 : (shapeC N i o != 0) = true := by simpa using hw
    have b1 := HBS.out.gr g1
    have b2 := HBX.out.gr g1
    obtain ⟨⟨A1, A2, A3, A4, A5⟩, ⟨D1, D2, D3, D4, D5⟩, ⟨F1, F2, F3, F4, F5⟩, hA, hD⟩ := two_cells (Nat.ne_of_lt (Nat.lt_succ_self _)) b1 b2 (.int .i64 0) (.slice none 0 0) (.int .i64 0) (.int .i64 0) (.int .i64 0)
    have HA := Lib.hid (And.intro hA hD)
    have HGR := Lib.hid (two_grew (.int .i64 0) (.slice none 0 0) (.int .i64 0) (.int .i64 0) (.int .i64 0) (G0.trans g1) (Nat.le_succ _) (Nat.le_trans (Nat.le_succ _) (Nat.le_succ _)))
    clear hA hD b1 b2
    go_wp2_with fail
    all_goals clear A1 A2 A3 A4 A5 D1 D2 D3 D4 D5 F1 F2 F3 F4 F5
    all_goals (first
      | (have B := HA.out.1.1
         have X := HA.out.1.2
         have B0 := B.cell (i := 0) (v := .int .i64 0) rfl
         have B1 := B.cell (i := 1) (v := .slice none 0 0) rfl
         have X0 := X.cell (i := 0) (v := .int .i64 0) rfl
         have X1 := X.cell (i := 1) (v := .int .i64 0) rfl
         have X2 := X.cell (i := 2) (v := .int .i64 0) rfl
         refine bodyPost_ret (v := .tuple #[.agg #[.int .i64 0, .slice none 0 0], .agg #[.int .i64 0, .int .i64 0, .int .i64 0], .int .i64 (shapeC N i o)]) (by simp [results, Try.results9, go_sem, B0, B1, X0, X1, X2]) rfl ?_
         exact ⟨_, 0, 0, 0, _, rfl, HGR.out.1, .inr ⟨rfl, hw, rfl, rfl, rfl, rfl⟩⟩)
      | (have B := HA.out.2.1
         have X := HA.out.2.2
         have B0 := B.cell (i := 0) (v := .int .i64 0) rfl
         have B1 := B.cell (i := 1) (v := .slice none 0 0) rfl
         have X0 := X.cell (i := 0) (v := .int .i64 0) rfl
         have X1 := X.cell (i := 1) (v := .int .i64 0) rfl
         have X2 := X.cell (i := 2) (v := .int .i64 0) rfl
         refine bodyPost_ret (v := .tuple #[.agg #[.int .i64 0, .slice none 0 0], .agg #[.int .i64 0, .int .i64 0, .int .i64 0], .int .i64 (shapeC N i o)]) (by simp [results, Try.results9, go_sem, B0, B1, X0, X1, X2]) rfl ?_
         exact ⟨_, 0, 0, 0, _, rfl, HGR.out.2, .inr ⟨rfl, hw, rfl, rfl, rfl, rfl⟩⟩))
  have q1 : (shapeC N i o != 0) = false := by rw [hw]; rfl
  rw [hw]
  have HW := Lib.hid hw
  have HG := Lib.hid (ok_small hw)
  have hok := (shapeC_zero hw).1
  have HS2 := Lib.hid (netSmall_ok (N := turnN N) (by rw [netOk_turn_eq]; exact hok))
  have hsm := netSmall_ok hok
  replace N0 := cell_gr N0 g1
  replace N1 := cell_gr N1 g1
  clear hw
  go_wp2_with fail
  refine (Turned_calls _ N _ (hN'.gr (G0.trans g1)) hsm).mono ?_
  rintro _ w2 ⟨v2, rfl, hN2, g2⟩
  go_wp2_with fail
  refine (TurnedO_calls _ (turnN N) _ hN2 HS2.out).mono ?_
  rintro _ w3 ⟨v3, rfl, hT3, g3⟩
  rw [turnN_turnN] at hT3
  obtain ⟨a3, c3, rfl, hnl3, hnc3⟩ := hT3.len
  have hpl3 : (turnN N).places = N.places := turnN_places N
  rw [hpl3]
  have HT3 := Lib.hid hT3
  obtain ⟨ws, hws⟩ : ∃ ws, ws = w3.alloc (.cells #[.int .i64 N.places, .slice a3 N.trans.length c3, .int .i64 i, .int .i64 o] 65) := ⟨_, rfl⟩
  have gs : Gr w3 ws := by rw [hws]; exact (Gr.refl _).alloc _
  have bs : Blk ws w3.heap.size 65 #[.int .i64 N.places, .slice a3 N.trans.length c3, .int .i64 i, .int .i64 o] := by rw [hws]; exact Blk.new rfl
  have HSM : Hid (SmW w2 ws w3.heap.size ⟨N, i, o⟩) := Lib.hid ⟨⟨_, bs, (HT3.out.mono fun b hb hs => ⟨(by omega : b ≠ w3.heap.size), hs⟩).gr gs⟩, g3.trans gs, g3.le⟩
  have HG3 := Lib.hid ((G0.trans g1).trans g2)
  have HGB := Lib.hid (g1.trans g2)
  have HSB2 := Lib.hid g3.le
  obtain ⟨s0, hs0⟩ : ∃ s0 : SmD, s0 = ⟨N, i, o⟩ := ⟨_, rfl⟩
  rw [← hs0] at HSM HG
  have hs0h := Lib.hid hs0
  obtain ⟨sb, hsb⟩ : ∃ sb, sb = w3.heap.size := ⟨_, rfl⟩
  rw [← hsb] at HSM
  have HSB := Lib.hid hsb
  have HWS := Lib.hid hws
  clear g1 g2 g3 gs bs hN2 hT3 hnl3 hnc3 hpl3 N0 N1 hs0 hws HT3 hsm
  go_wp2_with fail
  rw [← HSB.out, ← HWS.out]
  clear hsb
  go_loopw [11] (fun q wr => ∃ (s : SmD) (n : Nat), q = .int .i64 n ∧ SmW w2 wr sb s ∧ SmG s ∧ meas s + n ≤ meas s0 ∧ redF (meas s0) s0 0 = redF (meas s0 - n) s n) (fun q _ => meas s0 + 1 - (intOf q).toNat)
  case atStart => exact ⟨s0, 0, rfl, HSM.out, HG.out, by omega, by simp⟩
  case round =>
    rename World => wr
    obtain ⟨s, n, rfl, hS, hsg, hme, hre⟩ := hrel
    have HS := Lib.hid hS
    have HSG := Lib.hid hsg
    have HME := Lib.hid hme
    have HRE := Lib.hid hre
    have hw : ∀ k, k < s.net.trans.length → (∀ q, 0 ≤ nth (ix s.net.trans k).pre q ∧ nth (ix s.net.trans k).pre q ≤ 9) ∧ ∀ q, 0 ≤ nth (ix s.net.trans k).post q ∧ nth (ix s.net.trans k).post q ≤ 9 := fun k hk => hsg.at_ hk
    have HC1 := Lib.hid (trans_calls w2 wr sb s hS hsg.b.tl)
    have HC2 := Lib.hid (fun W (h : SmW w2 W sb s) => places_calls w2 W sb s h hsg.b)
    have HC3 := Lib.hid (fun W (h : SmW w2 W sb s) => series_calls w2 W sb s h hsg.b hw)
    have hnle : (n : Int) ≤ 2000 := by have h1 := HG.out.b.pl; have h2 := HG.out.b.tl; have h3 := hme; unfold meas at h3; omega
    clear hS hsg hme hre hw
    rcases h1 : transF s with _ | s1
    case some =>
      have hst : redStep s = some s1 := by unfold redStep; rw [h1]; rfl
      rw [h1] at HC1
      have HST := Lib.hid hst
      clear h1 hst
      go_wp2_with fail
      refine HC1.out.mono ?_
      rintro _ w5 ⟨rfl, s5⟩
      have HS5 := Lib.hid s5
      clear s5
      go_wp2_with fail
      exact ⟨⟨s1, n + 1, by go_num, HS5.out, HSG.out.step HST.out, by have := (meas_step HST.out).1; have := HME.out; omega, by
        have h1 := (meas_step HST.out).1
        have h2 := HME.out
        rw [HRE.out, show meas s0 - n = (meas s0 - (n + 1)) + 1 by omega, red_some HST.out]⟩, by have h1 := (meas_step HST.out).1; have h2 := HME.out; simp [intOf]; omega⟩
    rw [h1] at HC1
    have HT1 := Lib.hid h1
    clear h1
    rcases h2 : twinF s with _ | s1
    case some =>
      have hst : redStep s = some s1 := by unfold redStep; rw [HT1.out, h2]; rfl
      have HST := Lib.hid hst
      have HT2 := Lib.hid h2
      clear h2 hst
      go_wp2_with fail
      refine HC1.out.mono ?_
      rintro _ w4 ⟨rfl, s4⟩
      have HC4 := Lib.hid (HC2.out w4 s4)
      rw [HT2.out] at HC4
      clear s4
      go_wp2_with fail
      refine HC4.out.mono ?_
      rintro _ w5 ⟨rfl, s5⟩
      have HS5 := Lib.hid s5
      clear s5
      go_wp2_with fail
      exact ⟨⟨s1, n + 1, by go_num, HS5.out, HSG.out.step HST.out, by have := (meas_step HST.out).1; have := HME.out; omega, by
        have h1 := (meas_step HST.out).1
        have h2 := HME.out
        rw [HRE.out, show meas s0 - n = (meas s0 - (n + 1)) + 1 by omega, red_some HST.out]⟩, by have h1 := (meas_step HST.out).1; have h2 := HME.out; simp [intOf]; omega⟩
    have HT2 := Lib.hid h2
    clear h2
    go_wp2_with fail
    refine HC1.out.mono ?_
    rintro _ w4 ⟨rfl, s4⟩
    have HC4 := Lib.hid (HC2.out w4 s4)
    rw [HT2.out] at HC4
    clear s4
    go_wp2_with fail
    refine HC4.out.mono ?_
    rintro _ w5 ⟨rfl, s5⟩
    have HC5 := Lib.hid (HC3.out w5 s5)
    clear s5
    rcases h3 : seriesF s with _ | s1
    case some =>
      have hst : redStep s = some s1 := by unfold redStep; rw [HT1.out, HT2.out, h3]; rfl
      have HST := Lib.hid hst
      rw [h3] at HC5
      clear h3 hst
      go_wp2_with fail
      refine HC5.out.mono ?_
      rintro _ w6 ⟨rfl, s6⟩
      have HS5 := Lib.hid s6
      clear s6
      go_wp2_with fail
      exact ⟨⟨s1, n + 1, by go_num, HS5.out, HSG.out.step HST.out, by have := (meas_step HST.out).1; have := HME.out; omega, by
        have h1 := (meas_step HST.out).1
        have h2 := HME.out
        rw [HRE.out, show meas s0 - n = (meas s0 - (n + 1)) + 1 by omega, red_some HST.out]⟩, by have h1 := (meas_step HST.out).1; have h2 := HME.out; simp [intOf]; omega⟩
    have hst : redStep s = none := by unfold redStep; rw [HT1.out, HT2.out, h3]; rfl
    have hrd : reduceF ⟨N, i, o⟩ = (s, n) := by rw [← hs0h.out]; unfold reduceF; rw [HRE.out, red_none hst]
    have HRD := Lib.hid hrd
    rw [h3] at HC5
    clear h3 hst hrd
    go_wp2_with fail
    refine HC5.out.mono ?_
    rintro _ w6 ⟨rfl, s6⟩
    obtain ⟨tv, hb6, hT6⟩ := s6.ex
    obtain ⟨ta, tc, rfl, ht1, ht2⟩ := hT6.len
    simp only [Option.getD_none] at hb6 hT6 s6 ht1 ⊢
    have S0 := hb6.cell (i := 0) (v := .int .i64 s.net.places) rfl
    have S1 := hb6.cell (i := 1) (v := .slice ta s.net.trans.length tc) rfl
    have S2 := hb6.cell (i := 2) (v := .int .i64 s.i) rfl
    have S3 := hb6.cell (i := 3) (v := .int .i64 s.o) rfl
    have g6 := s6.gr
    have b1 := HBS.out.gr (HGB.out.trans g6)
    have b2 := HBX.out.gr (HGB.out.trans g6)
    have HT6 := Lib.hid hT6
    have HS6 := Lib.hid s6
    have HSZ : Hid (w.heap.size ≤ w.heap.size + 1 ∧ w.heap.size ≤ w.heap.size + 1 + 1 ∧ sb ≠ w.heap.size + 1 ∧ sb ≠ w.heap.size + 1 + 1) := Lib.hid (by
      have h1 := (HBX.out.gr HGB.out).lt
      have h2 := HSB.out
      have h3 := HSB2.out
      omega)
    have hpp := Lib.hid s6
    have bO := (hb6.other (a := ⟨w.heap.size + 1, 0, none⟩) HSZ.out.2.2.1 (.int .i64 s.net.places)).other (a := ⟨w.heap.size + 1, 1, none⟩) HSZ.out.2.2.1 (.slice ta s.net.trans.length tc)
    have O2 := bO.cell (i := 2) (v := .int .i64 s.i) rfl
    have O3 := bO.cell (i := 3) (v := .int .i64 s.o) rfl
    obtain ⟨⟨A1, A2, A3, A4, A5⟩, ⟨D1, D2, D3, D4, D5⟩, ⟨F1, F2, F3, F4, F5⟩, hA, hD⟩ := two_cells (Nat.ne_of_lt (Nat.lt_succ_self _)) b1 b2 (.int .i64 s.net.places) (.slice ta s.net.trans.length tc) (.int .i64 s.i) (.int .i64 s.o) (.int .i64 (n : Int))
    have HA := Lib.hid (And.intro hA hD)
    have HGR := Lib.hid (two_grew (.int .i64 s.net.places) (.slice ta s.net.trans.length tc) (.int .i64 s.i) (.int .i64 s.o) (.int .i64 (n : Int)) (HG3.out.trans g6) HSZ.out.1 HSZ.out.2.1)
    clear hA hD b1 b2 hb6 hT6 s6 g6 bO
    have HPL : Hid (I64 s.net.places) := Lib.hid (by have := HSG.out.b.pl; unfold I64; omega)
    have HK := Lib.hid (two_kept (w := w6) (S := fun b => b ≠ sb ∧ w2.heap.size ≤ b) (.int .i64 s.net.places) (.slice ta s.net.trans.length tc) (.int .i64 s.i) (.int .i64 s.o) (.int .i64 (n : Int)) (b1 := w.heap.size + 1) (b2 := w.heap.size + 1 + 1) (fun hh => by have h1 := (HBX.out.gr HGB.out).lt; have := hh.2; omega) (fun hh => by have h1 := (HBX.out.gr HGB.out).lt; have := hh.2; omega))
    go_wp2_with fail
    go_region
    all_goals (go_wp2_with fail)
    all_goals clear A1 A2 A3 A4 A5 D1 D2 D3 D4 D5 F1 F2 F3 F4 F5
    all_goals (first
      | (have B := (HA.out.1.1).gr ((Gr.refl _).drew)
         have X := (HA.out.1.2).gr ((Gr.refl _).drew)
         have B0 := B.cell (i := 0) (v := .int .i64 s.net.places) rfl
         have B1 := B.cell (i := 1) (v := .slice ta s.net.trans.length tc) rfl
         have X0 := X.cell (i := 0) (v := .int .i64 s.i) rfl
         have X1 := X.cell (i := 1) (v := .int .i64 s.o) rfl
         have X2 := X.cell (i := 2) (v := .int .i64 (n : Int)) rfl
         refine bodyPost_ret (v := .tuple #[.agg #[.int .i64 s.net.places, .slice ta s.net.trans.length tc], .agg #[.int .i64 s.i, .int .i64 s.o, .int .i64 (n : Int)], .int .i64 0]) (by simp [results, Try.results9, go_sem, B0, B1, X0, X1, X2]) rfl ?_
         exact ⟨_, s.i, s.o, n, 0, rfl, (HGR.out.1).drew, .inl ⟨rfl, HW.out, by rw [HRD.out]; exact NetR.mk_ (TrO.tr (HT6.out.kp ((HK.out.1).trans ((Gr.refl _).drew).kp))) HPL.out, by rw [HRD.out], by rw [HRD.out], by rw [HRD.out]⟩⟩)
      | (have B := (HA.out.2.1).gr ((Gr.refl _).drew)
         have X := (HA.out.2.2).gr ((Gr.refl _).drew)
         have B0 := B.cell (i := 0) (v := .int .i64 s.net.places) rfl
         have B1 := B.cell (i := 1) (v := .slice ta s.net.trans.length tc) rfl
         have X0 := X.cell (i := 0) (v := .int .i64 s.i) rfl
         have X1 := X.cell (i := 1) (v := .int .i64 s.o) rfl
         have X2 := X.cell (i := 2) (v := .int .i64 (n : Int)) rfl
         refine bodyPost_ret (v := .tuple #[.agg #[.int .i64 s.net.places, .slice ta s.net.trans.length tc], .agg #[.int .i64 s.i, .int .i64 s.o, .int .i64 (n : Int)], .int .i64 0]) (by simp [results, Try.results9, go_sem, B0, B1, X0, X1, X2]) rfl ?_
         exact ⟨_, s.i, s.o, n, 0, rfl, (HGR.out.2).drew, .inl ⟨rfl, HW.out, by rw [HRD.out]; exact NetR.mk_ (TrO.tr (HT6.out.kp ((HK.out.2).trans ((Gr.refl _).drew).kp))) HPL.out, by rw [HRD.out], by rw [HRD.out], by rw [HRD.out]⟩⟩))
end Go.Proofs.Ytjpapgbdhflgnaa
