/- Contract of desk's change. -/
import Derived.Test.YtidpppfimkhgkaaDesk3
namespace Go.Proofs.Ytidpppfimkhgkaa
open Go.RowKit Go.Tok
set_option linter.unusedVariables false
set_option linter.unusedSimpArgs false
set_option maxHeartbeats 4000000 in
set_option maxRecDepth 100000 in
theorem change_calls (v u : Value) (N : NetD) (roles : List (List Int)) (k : DeskD) (o : OpD) (w : World) (S : Nat → Prop) (hv : DesksR w v N roles) (hk : On S (fun w => DeskR w u k) w) (ho : opI o) (hok : DeskOk N roles k) (hil : k.items.length ≤ 3518437208873) :
    Calls Try.prog 132 #[v, u, opV o] w (RetDK S w (changeK N roles k o)) := by
  have hkn := hk.now
  obtain ⟨a, c, r, d, rfl, htl, htc, hrd, hd, hpl, hN, hT, hR⟩ := hv.open_
  obtain ⟨ma, mc, ba, bc, ia, ic, rfl, _, _, _, _, hil1, hic, hM, hB, hI⟩ := hk.now.open_
  obtain ⟨ho1, ho2, ho3, ho4, ho5⟩ := ho
  have hpl1 := hpl.1
  have hpl2 := hpl.2
  have ho31 := ho3.1
  have ho32 := ho3.2
  unfold opV
  have b0 : Blk ((((w.alloc (.cells #[.int .i64 N.places, .slice a N.trans.length c, .slice r roles.length d] 168)).alloc (.cells #[.slice ma k.case.mark.length mc, .slice ba k.case.busy.length bc, .slice ia k.items.length ic] 66)).alloc (.cells #[.int .i64 o.kind, .int .i64 o.user, .int .i64 o.tran, .int .i64 o.item, .int .i64 o.to] 59)).alloc (.cells #[.slice none 0 0, .slice none 0 0, .slice none 0 0] 66)) w.heap.size 168 #[.int .i64 N.places, .slice a N.trans.length c, .slice r roles.length d] := (((Blk.new rfl).gr ((Gr.refl _).alloc _)).gr ((Gr.refl _).alloc _)).gr ((Gr.refl _).alloc _)
  have b1 : Blk ((((w.alloc (.cells #[.int .i64 N.places, .slice a N.trans.length c, .slice r roles.length d] 168)).alloc (.cells #[.slice ma k.case.mark.length mc, .slice ba k.case.busy.length bc, .slice ia k.items.length ic] 66)).alloc (.cells #[.int .i64 o.kind, .int .i64 o.user, .int .i64 o.tran, .int .i64 o.item, .int .i64 o.to] 59)).alloc (.cells #[.slice none 0 0, .slice none 0 0, .slice none 0 0] 66)) (w.heap.size + 1) 66 #[.slice ma k.case.mark.length mc, .slice ba k.case.busy.length bc, .slice ia k.items.length ic] := ((Blk.new (by simp)).gr ((Gr.refl _).alloc _)).gr ((Gr.refl _).alloc _)
  have b2 : Blk ((((w.alloc (.cells #[.int .i64 N.places, .slice a N.trans.length c, .slice r roles.length d] 168)).alloc (.cells #[.slice ma k.case.mark.length mc, .slice ba k.case.busy.length bc, .slice ia k.items.length ic] 66)).alloc (.cells #[.int .i64 o.kind, .int .i64 o.user, .int .i64 o.tran, .int .i64 o.item, .int .i64 o.to] 59)).alloc (.cells #[.slice none 0 0, .slice none 0 0, .slice none 0 0] 66)) (w.heap.size + 1 + 1) 59 #[.int .i64 o.kind, .int .i64 o.user, .int .i64 o.tran, .int .i64 o.item, .int .i64 o.to] := (Blk.new (by simp)).gr ((Gr.refl _).alloc _)
  have b3 : Blk ((((w.alloc (.cells #[.int .i64 N.places, .slice a N.trans.length c, .slice r roles.length d] 168)).alloc (.cells #[.slice ma k.case.mark.length mc, .slice ba k.case.busy.length bc, .slice ia k.items.length ic] 66)).alloc (.cells #[.int .i64 o.kind, .int .i64 o.user, .int .i64 o.tran, .int .i64 o.item, .int .i64 o.to] 59)).alloc (.cells #[.slice none 0 0, .slice none 0 0, .slice none 0 0] 66)) (w.heap.size + 1 + 1 + 1) 66 #[.slice none 0 0, .slice none 0 0, .slice none 0 0] := Blk.new (by simp)
  have GA : Gr w ((((w.alloc (.cells #[.int .i64 N.places, .slice a N.trans.length c, .slice r roles.length d] 168)).alloc (.cells #[.slice ma k.case.mark.length mc, .slice ba k.case.busy.length bc, .slice ia k.items.length ic] 66)).alloc (.cells #[.int .i64 o.kind, .int .i64 o.user, .int .i64 o.tran, .int .i64 o.item, .int .i64 o.to] 59)).alloc (.cells #[.slice none 0 0, .slice none 0 0, .slice none 0 0] 66)) := ((((Gr.refl _).alloc _).alloc _).alloc _).alloc _
  have ho51 := ho5.1
  have ho52 := ho5.2
  have A0 := b0.cell (i := 0) rfl
  have A1 := b0.cell (i := 1) rfl
  have A2 := b0.cell (i := 2) rfl
  have K0 := b1.cell (i := 0) rfl
  have K1 := b1.cell (i := 1) rfl
  have K2 := b1.cell (i := 2) rfl
  have P0 := b2.cell (i := 0) rfl
  have P1 := b2.cell (i := 1) rfl
  have P2 := b2.cell (i := 2) rfl
  have P3 := b2.cell (i := 3) rfl
  have P4 := b2.cell (i := 4) rfl
  go_enter Try.func132, Try.ntmps132
  go_wp2_with fail
  refine (item_calls _ k o _ (hkn.gr GA) ho4).mono ?_
  rcases item_cases k o with ⟨e, h1, he, hIe⟩ | ⟨i, hi, hl, hop, hus, h1⟩
  · have q1 : (e != 0) = true := by simpa using he
    have HC := Lib.hid (changeK_bad (N := N) (roles := roles) h1 he)
    rw [h1]; rintro _ w4 ⟨rfl, g4⟩
    clear h1 he A0 A1 A2 K0 K1 K2 P0 P1 P2 P3 P4
    replace b1 := b1.gr g4
    replace b3 := b3.gr g4
    replace GA := GA.trans g4
    clear g4
    unfold itemV zeroI
    have GX : Gr w4 (w4.alloc (.cells #[.int .i64 0, .int .i64 0, .bool false] 156)) := (Gr.refl _).alloc _
    replace b1 := b1.gr GX
    replace b3 := b3.gr GX
    have K0 := b1.cell (i := 0) rfl
    have K1 := b1.cell (i := 1) rfl
    have K2 := b1.cell (i := 2) rfl
    have D0 := b3.cell (i := 0) rfl
    have F0 := b3.frozen 0
    have bq1 := b3.set 0 (.slice ma k.case.mark.length mc)
    have D1 := bq1.cell (i := 1) rfl
    have F1 := bq1.frozen 1
    have bq2 := bq1.set 1 (.slice ba k.case.busy.length bc)
    have D2 := bq2.cell (i := 2) rfl
    have F2 := bq2.frozen 2
    have bq3 := bq2.set 2 (.slice ia k.items.length ic)
    have E0 := bq3.cell (i := 0) rfl
    have E1 := bq3.cell (i := 1) rfl
    have E2 := bq3.cell (i := 2) rfl
    go_wp2_with fail
    refine bodyPost_ret (v := .tuple #[.agg #[.slice ma k.case.mark.length mc, .slice ba k.case.busy.length bc, .slice ia k.items.length ic], .int .i64 0, .int .i64 e]) (by simp [results, Try.results132, go_sem, E0, E1, E2]) rfl ?_
    refine RetDK.old HC.out hk ?_
    (repeat (first | exact Gr.refl _ | assumption | apply Gr.drewN | apply Gr.drew | apply Gr.alloc | (refine Gr.setCell ?_ (by simp; try omega) _) | refine Gr.trans ?_ (by assumption)))
  · obtain ⟨j, hj, hjl, hmj⟩ := hok.tran _ (ix_mem hl)
    rcases hxx : ix k.items i with ⟨xu, xt, xo⟩
    rw [hxx] at hop hus hj h1
    simp only at hop hus hj
    have hxuI : I64 xu := by
      obtain ⟨_, _, _, _, _, _, h⟩ := hI.item hl
      rw [hxx] at h; exact h.1
    subst hop hj
    clear hmj hxx hus
    have hjl' : (j : Int) < (N.trans.length : Int) := by omega
    have hj0 : (0 : Int) ≤ (j : Int) := by omega
    have hl' : (i : Int) < (k.items.length : Int) := by omega
    have hi0 : (0 : Int) ≤ (i : Int) := by omega
    have hcm : On (SOr S w.heap.size) (fun w => Ints w (.slice ma k.case.mark.length mc) k.case.mark) w := (on_mark hk).mono fun _ _ h => .inl h
    have hcb : On (SOr S w.heap.size) (fun w => Ints w (.slice ba k.case.busy.length bc) k.case.busy) w := (on_busy hk).mono fun _ _ h => .inl h
    have hjI : I64 (j : Int) := ⟨by omega, by omega⟩
    rw [hi] at b0 b1 b2 b3 GA ⊢
    rw [h1]; rintro _ w4 ⟨rfl, g4⟩
    clear A0 A1 A2 K0 K1 K2 P0 P1 P2 P3 P4
    have hbig := b3.lt
    replace b0 := b0.gr g4
    replace b1 := b1.gr g4
    replace b2 := b2.gr g4
    replace b3 := b3.gr g4
    replace GA := GA.trans g4
    have hbig : w.heap.size + 1 + 1 + 1 < w4.heap.size := b3.lt
    clear g4
    have HB := Lib.hid hbig
    unfold itemV
    have bI : Blk (w4.alloc (.cells #[.int .i64 xu, .int .i64 (j : Int), .bool true] 156)) w4.heap.size 156 #[.int .i64 xu, .int .i64 (j : Int), .bool true] := Blk.new rfl
    have GX : Gr w4 (w4.alloc (.cells #[.int .i64 xu, .int .i64 (j : Int), .bool true] 156)) := (Gr.refl _).alloc _
    obtain ⟨tb, to, vp, vq, rfl, t0, _, _, hlb, _, _⟩ := hT.at_ hjl
    by_cases hk4 : o.kind = 4
    · replace b0 := b0.gr GX
      replace b1 := b1.gr GX
      replace b2 := b2.gr GX
      replace b3 := b3.gr GX
      replace GA := GA.trans GX
      clear GX hbig
      have K4 := b2.cell (i := 0) rfl
      rw [hk4] at K4
      go_wp2_with fail
      clear K4
      generalize (w4.alloc (.cells #[.int .i64 xu, .int .i64 (j : Int), .bool true] 156)) = wA at b0 b1 b2 b3 bI GA ⊢
      have A0 := b0.cell (i := 0) rfl
      have A1 := b0.cell (i := 1) rfl
      have A2 := b0.cell (i := 2) rfl
      have P4 := b2.cell (i := 4) rfl
      have I1 := bI.cell (i := 1) rfl
      have T0 := cell_gr t0 GA
      go_region_held3 (fun w' => w'.cell? ⟨w.heap.size, 0, none⟩ = some (.int .i64 N.places) ∧ w'.cell? ⟨w.heap.size, 1, none⟩ = some (.slice (some ⟨tb, to, none⟩) N.trans.length c) ∧ w'.cell? ⟨w.heap.size, 2, none⟩ = some (.slice r roles.length d) ∧ w'.cell? ⟨w.heap.size + 1 + 1, 4, none⟩ = some (.int .i64 o.to) ∧ w'.cell? ⟨w4.heap.size, 1, none⟩ = some (.int .i64 (j : Int)) ∧ w'.cell? ⟨tb, to + j * 3, none⟩ = some (.int .i64 (N.tr j).label)) (first | go_keep | ((refine ⟨cell_gr A0 ?_, cell_gr A1 ?_, cell_gr A2 ?_, cell_gr P4 ?_, cell_gr I1 ?_, cell_gr T0 ?_⟩); (all_goals (focus ((repeat (first | exact Gr.refl _ | assumption | apply Gr.alloc | apply Gr.drew | apply Gr.drewN | refine Gr.trans ?_ (by assumption))); done))))) (first | (go_at_call 161; (with_reducible refine (may_calls _ N roles o.to (N.tr j).label _ (hv.gr ?_) ho5).mono ?_); ((focus (exact GA.trans (by (repeat (first | exact Gr.refl _ | assumption | apply Gr.alloc | apply Gr.drew | apply Gr.drewN | refine Gr.trans ?_ (by assumption)))); done))); rintro _ w5 ⟨rfl, g5⟩))
      have G5 : Gr wA w5 := by (repeat (first | exact Gr.refl _ | assumption | apply Gr.alloc | apply Gr.drew | apply Gr.drewN | refine Gr.trans ?_ (by assumption)))
      clear g5 A0 A1 A2 P4 I1 T0
      replace b1 := b1.gr G5
      replace b2 := b2.gr G5
      replace b3 := b3.gr G5
      replace bI := bI.gr G5
      replace GA := GA.trans G5
      clear b0 G5
      have P4 := b2.cell (i := 4) rfl
      have I0 := bI.cell (i := 0) rfl
      have IF := bI.frozen 0
      have K0 := b1.cell (i := 0) rfl
      have K1 := b1.cell (i := 1) rfl
      have K2 := b1.cell (i := 2) rfl
      cases hm : mayF roles o.to (N.tr j).label
      · have HC := Lib.hid (changeK_role h1 hk4 rfl hm)
        clear hm h1 hk4
        have D0 := b3.cell (i := 0) rfl
        have F0 := b3.frozen 0
        have bq1 := b3.set 0 (.slice ma k.case.mark.length mc)
        have D1 := bq1.cell (i := 1) rfl
        have F1 := bq1.frozen 1
        have bq2 := bq1.set 1 (.slice ba k.case.busy.length bc)
        have D2 := bq2.cell (i := 2) rfl
        have F2 := bq2.frozen 2
        have bq3 := bq2.set 2 (.slice ia k.items.length ic)
        have E0 := bq3.cell (i := 0) rfl
        have E1 := bq3.cell (i := 1) rfl
        have E2 := bq3.cell (i := 2) rfl
        go_wp2_with fail
        refine bodyPost_ret (v := .tuple #[.agg #[.slice ma k.case.mark.length mc, .slice ba k.case.busy.length bc, .slice ia k.items.length ic], .int .i64 0, .int .i64 6]) (by simp [results, Try.results132, go_sem, E0, E1, E2]) rfl ?_
        refine RetDK.old HC.out hk ?_
        (repeat (first | exact Gr.refl _ | assumption | apply Gr.drewN | apply Gr.drew | apply Gr.alloc | (refine Gr.setCell ?_ (by simp; try omega) _) | refine Gr.trans ?_ (by assumption)))
      · have HC := Lib.hid (changeK_give h1 hk4 hi rfl hm)
        clear hm h1 hk4
        have hbig := HB.out
        have bI' := bI.set 0 (.int .i64 o.to)
        have bK := b1.other (a := ⟨w4.heap.size, 0, none⟩) (by simp; omega) (.int .i64 o.to)
        have bP := b2.other (a := ⟨w4.heap.size, 0, none⟩) (by simp; omega) (.int .i64 o.to)
        replace b3 := b3.other (a := ⟨w4.heap.size, 0, none⟩) (by simp; omega) (.int .i64 o.to)
        have hw4 := Gr.le GA
        obtain ⟨T, hT⟩ : ∃ T : Nat → Prop, T = fun b => S b ∧ b < w.heap.size := ⟨_, rfl⟩
        have hTn : ∀ b, T b → b ≠ w.heap.size + 1 ∧ b ≠ w.heap.size + 1 + 1 + 1 ∧ b < (w5.setCell ⟨w4.heap.size, 0, none⟩ (.int .i64 o.to)).heap.size := fun b hb => by rw [hT] at hb; have := hb.2; refine ⟨?_, ?_, ?_⟩ <;> (try simp) <;> omega
        have hTS : ∀ b, T b → SOr S w.heap.size b := fun b hb => by rw [hT] at hb; exact .inl hb.1
        replace GA := GA.setCell (p := ⟨w4.heap.size, 0, none⟩) (by simp; omega) (.int .i64 o.to)
        have hCm : On T (fun w => Ints w (.slice ma k.case.mark.length mc) k.case.mark) (w5.setCell ⟨w4.heap.size, 0, none⟩ (.int .i64 o.to)) := ((on_mark hk).mono fun b hb hs => by rw [hT]; exact ⟨hs, hb⟩).gr GA
        have hCb : On T (fun w => Ints w (.slice ba k.case.busy.length bc) k.case.busy) (w5.setCell ⟨w4.heap.size, 0, none⟩ (.int .i64 o.to)) := ((on_busy hk).mono fun b hb hs => by rw [hT]; exact ⟨hs, hb⟩).gr GA
        clear hT
        replace bI := bI'
        clear b1 b2 K0 K1 K2
        have K2T := bK.cell (i := 2) rfl
        have HH := Lib.hid bI.lt
        have hTg : w.heap.size + 1 + 1 + 1 < w4.heap.size := HB.out
        go_wp2_with fail
        refine (CloneItem_calls _ k.items _ (hI.gr GA) (by omega)).mono ?_
        rintro _ w8 ⟨v8, rfl, o8, g8⟩
        clear K2T
        rcases o8.form with ⟨_, h0⟩ | ⟨g, cp, rfl, hg1, hg2, _, _⟩
        · rw [h0] at hl; simp at hl
        · replace bK := bK.gr g8
          replace bP := bP.gr g8
          replace bI := bI.gr g8
          replace b3 := b3.gr g8
          replace hCm := hCm.gr g8
          replace hCb := hCb.gr g8
          replace GA := GA.trans g8
          have hg4 : w4.heap.size < g := by have := HH.out; omega
          have hTgn : ¬ T g := fun h => by have := (hTn g h).2.2; omega
          have hT1 : ¬ T (w.heap.size + 1) := fun h => (hTn _ h).1 rfl
          have hT3 : ¬ T (w.heap.size + 1 + 1 + 1) := fun h => (hTn _ h).2.1 rfl
          clear g8
          have W2 := bK.cell (i := 2) rfl
          have WF := bK.frozen 2
          have bK9 := bK.set 2 (.slice (some ⟨g, 0, none⟩) k.items.length cp)
          have bP9 := bP.other (a := ⟨w.heap.size + 1, 2, none⟩) (by simp; try omega) (.slice (some ⟨g, 0, none⟩) k.items.length cp)
          have bI9 := bI.other (a := ⟨w.heap.size + 1, 2, none⟩) (by simp; omega) (.slice (some ⟨g, 0, none⟩) k.items.length cp)
          have b39 := b3.other (a := ⟨w.heap.size + 1, 2, none⟩) (by simp; try omega) (.slice (some ⟨g, 0, none⟩) k.items.length cp)
          have o9 := o8.other (a := ⟨w.heap.size + 1, 2, none⟩) (by simp [Value.ownBlock]; omega) (fun h => h) (.slice (some ⟨g, 0, none⟩) k.items.length cp)
          have hCm9 := hCm.kp (set_kp (a := ⟨w.heap.size + 1, 2, none⟩) hT1 (.slice (some ⟨g, 0, none⟩) k.items.length cp))
          have hCb9 := hCb.kp (set_kp (a := ⟨w.heap.size + 1, 2, none⟩) hT1 (.slice (some ⟨g, 0, none⟩) k.items.length cp))
          have GA9 := GA.setCell (p := ⟨w.heap.size + 1, 2, none⟩) (by simp; try omega) (.slice (some ⟨g, 0, none⟩) k.items.length cp)
          obtain ⟨gb, go, hgo, x0, x1, x2, _⟩ := o9.rd.item hl
          cases hgo
          rw [Nat.zero_add] at x0 x1 x2
          have f0 := o9.frozen (i * 3)
          have KK := bK9.cell (i := 2) rfl
          have PP := bP9.cell (i := 3) rfl
          have Q0 := bI9.cell (i := 0) rfl
          have Q1 := bI9.cell (i := 1) rfl
          have Q2 := bI9.cell (i := 2) rfl
          have o10 := o9.set3 rfl i (x := ⟨o.to, (j : Int), true⟩) (On.true (p := ([.int .i64 o.to, .int .i64 (j : Int), .bool true] : List Value) = itemCells ⟨o.to, (j : Int), true⟩ ∧ itemI ⟨o.to, (j : Int), true⟩) ⟨rfl, ho5, hjI⟩)
          have f1 := o9.frozen (i * 3 + 1)
          have f2 := o9.frozen (i * 3 + 2)
          have y1 := (World.cell?_setCell_other (w := w8.setCell ⟨w.heap.size + 1, 2, none⟩ (.slice (some ⟨g, 0, none⟩) k.items.length cp)) (a := ⟨g, i * 3, none⟩) (b := ⟨g, i * 3 + 1, none⟩) (v := .int .i64 (o.to)) (by simp)).trans x1
          have y2 := (World.cell?_setCell_other (w := (w8.setCell ⟨w.heap.size + 1, 2, none⟩ (.slice (some ⟨g, 0, none⟩) k.items.length cp)).setCell ⟨g, i * 3, none⟩ (.int .i64 (o.to))) (a := ⟨g, i * 3 + 1, none⟩) (b := ⟨g, i * 3 + 2, none⟩) (v := .int .i64 (j : Int)) (by simp)).trans ((World.cell?_setCell_other (w := w8.setCell ⟨w.heap.size + 1, 2, none⟩ (.slice (some ⟨g, 0, none⟩) k.items.length cp)) (a := ⟨g, i * 3, none⟩) (b := ⟨g, i * 3 + 2, none⟩) (v := .int .i64 (o.to)) (by simp)).trans x2)
          have hgH1 : w.heap.size + 1 ≠ g := by omega
          have hgH2 : w.heap.size + 1 + 1 ≠ g := by omega
          have hgH3 : w.heap.size + 1 + 1 + 1 ≠ g := by omega
          have bK10 := ((bK9.other (a := ⟨g, i * 3, none⟩) hgH1 (.int .i64 (o.to))).other (a := ⟨g, i * 3 + 1, none⟩) hgH1 (.int .i64 (j : Int))).other (a := ⟨g, i * 3 + 2, none⟩) hgH1 (.bool true)
          have bP10 := ((bP9.other (a := ⟨g, i * 3, none⟩) hgH2 (.int .i64 (o.to))).other (a := ⟨g, i * 3 + 1, none⟩) hgH2 (.int .i64 (j : Int))).other (a := ⟨g, i * 3 + 2, none⟩) hgH2 (.bool true)
          have b310 := ((b39.other (a := ⟨g, i * 3, none⟩) hgH3 (.int .i64 (o.to))).other (a := ⟨g, i * 3 + 1, none⟩) hgH3 (.int .i64 (j : Int))).other (a := ⟨g, i * 3 + 2, none⟩) hgH3 (.bool true)
          have hCm10 := ((hCm9.kp (set_kp (a := ⟨g, i * 3, none⟩) hTgn (.int .i64 (o.to)))).kp (set_kp (a := ⟨g, i * 3 + 1, none⟩) hTgn (.int .i64 (j : Int)))).kp (set_kp (a := ⟨g, i * 3 + 2, none⟩) hTgn (.bool true))
          have hCb10 := ((hCb9.kp (set_kp (a := ⟨g, i * 3, none⟩) hTgn (.int .i64 (o.to)))).kp (set_kp (a := ⟨g, i * 3 + 1, none⟩) hTgn (.int .i64 (j : Int)))).kp (set_kp (a := ⟨g, i * 3 + 2, none⟩) hTgn (.bool true))
          have GA10 := ((GA9.setCell (p := ⟨g, i * 3, none⟩) (by simp; try omega) (.int .i64 (o.to))).setCell (p := ⟨g, i * 3 + 1, none⟩) (by simp; try omega) (.int .i64 (j : Int))).setCell (p := ⟨g, i * 3 + 2, none⟩) (by simp; try omega) (.bool true)
          go_wp2_with fail
          clear x0 x1 x2 y1 y2 KK PP Q0 Q1 Q2 f0 f1 f2 W2 WF hCm9 hCb9 GA9 bK9 bP9 bI9 b39 o9 o8 hCm hCb bK bP bI b3 GA
          generalize (((w8.setCell ⟨w.heap.size + 1, 2, none⟩ (.slice (some ⟨g, 0, none⟩) k.items.length cp)).setCell ⟨g, i * 3, none⟩ (.int .i64 (o.to))).setCell ⟨g, i * 3 + 1, none⟩ (.int .i64 (j : Int))).setCell ⟨g, i * 3 + 2, none⟩ (.bool true) = w10 at bK10 bP10 b310 hCm10 hCb10 GA10 o10 ⊢
          have Z0 := bK10.cell (i := 0) rfl
          have Z1 := bK10.cell (i := 1) rfl
          have Z2 := bK10.cell (i := 2) rfl
          have Z3 := bP10.cell (i := 3) rfl
          have D0 := b310.cell (i := 0) rfl
          have F0 := b310.frozen 0
          have bq1 := b310.set 0 (.slice ma k.case.mark.length mc)
          have D1 := bq1.cell (i := 1) rfl
          have F1 := bq1.frozen 1
          have bq2 := bq1.set 1 (.slice ba k.case.busy.length bc)
          have D2 := bq2.cell (i := 2) rfl
          have F2 := bq2.frozen 2
          have bq3 := bq2.set 2 (.slice (some ⟨g, 0, none⟩) k.items.length cp)
          have E0 := bq3.cell (i := 0) rfl
          have E1 := bq3.cell (i := 1) rfl
          have E2 := bq3.cell (i := 2) rfl
          go_region
          go_wp2_with fail
          refine bodyPost_ret (v := .tuple #[.agg #[.slice ma k.case.mark.length mc, .slice ba k.case.busy.length bc, .slice (some ⟨g, 0, none⟩) k.items.length cp], .int .i64 i, .int .i64 0]) (by simp [results, Try.results132, go_sem, E0, E1, E2]) rfl ?_
          have o11 : On (fun b => b = g) (fun w => Rd itemK w (.slice (some ⟨g, 0, none⟩) k.items.length cp) (k.items.set i ⟨o.to, (j : Int), true⟩)) w10 := o10.on (fun _ _ h => h.elim) (fun b hb => own_eq hb)
          have hgS : ∀ b, b = g → SOr S w.heap.size b := fun b hb => .inr (by omega)
          refine RetDK.mk HC.out (on_desk (k := ⟨k.case, k.items.set i ⟨o.to, (j : Int), true⟩⟩) (((hCm10.set3 hT3 _ _ _).gr (Gr.refl _).drew).mono (fun b _ h => hTS b h)) (((hCb10.set3 hT3 _ _ _).gr (Gr.refl _).drew).mono (fun b _ h => hTS b h)) (((o11.set3 (fun h => hgH3 h) _ _ _).gr (Gr.refl _).drew).mono (fun b _ h => hgS b h))) ?_
          (repeat (first | exact Gr.refl _ | assumption | apply Gr.drewN | apply Gr.drew | apply Gr.alloc | (refine Gr.setCell ?_ (by simp; try omega) _) | refine Gr.trans ?_ (by assumption)))
    · by_cases hk3 : o.kind = 3
      · rw [hk3] at b2
        rcases hd2 : doF N k.case 4 (j : Int) with ⟨c2, e⟩
        have HD := Lib.hid hd2
        replace b0 := b0.gr GX
        replace b1 := b1.gr GX
        replace b2 := b2.gr GX
        replace b3 := b3.gr GX
        replace GA := GA.trans GX
        clear GX hbig
        have A0 := b0.cell (i := 0) rfl
        have A1 := b0.cell (i := 1) rfl
        have K0 := b1.cell (i := 0) rfl
        have K1 := b1.cell (i := 1) rfl
        have P0 := b2.cell (i := 0) rfl
        have I1 := bI.cell (i := 1) rfl
        go_wp2_with fail
        clear A0 A1 K0 K1 P0 I1
        generalize (w4.alloc (.cells #[.int .i64 xu, .int .i64 (j : Int), .bool true] 156)) = wA at b0 b1 b2 b3 bI GA ⊢
        by_cases he : e = 0
        · subst he
          have HC := Lib.hid (changeK_done (roles := roles) h1 hk4 hi (by rw [hk3, endOf_undo]; exact hd2))
          clear h1 hd2
          refine (Do_calls _ _ N k.case 4 (j : Int) _ (hN.gr GA) (CaseR.mk_ (hM.gr GA) (hB.gr GA)) (by decide) hjI).mono ?_
          rw [HD.out]; rintro _ w5 ⟨v5, rfl, ⟨pm, pb, rfl, i6, i7⟩, g5⟩
          obtain ⟨pa, pn, rfl, _, _⟩ := i6.ints.len
          obtain ⟨qa, qn, rfl, _, _⟩ := i7.ints.len
          have hAl := Lib.hid bI.lt
          have GY : Gr wA (w5.alloc (.cells #[.slice pa c2.mark.length pn, .slice qa c2.busy.length qn] 63)) := g5.alloc _
          replace b1 := b1.gr GY
          replace b2 := b2.gr GY
          replace b3 := b3.gr GY
          replace bI := bI.gr GY
          replace GA := GA.trans GY
          clear b0 GY
          have X0 : (w5.alloc (.cells #[.slice pa c2.mark.length pn, .slice qa c2.busy.length qn] 63)).cell? ⟨w5.heap.size, 0, none⟩ = some (.slice pa c2.mark.length pn) := box_cell (Gr.refl _) (i := 0) rfl
          have X1 : (w5.alloc (.cells #[.slice pa c2.mark.length pn, .slice qa c2.busy.length qn] 63)).cell? ⟨w5.heap.size, 1, none⟩ = some (.slice qa c2.busy.length qn) := box_cell (Gr.refl _) (i := 1) rfl
          have K0 := b1.cell (i := 0) rfl
          have KF := b1.frozen 0
          have bK1 := b1.set 0 (.slice pa c2.mark.length pn)
          have K1 := bK1.cell (i := 1) rfl
          have KF1 := bK1.frozen 1
          have bK2 := bK1.set 1 (.slice qa c2.busy.length qn)
          have hA := hAl.out
          have hw4 : w.heap.size + 1 < w4.heap.size := by have := HB.out; omega
          have h5 := g5.le
          have bI2 := (bI.other (a := ⟨w.heap.size + 1, 0, none⟩) (by simp; omega) (.slice pa c2.mark.length pn)).other (a := ⟨w.heap.size + 1, 1, none⟩) (by simp; omega) (.slice qa c2.busy.length qn)
          have I2 := bI2.cell (i := 2) rfl
          have IF := bI2.frozen 2
          have bI3 := bI2.set 2 (.bool false)
          have bK := bK2.other (a := ⟨w4.heap.size, 2, none⟩) (by simp; omega) (.bool false)
          have bP := ((b2.other (a := ⟨w.heap.size + 1, 0, none⟩) (by simp; try omega) (.slice pa c2.mark.length pn)).other (a := ⟨w.heap.size + 1, 1, none⟩) (by simp; try omega) (.slice qa c2.busy.length qn)).other (a := ⟨w4.heap.size, 2, none⟩) (by have := HB.out; simp; omega) (.bool false)
          replace b3 := ((b3.other (a := ⟨w.heap.size + 1, 0, none⟩) (by simp; try omega) (.slice pa c2.mark.length pn)).other (a := ⟨w.heap.size + 1, 1, none⟩) (by simp; try omega) (.slice qa c2.busy.length qn)).other (a := ⟨w4.heap.size, 2, none⟩) (by have := HB.out; simp; omega) (.bool false)
          replace bI := bI3
          replace GA := ((GA.setCell (p := ⟨w.heap.size + 1, 0, none⟩) (by simp; try omega) (.slice pa c2.mark.length pn)).setCell (p := ⟨w.heap.size + 1, 1, none⟩) (by simp; try omega) (.slice qa c2.busy.length qn)).setCell (p := ⟨w4.heap.size, 2, none⟩) (by simp; omega) (.bool false)
          obtain ⟨T, hT⟩ : ∃ T : Nat → Prop, T = fun b => wA.heap.size ≤ b ∧ b < w5.heap.size := ⟨_, rfl⟩
          have hTn : ∀ b, T b → b ≠ w.heap.size + 1 ∧ b ≠ w.heap.size + 1 + 1 + 1 ∧ b < ((((w5.alloc (.cells #[.slice pa c2.mark.length pn, .slice qa c2.busy.length qn] 63)).setCell ⟨w.heap.size + 1, 0, none⟩ (.slice pa c2.mark.length pn)).setCell ⟨w.heap.size + 1, 1, none⟩ (.slice qa c2.busy.length qn)).setCell ⟨w4.heap.size, 2, none⟩ (.bool false)).heap.size := fun b hb => by
            rw [hT] at hb
            have h1 := hb.1
            have h2 := hb.2
            have := HB.out
            refine ⟨?_, ?_, ?_⟩ <;> (try simp) <;> omega
          have hTS : ∀ b, T b → SOr S w.heap.size b := fun b hb => by rw [hT] at hb; have := hb.1; exact .inr (by omega)
          have hT4 : ¬ T w4.heap.size := fun h => by rw [hT] at h; have := h.1; omega
          have hT1 : ¬ T (w.heap.size + 1) := fun h => (hTn _ h).1 rfl
          have hCm : On T (fun w => Ints w (.slice pa c2.mark.length pn) c2.mark) ((((w5.alloc (.cells #[.slice pa c2.mark.length pn, .slice qa c2.busy.length qn] 63)).setCell ⟨w.heap.size + 1, 0, none⟩ (.slice pa c2.mark.length pn)).setCell ⟨w.heap.size + 1, 1, none⟩ (.slice qa c2.busy.length qn)).setCell ⟨w4.heap.size, 2, none⟩ (.bool false)) := ((((((Ints.on_fresh i6).mono (S' := T) (fun b hb h => by rw [hT]; exact ⟨h, hb⟩)).gr ((Gr.refl w5).alloc _)).kp (set_kp (a := ⟨w.heap.size + 1, 0, none⟩) hT1 _)).kp (set_kp (a := ⟨w.heap.size + 1, 1, none⟩) hT1 _)).kp (set_kp (a := ⟨w4.heap.size, 2, none⟩) hT4 _))
          have hCb : On T (fun w => Ints w (.slice qa c2.busy.length qn) c2.busy) ((((w5.alloc (.cells #[.slice pa c2.mark.length pn, .slice qa c2.busy.length qn] 63)).setCell ⟨w.heap.size + 1, 0, none⟩ (.slice pa c2.mark.length pn)).setCell ⟨w.heap.size + 1, 1, none⟩ (.slice qa c2.busy.length qn)).setCell ⟨w4.heap.size, 2, none⟩ (.bool false)) := ((((((Ints.on_fresh i7).mono (S' := T) (fun b hb h => by rw [hT]; exact ⟨h, hb⟩)).gr ((Gr.refl w5).alloc _)).kp (set_kp (a := ⟨w.heap.size + 1, 0, none⟩) hT1 _)).kp (set_kp (a := ⟨w.heap.size + 1, 1, none⟩) hT1 _)).kp (set_kp (a := ⟨w4.heap.size, 2, none⟩) hT4 _))
          have HH5 := Lib.hid h5
          clear hT h5 g5 i6 i7 bK1 bK2 bI2 b1 b2 bI3 hA hw4
          have K2T := bK.cell (i := 2) rfl
          have HH := Lib.hid bI.lt
          have hTg : w.heap.size + 1 + 1 + 1 < w4.heap.size := HB.out
          go_wp2_with fail
          refine (CloneItem_calls _ k.items _ (hI.gr GA) (by omega)).mono ?_
          rintro _ w8 ⟨v8, rfl, o8, g8⟩
          clear K2T
          rcases o8.form with ⟨_, h0⟩ | ⟨g, cp, rfl, hg1, hg2, _, _⟩
          · rw [h0] at hl; simp at hl
          · replace bK := bK.gr g8
            replace bP := bP.gr g8
            replace bI := bI.gr g8
            replace b3 := b3.gr g8
            replace hCm := hCm.gr g8
            replace hCb := hCb.gr g8
            replace GA := GA.trans g8
            have hg4 : w4.heap.size < g := by have := HH.out; omega
            have hTgn : ¬ T g := fun h => by have := (hTn g h).2.2; omega
            have hT1 : ¬ T (w.heap.size + 1) := fun h => (hTn _ h).1 rfl
            have hT3 : ¬ T (w.heap.size + 1 + 1 + 1) := fun h => (hTn _ h).2.1 rfl
            clear g8
            have W2 := bK.cell (i := 2) rfl
            have WF := bK.frozen 2
            have bK9 := bK.set 2 (.slice (some ⟨g, 0, none⟩) k.items.length cp)
            have bP9 := bP.other (a := ⟨w.heap.size + 1, 2, none⟩) (by simp; try omega) (.slice (some ⟨g, 0, none⟩) k.items.length cp)
            have bI9 := bI.other (a := ⟨w.heap.size + 1, 2, none⟩) (by simp; omega) (.slice (some ⟨g, 0, none⟩) k.items.length cp)
            have b39 := b3.other (a := ⟨w.heap.size + 1, 2, none⟩) (by simp; try omega) (.slice (some ⟨g, 0, none⟩) k.items.length cp)
            have o9 := o8.other (a := ⟨w.heap.size + 1, 2, none⟩) (by simp [Value.ownBlock]; omega) (fun h => h) (.slice (some ⟨g, 0, none⟩) k.items.length cp)
            have hCm9 := hCm.kp (set_kp (a := ⟨w.heap.size + 1, 2, none⟩) hT1 (.slice (some ⟨g, 0, none⟩) k.items.length cp))
            have hCb9 := hCb.kp (set_kp (a := ⟨w.heap.size + 1, 2, none⟩) hT1 (.slice (some ⟨g, 0, none⟩) k.items.length cp))
            have GA9 := GA.setCell (p := ⟨w.heap.size + 1, 2, none⟩) (by simp; try omega) (.slice (some ⟨g, 0, none⟩) k.items.length cp)
            obtain ⟨gb, go, hgo, x0, x1, x2, _⟩ := o9.rd.item hl
            cases hgo
            rw [Nat.zero_add] at x0 x1 x2
            have f0 := o9.frozen (i * 3)
            have KK := bK9.cell (i := 2) rfl
            have PP := bP9.cell (i := 3) rfl
            have Q0 := bI9.cell (i := 0) rfl
            have Q1 := bI9.cell (i := 1) rfl
            have Q2 := bI9.cell (i := 2) rfl
            have o10 := o9.set3 rfl i (x := ⟨xu, (j : Int), false⟩) (On.true (p := ([.int .i64 xu, .int .i64 (j : Int), .bool false] : List Value) = itemCells ⟨xu, (j : Int), false⟩ ∧ itemI ⟨xu, (j : Int), false⟩) ⟨rfl, hxuI, hjI⟩)
            have f1 := o9.frozen (i * 3 + 1)
            have f2 := o9.frozen (i * 3 + 2)
            have y1 := (World.cell?_setCell_other (w := w8.setCell ⟨w.heap.size + 1, 2, none⟩ (.slice (some ⟨g, 0, none⟩) k.items.length cp)) (a := ⟨g, i * 3, none⟩) (b := ⟨g, i * 3 + 1, none⟩) (v := .int .i64 (xu)) (by simp)).trans x1
            have y2 := (World.cell?_setCell_other (w := (w8.setCell ⟨w.heap.size + 1, 2, none⟩ (.slice (some ⟨g, 0, none⟩) k.items.length cp)).setCell ⟨g, i * 3, none⟩ (.int .i64 (xu))) (a := ⟨g, i * 3 + 1, none⟩) (b := ⟨g, i * 3 + 2, none⟩) (v := .int .i64 (j : Int)) (by simp)).trans ((World.cell?_setCell_other (w := w8.setCell ⟨w.heap.size + 1, 2, none⟩ (.slice (some ⟨g, 0, none⟩) k.items.length cp)) (a := ⟨g, i * 3, none⟩) (b := ⟨g, i * 3 + 2, none⟩) (v := .int .i64 (xu)) (by simp)).trans x2)
            have hgH1 : w.heap.size + 1 ≠ g := by omega
            have hgH2 : w.heap.size + 1 + 1 ≠ g := by omega
            have hgH3 : w.heap.size + 1 + 1 + 1 ≠ g := by omega
            have bK10 := ((bK9.other (a := ⟨g, i * 3, none⟩) hgH1 (.int .i64 (xu))).other (a := ⟨g, i * 3 + 1, none⟩) hgH1 (.int .i64 (j : Int))).other (a := ⟨g, i * 3 + 2, none⟩) hgH1 (.bool false)
            have bP10 := ((bP9.other (a := ⟨g, i * 3, none⟩) hgH2 (.int .i64 (xu))).other (a := ⟨g, i * 3 + 1, none⟩) hgH2 (.int .i64 (j : Int))).other (a := ⟨g, i * 3 + 2, none⟩) hgH2 (.bool false)
            have b310 := ((b39.other (a := ⟨g, i * 3, none⟩) hgH3 (.int .i64 (xu))).other (a := ⟨g, i * 3 + 1, none⟩) hgH3 (.int .i64 (j : Int))).other (a := ⟨g, i * 3 + 2, none⟩) hgH3 (.bool false)
            have hCm10 := ((hCm9.kp (set_kp (a := ⟨g, i * 3, none⟩) hTgn (.int .i64 (xu)))).kp (set_kp (a := ⟨g, i * 3 + 1, none⟩) hTgn (.int .i64 (j : Int)))).kp (set_kp (a := ⟨g, i * 3 + 2, none⟩) hTgn (.bool false))
            have hCb10 := ((hCb9.kp (set_kp (a := ⟨g, i * 3, none⟩) hTgn (.int .i64 (xu)))).kp (set_kp (a := ⟨g, i * 3 + 1, none⟩) hTgn (.int .i64 (j : Int)))).kp (set_kp (a := ⟨g, i * 3 + 2, none⟩) hTgn (.bool false))
            have GA10 := ((GA9.setCell (p := ⟨g, i * 3, none⟩) (by simp; try omega) (.int .i64 (xu))).setCell (p := ⟨g, i * 3 + 1, none⟩) (by simp; try omega) (.int .i64 (j : Int))).setCell (p := ⟨g, i * 3 + 2, none⟩) (by simp; try omega) (.bool false)
            go_wp2_with fail
            clear x0 x1 x2 y1 y2 KK PP Q0 Q1 Q2 f0 f1 f2 W2 WF hCm9 hCb9 GA9 bK9 bP9 bI9 b39 o9 o8 hCm hCb bK bP bI b3 GA
            generalize (((w8.setCell ⟨w.heap.size + 1, 2, none⟩ (.slice (some ⟨g, 0, none⟩) k.items.length cp)).setCell ⟨g, i * 3, none⟩ (.int .i64 (xu))).setCell ⟨g, i * 3 + 1, none⟩ (.int .i64 (j : Int))).setCell ⟨g, i * 3 + 2, none⟩ (.bool false) = w10 at bK10 bP10 b310 hCm10 hCb10 GA10 o10 ⊢
            have Z0 := bK10.cell (i := 0) rfl
            have Z1 := bK10.cell (i := 1) rfl
            have Z2 := bK10.cell (i := 2) rfl
            have Z3 := bP10.cell (i := 3) rfl
            have D0 := b310.cell (i := 0) rfl
            have F0 := b310.frozen 0
            have bq1 := b310.set 0 (.slice pa c2.mark.length pn)
            have D1 := bq1.cell (i := 1) rfl
            have F1 := bq1.frozen 1
            have bq2 := bq1.set 1 (.slice qa c2.busy.length qn)
            have D2 := bq2.cell (i := 2) rfl
            have F2 := bq2.frozen 2
            have bq3 := bq2.set 2 (.slice (some ⟨g, 0, none⟩) k.items.length cp)
            have E0 := bq3.cell (i := 0) rfl
            have E1 := bq3.cell (i := 1) rfl
            have E2 := bq3.cell (i := 2) rfl
            go_region
            go_wp2_with fail
            refine bodyPost_ret (v := .tuple #[.agg #[.slice pa c2.mark.length pn, .slice qa c2.busy.length qn, .slice (some ⟨g, 0, none⟩) k.items.length cp], .int .i64 i, .int .i64 0]) (by simp [results, Try.results132, go_sem, E0, E1, E2]) rfl ?_
            have o11 : On (fun b => b = g) (fun w => Rd itemK w (.slice (some ⟨g, 0, none⟩) k.items.length cp) (k.items.set i ⟨xu, (j : Int), false⟩)) w10 := o10.on (fun _ _ h => h.elim) (fun b hb => own_eq hb)
            have hgS : ∀ b, b = g → SOr S w.heap.size b := fun b hb => .inr (by omega)
            refine RetDK.mk HC.out (on_desk (k := ⟨c2, k.items.set i ⟨xu, (j : Int), false⟩⟩) (((hCm10.set3 hT3 _ _ _).gr (Gr.refl _).drew).mono (fun b _ h => hTS b h)) (((hCb10.set3 hT3 _ _ _).gr (Gr.refl _).drew).mono (fun b _ h => hTS b h)) (((o11.set3 (fun h => hgH3 h) _ _ _).gr (Gr.refl _).drew).mono (fun b _ h => hgS b h))) ?_
            (repeat (first | exact Gr.refl _ | assumption | apply Gr.drewN | apply Gr.drew | apply Gr.alloc | (refine Gr.setCell ?_ (by simp; try omega) _) | refine Gr.trans ?_ (by assumption)))
        · have q1 : (e != 0) = true := by simpa using he
          have HC := Lib.hid (changeK_fail (roles := roles) h1 hk4 (by rw [hk3, endOf_undo]; exact hd2) he)
          clear h1 hd2 he
          refine (Do_calls _ _ N k.case 4 (j : Int) _ (hN.gr GA) (CaseR.mk_ (hM.gr GA) (hB.gr GA)) (by decide) hjI).mono ?_
          rw [HD.out]; rintro _ w5 ⟨v5, rfl, ⟨pm, pb, rfl, i6, i7⟩, g5⟩
          obtain ⟨pa, pn, rfl, _, _⟩ := i6.ints.len
          obtain ⟨qa, qn, rfl, _, _⟩ := i7.ints.len
          have GY : Gr wA (w5.alloc (.cells #[.slice pa c2.mark.length pn, .slice qa c2.busy.length qn] 63)) := g5.alloc _
          replace b1 := b1.gr GY
          replace b3 := b3.gr GY
          have K0 := b1.cell (i := 0) rfl
          have K1 := b1.cell (i := 1) rfl
          have K2 := b1.cell (i := 2) rfl
          have D0 := b3.cell (i := 0) rfl
          have F0 := b3.frozen 0
          have bq1 := b3.set 0 (.slice ma k.case.mark.length mc)
          have D1 := bq1.cell (i := 1) rfl
          have F1 := bq1.frozen 1
          have bq2 := bq1.set 1 (.slice ba k.case.busy.length bc)
          have D2 := bq2.cell (i := 2) rfl
          have F2 := bq2.frozen 2
          have bq3 := bq2.set 2 (.slice ia k.items.length ic)
          have E0 := bq3.cell (i := 0) rfl
          have E1 := bq3.cell (i := 1) rfl
          have E2 := bq3.cell (i := 2) rfl
          go_wp2_with fail
          refine bodyPost_ret (v := .tuple #[.agg #[.slice ma k.case.mark.length mc, .slice ba k.case.busy.length bc, .slice ia k.items.length ic], .int .i64 0, .int .i64 e]) (by simp [results, Try.results132, go_sem, E0, E1, E2]) rfl ?_
          refine RetDK.old HC.out hk ?_
          (repeat (first | exact Gr.refl _ | assumption | apply Gr.drewN | apply Gr.drew | apply Gr.alloc | (refine Gr.setCell ?_ (by simp; try omega) _) | refine Gr.trans ?_ (by assumption)))
      · skip
        rcases hd2 : doF N k.case 3 (j : Int) with ⟨c2, e⟩
        have HD := Lib.hid hd2
        replace b0 := b0.gr GX
        replace b1 := b1.gr GX
        replace b2 := b2.gr GX
        replace b3 := b3.gr GX
        replace GA := GA.trans GX
        clear GX hbig
        have A0 := b0.cell (i := 0) rfl
        have A1 := b0.cell (i := 1) rfl
        have K0 := b1.cell (i := 0) rfl
        have K1 := b1.cell (i := 1) rfl
        have P0 := b2.cell (i := 0) rfl
        have I1 := bI.cell (i := 1) rfl
        go_wp2_with fail
        clear A0 A1 K0 K1 P0 I1
        generalize (w4.alloc (.cells #[.int .i64 xu, .int .i64 (j : Int), .bool true] 156)) = wA at b0 b1 b2 b3 bI GA ⊢
        by_cases he : e = 0
        · subst he
          have HC := Lib.hid (changeK_done (roles := roles) h1 hk4 hi (by rw [endOf_end hk3]; exact hd2))
          clear h1 hd2
          refine (Do_calls _ _ N k.case 3 (j : Int) _ (hN.gr GA) (CaseR.mk_ (hM.gr GA) (hB.gr GA)) (by decide) hjI).mono ?_
          rw [HD.out]; rintro _ w5 ⟨v5, rfl, ⟨pm, pb, rfl, i6, i7⟩, g5⟩
          obtain ⟨pa, pn, rfl, _, _⟩ := i6.ints.len
          obtain ⟨qa, qn, rfl, _, _⟩ := i7.ints.len
          have hAl := Lib.hid bI.lt
          have GY : Gr wA (w5.alloc (.cells #[.slice pa c2.mark.length pn, .slice qa c2.busy.length qn] 63)) := g5.alloc _
          replace b1 := b1.gr GY
          replace b2 := b2.gr GY
          replace b3 := b3.gr GY
          replace bI := bI.gr GY
          replace GA := GA.trans GY
          clear b0 GY
          have X0 : (w5.alloc (.cells #[.slice pa c2.mark.length pn, .slice qa c2.busy.length qn] 63)).cell? ⟨w5.heap.size, 0, none⟩ = some (.slice pa c2.mark.length pn) := box_cell (Gr.refl _) (i := 0) rfl
          have X1 : (w5.alloc (.cells #[.slice pa c2.mark.length pn, .slice qa c2.busy.length qn] 63)).cell? ⟨w5.heap.size, 1, none⟩ = some (.slice qa c2.busy.length qn) := box_cell (Gr.refl _) (i := 1) rfl
          have K0 := b1.cell (i := 0) rfl
          have KF := b1.frozen 0
          have bK1 := b1.set 0 (.slice pa c2.mark.length pn)
          have K1 := bK1.cell (i := 1) rfl
          have KF1 := bK1.frozen 1
          have bK2 := bK1.set 1 (.slice qa c2.busy.length qn)
          have hA := hAl.out
          have hw4 : w.heap.size + 1 < w4.heap.size := by have := HB.out; omega
          have h5 := g5.le
          have bI2 := (bI.other (a := ⟨w.heap.size + 1, 0, none⟩) (by simp; omega) (.slice pa c2.mark.length pn)).other (a := ⟨w.heap.size + 1, 1, none⟩) (by simp; omega) (.slice qa c2.busy.length qn)
          have I2 := bI2.cell (i := 2) rfl
          have IF := bI2.frozen 2
          have bI3 := bI2.set 2 (.bool false)
          have bK := bK2.other (a := ⟨w4.heap.size, 2, none⟩) (by simp; omega) (.bool false)
          have bP := ((b2.other (a := ⟨w.heap.size + 1, 0, none⟩) (by simp; try omega) (.slice pa c2.mark.length pn)).other (a := ⟨w.heap.size + 1, 1, none⟩) (by simp; try omega) (.slice qa c2.busy.length qn)).other (a := ⟨w4.heap.size, 2, none⟩) (by have := HB.out; simp; omega) (.bool false)
          replace b3 := ((b3.other (a := ⟨w.heap.size + 1, 0, none⟩) (by simp; try omega) (.slice pa c2.mark.length pn)).other (a := ⟨w.heap.size + 1, 1, none⟩) (by simp; try omega) (.slice qa c2.busy.length qn)).other (a := ⟨w4.heap.size, 2, none⟩) (by have := HB.out; simp; omega) (.bool false)
          replace bI := bI3
          replace GA := ((GA.setCell (p := ⟨w.heap.size + 1, 0, none⟩) (by simp; try omega) (.slice pa c2.mark.length pn)).setCell (p := ⟨w.heap.size + 1, 1, none⟩) (by simp; try omega) (.slice qa c2.busy.length qn)).setCell (p := ⟨w4.heap.size, 2, none⟩) (by simp; omega) (.bool false)
          obtain ⟨T, hT⟩ : ∃ T : Nat → Prop, T = fun b => wA.heap.size ≤ b ∧ b < w5.heap.size := ⟨_, rfl⟩
          have hTn : ∀ b, T b → b ≠ w.heap.size + 1 ∧ b ≠ w.heap.size + 1 + 1 + 1 ∧ b < ((((w5.alloc (.cells #[.slice pa c2.mark.length pn, .slice qa c2.busy.length qn] 63)).setCell ⟨w.heap.size + 1, 0, none⟩ (.slice pa c2.mark.length pn)).setCell ⟨w.heap.size + 1, 1, none⟩ (.slice qa c2.busy.length qn)).setCell ⟨w4.heap.size, 2, none⟩ (.bool false)).heap.size := fun b hb => by
            rw [hT] at hb
            have h1 := hb.1
            have h2 := hb.2
            have := HB.out
            refine ⟨?_, ?_, ?_⟩ <;> (try simp) <;> omega
          have hTS : ∀ b, T b → SOr S w.heap.size b := fun b hb => by rw [hT] at hb; have := hb.1; exact .inr (by omega)
          have hT4 : ¬ T w4.heap.size := fun h => by rw [hT] at h; have := h.1; omega
          have hT1 : ¬ T (w.heap.size + 1) := fun h => (hTn _ h).1 rfl
          have hCm : On T (fun w => Ints w (.slice pa c2.mark.length pn) c2.mark) ((((w5.alloc (.cells #[.slice pa c2.mark.length pn, .slice qa c2.busy.length qn] 63)).setCell ⟨w.heap.size + 1, 0, none⟩ (.slice pa c2.mark.length pn)).setCell ⟨w.heap.size + 1, 1, none⟩ (.slice qa c2.busy.length qn)).setCell ⟨w4.heap.size, 2, none⟩ (.bool false)) := ((((((Ints.on_fresh i6).mono (S' := T) (fun b hb h => by rw [hT]; exact ⟨h, hb⟩)).gr ((Gr.refl w5).alloc _)).kp (set_kp (a := ⟨w.heap.size + 1, 0, none⟩) hT1 _)).kp (set_kp (a := ⟨w.heap.size + 1, 1, none⟩) hT1 _)).kp (set_kp (a := ⟨w4.heap.size, 2, none⟩) hT4 _))
          have hCb : On T (fun w => Ints w (.slice qa c2.busy.length qn) c2.busy) ((((w5.alloc (.cells #[.slice pa c2.mark.length pn, .slice qa c2.busy.length qn] 63)).setCell ⟨w.heap.size + 1, 0, none⟩ (.slice pa c2.mark.length pn)).setCell ⟨w.heap.size + 1, 1, none⟩ (.slice qa c2.busy.length qn)).setCell ⟨w4.heap.size, 2, none⟩ (.bool false)) := ((((((Ints.on_fresh i7).mono (S' := T) (fun b hb h => by rw [hT]; exact ⟨h, hb⟩)).gr ((Gr.refl w5).alloc _)).kp (set_kp (a := ⟨w.heap.size + 1, 0, none⟩) hT1 _)).kp (set_kp (a := ⟨w.heap.size + 1, 1, none⟩) hT1 _)).kp (set_kp (a := ⟨w4.heap.size, 2, none⟩) hT4 _))
          have HH5 := Lib.hid h5
          clear hT h5 g5 i6 i7 bK1 bK2 bI2 b1 b2 bI3 hA hw4
          have K2T := bK.cell (i := 2) rfl
          have HH := Lib.hid bI.lt
          have hTg : w.heap.size + 1 + 1 + 1 < w4.heap.size := HB.out
          go_wp2_with fail
          refine (CloneItem_calls _ k.items _ (hI.gr GA) (by omega)).mono ?_
          rintro _ w8 ⟨v8, rfl, o8, g8⟩
          clear K2T
          rcases o8.form with ⟨_, h0⟩ | ⟨g, cp, rfl, hg1, hg2, _, _⟩
          · rw [h0] at hl; simp at hl
          · replace bK := bK.gr g8
            replace bP := bP.gr g8
            replace bI := bI.gr g8
            replace b3 := b3.gr g8
            replace hCm := hCm.gr g8
            replace hCb := hCb.gr g8
            replace GA := GA.trans g8
            have hg4 : w4.heap.size < g := by have := HH.out; omega
            have hTgn : ¬ T g := fun h => by have := (hTn g h).2.2; omega
            have hT1 : ¬ T (w.heap.size + 1) := fun h => (hTn _ h).1 rfl
            have hT3 : ¬ T (w.heap.size + 1 + 1 + 1) := fun h => (hTn _ h).2.1 rfl
            clear g8
            have W2 := bK.cell (i := 2) rfl
            have WF := bK.frozen 2
            have bK9 := bK.set 2 (.slice (some ⟨g, 0, none⟩) k.items.length cp)
            have bP9 := bP.other (a := ⟨w.heap.size + 1, 2, none⟩) (by simp; try omega) (.slice (some ⟨g, 0, none⟩) k.items.length cp)
            have bI9 := bI.other (a := ⟨w.heap.size + 1, 2, none⟩) (by simp; omega) (.slice (some ⟨g, 0, none⟩) k.items.length cp)
            have b39 := b3.other (a := ⟨w.heap.size + 1, 2, none⟩) (by simp; try omega) (.slice (some ⟨g, 0, none⟩) k.items.length cp)
            have o9 := o8.other (a := ⟨w.heap.size + 1, 2, none⟩) (by simp [Value.ownBlock]; omega) (fun h => h) (.slice (some ⟨g, 0, none⟩) k.items.length cp)
            have hCm9 := hCm.kp (set_kp (a := ⟨w.heap.size + 1, 2, none⟩) hT1 (.slice (some ⟨g, 0, none⟩) k.items.length cp))
            have hCb9 := hCb.kp (set_kp (a := ⟨w.heap.size + 1, 2, none⟩) hT1 (.slice (some ⟨g, 0, none⟩) k.items.length cp))
            have GA9 := GA.setCell (p := ⟨w.heap.size + 1, 2, none⟩) (by simp; try omega) (.slice (some ⟨g, 0, none⟩) k.items.length cp)
            obtain ⟨gb, go, hgo, x0, x1, x2, _⟩ := o9.rd.item hl
            cases hgo
            rw [Nat.zero_add] at x0 x1 x2
            have f0 := o9.frozen (i * 3)
            have KK := bK9.cell (i := 2) rfl
            have PP := bP9.cell (i := 3) rfl
            have Q0 := bI9.cell (i := 0) rfl
            have Q1 := bI9.cell (i := 1) rfl
            have Q2 := bI9.cell (i := 2) rfl
            have o10 := o9.set3 rfl i (x := ⟨xu, (j : Int), false⟩) (On.true (p := ([.int .i64 xu, .int .i64 (j : Int), .bool false] : List Value) = itemCells ⟨xu, (j : Int), false⟩ ∧ itemI ⟨xu, (j : Int), false⟩) ⟨rfl, hxuI, hjI⟩)
            have f1 := o9.frozen (i * 3 + 1)
            have f2 := o9.frozen (i * 3 + 2)
            have y1 := (World.cell?_setCell_other (w := w8.setCell ⟨w.heap.size + 1, 2, none⟩ (.slice (some ⟨g, 0, none⟩) k.items.length cp)) (a := ⟨g, i * 3, none⟩) (b := ⟨g, i * 3 + 1, none⟩) (v := .int .i64 (xu)) (by simp)).trans x1
            have y2 := (World.cell?_setCell_other (w := (w8.setCell ⟨w.heap.size + 1, 2, none⟩ (.slice (some ⟨g, 0, none⟩) k.items.length cp)).setCell ⟨g, i * 3, none⟩ (.int .i64 (xu))) (a := ⟨g, i * 3 + 1, none⟩) (b := ⟨g, i * 3 + 2, none⟩) (v := .int .i64 (j : Int)) (by simp)).trans ((World.cell?_setCell_other (w := w8.setCell ⟨w.heap.size + 1, 2, none⟩ (.slice (some ⟨g, 0, none⟩) k.items.length cp)) (a := ⟨g, i * 3, none⟩) (b := ⟨g, i * 3 + 2, none⟩) (v := .int .i64 (xu)) (by simp)).trans x2)
            have hgH1 : w.heap.size + 1 ≠ g := by omega
            have hgH2 : w.heap.size + 1 + 1 ≠ g := by omega
            have hgH3 : w.heap.size + 1 + 1 + 1 ≠ g := by omega
            have bK10 := ((bK9.other (a := ⟨g, i * 3, none⟩) hgH1 (.int .i64 (xu))).other (a := ⟨g, i * 3 + 1, none⟩) hgH1 (.int .i64 (j : Int))).other (a := ⟨g, i * 3 + 2, none⟩) hgH1 (.bool false)
            have bP10 := ((bP9.other (a := ⟨g, i * 3, none⟩) hgH2 (.int .i64 (xu))).other (a := ⟨g, i * 3 + 1, none⟩) hgH2 (.int .i64 (j : Int))).other (a := ⟨g, i * 3 + 2, none⟩) hgH2 (.bool false)
            have b310 := ((b39.other (a := ⟨g, i * 3, none⟩) hgH3 (.int .i64 (xu))).other (a := ⟨g, i * 3 + 1, none⟩) hgH3 (.int .i64 (j : Int))).other (a := ⟨g, i * 3 + 2, none⟩) hgH3 (.bool false)
            have hCm10 := ((hCm9.kp (set_kp (a := ⟨g, i * 3, none⟩) hTgn (.int .i64 (xu)))).kp (set_kp (a := ⟨g, i * 3 + 1, none⟩) hTgn (.int .i64 (j : Int)))).kp (set_kp (a := ⟨g, i * 3 + 2, none⟩) hTgn (.bool false))
            have hCb10 := ((hCb9.kp (set_kp (a := ⟨g, i * 3, none⟩) hTgn (.int .i64 (xu)))).kp (set_kp (a := ⟨g, i * 3 + 1, none⟩) hTgn (.int .i64 (j : Int)))).kp (set_kp (a := ⟨g, i * 3 + 2, none⟩) hTgn (.bool false))
            have GA10 := ((GA9.setCell (p := ⟨g, i * 3, none⟩) (by simp; try omega) (.int .i64 (xu))).setCell (p := ⟨g, i * 3 + 1, none⟩) (by simp; try omega) (.int .i64 (j : Int))).setCell (p := ⟨g, i * 3 + 2, none⟩) (by simp; try omega) (.bool false)
            go_wp2_with fail
            clear x0 x1 x2 y1 y2 KK PP Q0 Q1 Q2 f0 f1 f2 W2 WF hCm9 hCb9 GA9 bK9 bP9 bI9 b39 o9 o8 hCm hCb bK bP bI b3 GA
            generalize (((w8.setCell ⟨w.heap.size + 1, 2, none⟩ (.slice (some ⟨g, 0, none⟩) k.items.length cp)).setCell ⟨g, i * 3, none⟩ (.int .i64 (xu))).setCell ⟨g, i * 3 + 1, none⟩ (.int .i64 (j : Int))).setCell ⟨g, i * 3 + 2, none⟩ (.bool false) = w10 at bK10 bP10 b310 hCm10 hCb10 GA10 o10 ⊢
            have Z0 := bK10.cell (i := 0) rfl
            have Z1 := bK10.cell (i := 1) rfl
            have Z2 := bK10.cell (i := 2) rfl
            have Z3 := bP10.cell (i := 3) rfl
            have D0 := b310.cell (i := 0) rfl
            have F0 := b310.frozen 0
            have bq1 := b310.set 0 (.slice pa c2.mark.length pn)
            have D1 := bq1.cell (i := 1) rfl
            have F1 := bq1.frozen 1
            have bq2 := bq1.set 1 (.slice qa c2.busy.length qn)
            have D2 := bq2.cell (i := 2) rfl
            have F2 := bq2.frozen 2
            have bq3 := bq2.set 2 (.slice (some ⟨g, 0, none⟩) k.items.length cp)
            have E0 := bq3.cell (i := 0) rfl
            have E1 := bq3.cell (i := 1) rfl
            have E2 := bq3.cell (i := 2) rfl
            go_region
            go_wp2_with fail
            refine bodyPost_ret (v := .tuple #[.agg #[.slice pa c2.mark.length pn, .slice qa c2.busy.length qn, .slice (some ⟨g, 0, none⟩) k.items.length cp], .int .i64 i, .int .i64 0]) (by simp [results, Try.results132, go_sem, E0, E1, E2]) rfl ?_
            have o11 : On (fun b => b = g) (fun w => Rd itemK w (.slice (some ⟨g, 0, none⟩) k.items.length cp) (k.items.set i ⟨xu, (j : Int), false⟩)) w10 := o10.on (fun _ _ h => h.elim) (fun b hb => own_eq hb)
            have hgS : ∀ b, b = g → SOr S w.heap.size b := fun b hb => .inr (by omega)
            refine RetDK.mk HC.out (on_desk (k := ⟨c2, k.items.set i ⟨xu, (j : Int), false⟩⟩) (((hCm10.set3 hT3 _ _ _).gr (Gr.refl _).drew).mono (fun b _ h => hTS b h)) (((hCb10.set3 hT3 _ _ _).gr (Gr.refl _).drew).mono (fun b _ h => hTS b h)) (((o11.set3 (fun h => hgH3 h) _ _ _).gr (Gr.refl _).drew).mono (fun b _ h => hgS b h))) ?_
            (repeat (first | exact Gr.refl _ | assumption | apply Gr.drewN | apply Gr.drew | apply Gr.alloc | (refine Gr.setCell ?_ (by simp; try omega) _) | refine Gr.trans ?_ (by assumption)))
        · have q1 : (e != 0) = true := by simpa using he
          have HC := Lib.hid (changeK_fail (roles := roles) h1 hk4 (by rw [endOf_end hk3]; exact hd2) he)
          clear h1 hd2 he
          refine (Do_calls _ _ N k.case 3 (j : Int) _ (hN.gr GA) (CaseR.mk_ (hM.gr GA) (hB.gr GA)) (by decide) hjI).mono ?_
          rw [HD.out]; rintro _ w5 ⟨v5, rfl, ⟨pm, pb, rfl, i6, i7⟩, g5⟩
          obtain ⟨pa, pn, rfl, _, _⟩ := i6.ints.len
          obtain ⟨qa, qn, rfl, _, _⟩ := i7.ints.len
          have GY : Gr wA (w5.alloc (.cells #[.slice pa c2.mark.length pn, .slice qa c2.busy.length qn] 63)) := g5.alloc _
          replace b1 := b1.gr GY
          replace b3 := b3.gr GY
          have K0 := b1.cell (i := 0) rfl
          have K1 := b1.cell (i := 1) rfl
          have K2 := b1.cell (i := 2) rfl
          have D0 := b3.cell (i := 0) rfl
          have F0 := b3.frozen 0
          have bq1 := b3.set 0 (.slice ma k.case.mark.length mc)
          have D1 := bq1.cell (i := 1) rfl
          have F1 := bq1.frozen 1
          have bq2 := bq1.set 1 (.slice ba k.case.busy.length bc)
          have D2 := bq2.cell (i := 2) rfl
          have F2 := bq2.frozen 2
          have bq3 := bq2.set 2 (.slice ia k.items.length ic)
          have E0 := bq3.cell (i := 0) rfl
          have E1 := bq3.cell (i := 1) rfl
          have E2 := bq3.cell (i := 2) rfl
          go_wp2_with fail
          refine bodyPost_ret (v := .tuple #[.agg #[.slice ma k.case.mark.length mc, .slice ba k.case.busy.length bc, .slice ia k.items.length ic], .int .i64 0, .int .i64 e]) (by simp [results, Try.results132, go_sem, E0, E1, E2]) rfl ?_
          refine RetDK.old HC.out hk ?_
          (repeat (first | exact Gr.refl _ | assumption | apply Gr.drewN | apply Gr.drew | apply Gr.alloc | (refine Gr.setCell ?_ (by simp; try omega) _) | refine Gr.trans ?_ (by assumption)))
end Go.Proofs.Ytidpppfimkhgkaa
