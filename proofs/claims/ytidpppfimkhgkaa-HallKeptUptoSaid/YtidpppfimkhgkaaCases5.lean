/- Contract of cases.Begin. -/
import Derived.Test.YtidpppfimkhgkaaCases4
import Derived.Test.YtidpppfimkhgkaaGS
import Derived.Test.YtidpppfimkhgkaaPC
namespace Go.Tok
open Go.RowKit
def beginF (N : NetD) (i : Int) : CaseD × Int :=
  if netOkB N = false then (zeroC, 2) else if i < 0 ∨ N.places ≤ i then (zeroC, 3) else (⟨oneN N.places.toNat i, List.replicate N.trans.length 0⟩, 0)
theorem begin_wrong {N : NetD} {i : Int} (h : netOkB N = false) : beginF N i = (zeroC, 2) := if_pos h
theorem begin_none {N : NetD} {i : Int} (h : netOkB N = true) (hi : i < 0 ∨ N.places ≤ i) : beginF N i = (zeroC, 3) := by unfold beginF; rw [if_neg (by rw [h]; decide), if_pos hi]
theorem begin_ok {N : NetD} {i : Int} (h : netOkB N = true) (h0 : 0 ≤ i) (h1 : i < N.places) : beginF N i = (⟨oneN N.places.toNat i, List.replicate N.trans.length 0⟩, 0) := by unfold beginF; rw [if_neg (by rw [h]; decide), if_neg (by omega)]
end Go.Tok
namespace Go.Proofs.Ytidpppfimkhgkaa
open Go.RowKit Go.Tok
set_option linter.unusedVariables false

set_option maxHeartbeats 2000000 in
set_option maxRecDepth 100000 in
theorem Begin_calls (v : Value) (N : NetD) (i : Int) (w : World) (hN : NetR w v N) (hi : I64 i) :
    Calls Try.prog 81 #[v, .int .i64 i] w (RetCE w (beginF N i)) := by
  have T := intTy
  have hN' := hN
  obtain ⟨a, cap, rfl, hnl, hncap, hpl, hT⟩ := hN.open_
  have hpl1 := hpl.1
  have hpl2 := hpl.2
  cases h0 : netOkB N
  · have e0 := wrongC_no h0
    have HC := Lib.hid (begin_wrong (i := i) h0)
    clear h0
    have b0 : Blk ((w.alloc (.cells #[.int .i64 N.places, .slice a N.trans.length cap] 28)).alloc (.cells #[.slice none 0 0, .slice none 0 0] 63)) w.heap.size 28 #[.int .i64 N.places, .slice a N.trans.length cap] := (Blk.new rfl).gr ((Gr.refl _).alloc _)
    have b3 : Blk ((w.alloc (.cells #[.int .i64 N.places, .slice a N.trans.length cap] 28)).alloc (.cells #[.slice none 0 0, .slice none 0 0] 63)) (w.heap.size + 1) 63 #[.slice none 0 0, .slice none 0 0] := Blk.new (by simp)
    go_enter Try.func81, Try.ntmps81
    go_wp2_with fail
    refine (Wrong_calls _ N _ (hN.gr (by (repeat (first | exact Gr.refl _ | assumption | apply Gr.alloc | apply Gr.drew | apply Gr.drewN | refine Gr.trans ?_ (by assumption)))))).mono ?_
    rw [e0]; rintro _ w1 ⟨rfl, g1⟩
    replace b0 := b0.gr g1
    replace b3 := b3.gr g1
    have A0 := b0.cell (i := 0) rfl
    have A1 := b0.cell (i := 1) rfl
    have gw : Gr w w1 := by (repeat (first | exact Gr.refl _ | assumption | apply Gr.alloc | apply Gr.drew | apply Gr.drewN | refine Gr.trans ?_ (by assumption)))
    clear g1
    have hbw : w.heap.size + 1 < w1.heap.size := b3.lt
    have hw0 := gw.le
    have D0 := b3.cell (i := 0) rfl
    have D1 := b3.cell (i := 1) rfl
    have F0 := b3.frozen 0
    have hb2 := b3.set 0 (.slice none 0 0)
    have F1 := hb2.frozen 1
    have D2 := hb2.cell (i := 1) rfl
    have hb3 := hb2.set 1 (.slice none 0 0)
    have E0 := hb3.cell (i := 0) rfl
    have E1 := hb3.cell (i := 1) rfl
    go_wp2_with fail
    refine bodyPost_ret (v := .tuple #[.agg #[.slice none 0 0, .slice none 0 0], .int .i64 (2)]) (by simp [results, Try.results81, go_sem, E0, E1]) rfl ?_
    exact RetCE.mk HC.out (CaseO.zero _ _ _) (Nat.le_refl _) ((gw.setCell (by simp) _).setCell (by simp) _)
  · have e0 := wrongC_yes h0
    by_cases h1 : i < 0
    · have HC := Lib.hid (begin_none h0 (.inl h1))
      clear h0
      have b0 : Blk ((w.alloc (.cells #[.int .i64 N.places, .slice a N.trans.length cap] 28)).alloc (.cells #[.slice none 0 0, .slice none 0 0] 63)) w.heap.size 28 #[.int .i64 N.places, .slice a N.trans.length cap] := (Blk.new rfl).gr ((Gr.refl _).alloc _)
      have b3 : Blk ((w.alloc (.cells #[.int .i64 N.places, .slice a N.trans.length cap] 28)).alloc (.cells #[.slice none 0 0, .slice none 0 0] 63)) (w.heap.size + 1) 63 #[.slice none 0 0, .slice none 0 0] := Blk.new (by simp)
      go_enter Try.func81, Try.ntmps81
      go_wp2_with fail
      refine (Wrong_calls _ N _ (hN.gr (by (repeat (first | exact Gr.refl _ | assumption | apply Gr.alloc | apply Gr.drew | apply Gr.drewN | refine Gr.trans ?_ (by assumption)))))).mono ?_
      rw [e0]; rintro _ w1 ⟨rfl, g1⟩
      replace b0 := b0.gr g1
      replace b3 := b3.gr g1
      have A0 := b0.cell (i := 0) rfl
      have A1 := b0.cell (i := 1) rfl
      have gw : Gr w w1 := by (repeat (first | exact Gr.refl _ | assumption | apply Gr.alloc | apply Gr.drew | apply Gr.drewN | refine Gr.trans ?_ (by assumption)))
      clear g1
      have hbw : w.heap.size + 1 < w1.heap.size := b3.lt
      have hw0 := gw.le
      have D0 := b3.cell (i := 0) rfl
      have D1 := b3.cell (i := 1) rfl
      have F0 := b3.frozen 0
      have hb2 := b3.set 0 (.slice none 0 0)
      have F1 := hb2.frozen 1
      have D2 := hb2.cell (i := 1) rfl
      have hb3 := hb2.set 1 (.slice none 0 0)
      have E0 := hb3.cell (i := 0) rfl
      have E1 := hb3.cell (i := 1) rfl
      go_wp2_with fail
      refine bodyPost_ret (v := .tuple #[.agg #[.slice none 0 0, .slice none 0 0], .int .i64 (3)]) (by simp [results, Try.results81, go_sem, E0, E1]) rfl ?_
      exact RetCE.mk HC.out (CaseO.zero _ _ _) (Nat.le_refl _) ((gw.setCell (by simp) _).setCell (by simp) _)
    · by_cases h2 : N.places ≤ i
      · have HC := Lib.hid (begin_none h0 (.inr h2))
        clear h0
        have b0 : Blk ((w.alloc (.cells #[.int .i64 N.places, .slice a N.trans.length cap] 28)).alloc (.cells #[.slice none 0 0, .slice none 0 0] 63)) w.heap.size 28 #[.int .i64 N.places, .slice a N.trans.length cap] := (Blk.new rfl).gr ((Gr.refl _).alloc _)
        have b3 : Blk ((w.alloc (.cells #[.int .i64 N.places, .slice a N.trans.length cap] 28)).alloc (.cells #[.slice none 0 0, .slice none 0 0] 63)) (w.heap.size + 1) 63 #[.slice none 0 0, .slice none 0 0] := Blk.new (by simp)
        go_enter Try.func81, Try.ntmps81
        go_wp2_with fail
        refine (Wrong_calls _ N _ (hN.gr (by (repeat (first | exact Gr.refl _ | assumption | apply Gr.alloc | apply Gr.drew | apply Gr.drewN | refine Gr.trans ?_ (by assumption)))))).mono ?_
        rw [e0]; rintro _ w1 ⟨rfl, g1⟩
        replace b0 := b0.gr g1
        replace b3 := b3.gr g1
        have A0 := b0.cell (i := 0) rfl
        have A1 := b0.cell (i := 1) rfl
        have gw : Gr w w1 := by (repeat (first | exact Gr.refl _ | assumption | apply Gr.alloc | apply Gr.drew | apply Gr.drewN | refine Gr.trans ?_ (by assumption)))
        clear g1
        have hbw : w.heap.size + 1 < w1.heap.size := b3.lt
        have hw0 := gw.le
        have D0 := b3.cell (i := 0) rfl
        have D1 := b3.cell (i := 1) rfl
        have F0 := b3.frozen 0
        have hb2 := b3.set 0 (.slice none 0 0)
        have F1 := hb2.frozen 1
        have D2 := hb2.cell (i := 1) rfl
        have hb3 := hb2.set 1 (.slice none 0 0)
        have E0 := hb3.cell (i := 0) rfl
        have E1 := hb3.cell (i := 1) rfl
        go_wp2_with fail
        refine bodyPost_ret (v := .tuple #[.agg #[.slice none 0 0, .slice none 0 0], .int .i64 (3)]) (by simp [results, Try.results81, go_sem, E0, E1]) rfl ?_
        exact RetCE.mk HC.out (CaseO.zero _ _ _) (Nat.le_refl _) ((gw.setCell (by simp) _).setCell (by simp) _)
      · have HC := Lib.hid (begin_ok (i := i) h0 (by omega) (by omega))
        have h24 := netOk_n24 h0
        have hmn : N.trans.length ≤ 35184372088832 := by omega
        obtain ⟨mkw, hmk⟩ := run_mk_ints T N.trans.length hmn
        have HMK := Lib.hid hmk
        clear hmk
        have HSL := Lib.hid (startLen_ok h0)
        clear h0
        have b0 : Blk ((w.alloc (.cells #[.int .i64 N.places, .slice a N.trans.length cap] 28)).alloc (.cells #[.slice none 0 0, .slice none 0 0] 63)) w.heap.size 28 #[.int .i64 N.places, .slice a N.trans.length cap] := (Blk.new rfl).gr ((Gr.refl _).alloc _)
        have b3 : Blk ((w.alloc (.cells #[.int .i64 N.places, .slice a N.trans.length cap] 28)).alloc (.cells #[.slice none 0 0, .slice none 0 0] 63)) (w.heap.size + 1) 63 #[.slice none 0 0, .slice none 0 0] := Blk.new (by simp)
        go_enter Try.func81, Try.ntmps81
        go_wp2_with fail
        refine (Wrong_calls _ N _ (hN.gr (by (repeat (first | exact Gr.refl _ | assumption | apply Gr.alloc | apply Gr.drew | apply Gr.drewN | refine Gr.trans ?_ (by assumption)))))).mono ?_
        rw [e0]; rintro _ w1 ⟨rfl, g1⟩
        replace b0 := b0.gr g1
        replace b3 := b3.gr g1
        have A0 := b0.cell (i := 0) rfl
        have A1 := b0.cell (i := 1) rfl
        have gw : Gr w w1 := by (repeat (first | exact Gr.refl _ | assumption | apply Gr.alloc | apply Gr.drew | apply Gr.drewN | refine Gr.trans ?_ (by assumption)))
        clear g1
        have hbw : w.heap.size + 1 < w1.heap.size := b3.lt
        have hw0 := gw.le
        have D0 := b3.cell (i := 0) rfl
        have D1 := b3.cell (i := 1) rfl
        have F0 := b3.frozen 0
        have hb2 := b3.set 0 (.slice none 0 0)
        have F1 := hb2.frozen 1
        have D2 := hb2.cell (i := 1) rfl
        have hb3 := hb2.set 1 (.slice none 0 0)
        have E0 := hb3.cell (i := 0) rfl
        have E1 := hb3.cell (i := 1) rfl
        go_wp2_with fail
        refine cut9 (S := fun w' => w'.cell? ⟨w.heap.size, 0, none⟩ = some (.int .i64 N.places) ∧ w'.cell? ⟨w.heap.size, 1, none⟩ = some (.slice a N.trans.length cap)) (by kernel_rfl) (by kernel_rfl) (by exact ⟨cell_gr A0 (by (repeat (first | exact Gr.refl _ | assumption | apply Gr.alloc | apply Gr.drew | apply Gr.drewN | refine Gr.trans ?_ (by assumption)))), cell_gr A1 (by (repeat (first | exact Gr.refl _ | assumption | apply Gr.alloc | apply Gr.drew | apply Gr.drewN | refine Gr.trans ?_ (by assumption))))⟩) (fun hHeld => ?_)
        (refine hold0 (v := ?_) (by kernel_rfl) (by kernel_rfl) (by kernel_rfl) (fun _ _ _ h => h) (by rfl) (fun w' hSw => ?_) (by assumption) ?_; rotate_left 1; · ((try dsimp only at hSw); (try go_simp); (try (with_reducible rfl))); (try simp only [Act.put, List.setIfInBounds_toArray, List.set_cons_zero, List.set_cons_succ]))
        (refine hold1 (v := ?_) (by kernel_rfl) (by kernel_rfl) (by kernel_rfl) (fun _ _ _ h => h) (by rfl) (fun w' hSw => ?_) (by assumption) ?_; rotate_left 1; · ((try dsimp only at hSw); (try go_simp); (try (with_reducible rfl))); (try simp only [Act.put, List.setIfInBounds_toArray, List.set_cons_zero, List.set_cons_succ]))
        (refine hold3 (v := ?_) (by kernel_rfl) (by kernel_rfl) (by kernel_rfl) (fun _ _ _ h => h) (by rfl) (fun w' hSw => ?_) (by assumption) ?_; rotate_left 1; · ((try dsimp only at hSw); (try go_simp); (try (with_reducible rfl))); (try simp only [Act.put, List.setIfInBounds_toArray, List.set_cons_zero, List.set_cons_succ]))
        (refine hold4 (v := ?_) (by kernel_rfl) (by kernel_rfl) (by kernel_rfl) (fun _ _ _ h => h) (by rfl) (fun w' hSw => ?_) (by assumption) ?_; rotate_left 1; · ((try dsimp only at hSw); (try go_simp); (try (with_reducible rfl))); (try simp only [Act.put, List.setIfInBounds_toArray, List.set_cons_zero, List.set_cons_succ]))
        (refine hold5 (v := ?_) (by kernel_rfl) (by kernel_rfl) (by kernel_rfl) (fun _ _ _ h => h) (by rfl) (fun w' hSw => ?_) (by assumption) ?_; rotate_left 1; · ((try dsimp only at hSw); (try go_simp); (try (with_reducible rfl))); (try simp only [Act.put, List.setIfInBounds_toArray, List.set_cons_zero, List.set_cons_succ]))
        have gd : Gr w1 w1.drew := (Gr.refl _).drew
        generalize w1.drew = wd at gd hHeld ⊢
        refine fork_2_6 (by kernel_rfl) (fun K hK => ?_) (fun K hK => ?_)
        · go_simp
          go_at_call 20
          refine (Start_calls _ N _ _ (hN'.gr (gw.trans gd)) hi).mono ?_
          rintro _ w2 ⟨v2, rfl, o2, g2⟩
          have I2 := o2.lower (base' := w1.heap.size) (Gr.le (show Gr w1 _ from by (repeat (first | exact Gr.refl _ | assumption | apply Gr.alloc | apply Gr.drew | apply Gr.drewN | refine Gr.trans ?_ (by assumption)))))
          rw [HSL.out] at I2
          obtain ⟨va, vc, rfl, _, _⟩ := I2.ints.len
          have G2 : Gr w1 w2 := gd.trans g2
          (refine hK.out _ _ ?_ (fun hHeld => ?_); · (exact ⟨cell_gr A0 G2, cell_gr A1 G2⟩))
          clear hK K
          try simp only [Act.put, List.setIfInBounds_toArray, List.set_cons_zero, List.set_cons_succ]
          refine next6 (by kernel_rfl) (fun K hK => ?_)
          refine step_mk_ints T (by rfl) _ _ (by rfl) w2.heap.size N.trans.length _ _ (by rfl) (by rfl) rfl rfl (by omega) (Nat.le_refl _) ?_
          intro w3 o3 g3 h3
          have G3 : Gr w1 w3 := G2.trans g3
          (refine hK.out _ _ ?_ (fun hHeld => ?_); · (exact ⟨cell_gr A0 G3, cell_gr A1 G3⟩))
          clear hK K
          try simp only [Act.put, List.setIfInBounds_toArray, List.set_cons_zero, List.set_cons_succ]
          have I3 := I2.gr g3
          have J3 := o3.lower G2.le
          have c3 := b3.gr G3
          have c0 := b0.gr G3
          have D3 := c3.cell (i := 0) rfl
          have D4 := c3.cell (i := 1) rfl
          have F3 := c3.frozen 0
          have hc4 := c3.set 0 (.slice va (oneN N.places.toNat i).length vc)
          have F4 := hc4.frozen 1
          have D5 := hc4.cell (i := 1) rfl
          have hc5 := hc4.set 1 (.slice (some ⟨(w2).heap.size, 0, none⟩) N.trans.length N.trans.length)
          have E3 := hc5.cell (i := 0) rfl
          have E4 := hc5.cell (i := 1) rfl
          have A3 := ((c0.other (a := ⟨w.heap.size + 1, 0, none⟩) (by simp) (.slice va (oneN N.places.toNat i).length vc)).other (a := ⟨w.heap.size + 1, 1, none⟩) (by simp) (.slice (some ⟨(w2).heap.size, 0, none⟩) N.trans.length N.trans.length))
          have A4 := A3.cell (i := 0) rfl
          have A5 := A3.cell (i := 1) rfl
          (refine hold7 (v := ?_) (by kernel_rfl) (by kernel_rfl) (by kernel_rfl) (fun _ _ _ h => h) (by rfl) (fun w' hSw => ?_) (by assumption) ?_; rotate_left 1; · ((try dsimp only at hSw); (try go_simp); (try (with_reducible rfl))); (try simp only [Act.put, List.setIfInBounds_toArray, List.set_cons_zero, List.set_cons_succ]))
          refine next8 (by kernel_rfl) (fun K hK => ?_)
          go_simp
          (refine hK.out _ _ ?_ (fun hHeld => ?_); · (exact ⟨A4, A5⟩))
          clear hK K
          try simp only [Act.put, List.setIfInBounds_toArray, List.set_cons_zero, List.set_cons_succ]
          refine ends9 (by kernel_rfl) (fun K hK => ?_)
          go_simp
          refine hK.out _ _ ?_
          go_wp2_with fail
          refine bodyPost_ret (v := .tuple #[.agg #[.slice va (oneN N.places.toNat i).length vc, .slice (some ⟨(w2).heap.size, 0, none⟩) N.trans.length N.trans.length], .int .i64 0]) (by simp [results, Try.results81, go_sem, E3, E4]) rfl ?_
          exact RetCE.mk HC.out (((CaseO.mk_ (c := ⟨oneN N.places.toNat i, List.replicate N.trans.length 0⟩) I3 J3).set hbw _).set hbw _) hw0 (((gw.trans G3).setCell (by simp) _).setCell (by simp) _)
        · have hmk1 := (HMK.out wd).1
          have o3 := (HMK.out wd).2.1
          have g2 := (HMK.out wd).2.2.1
          clear HMK
          generalize mkw wd = w2 at hmk1 o3 g2
          go_simp
          clear hmk1
          have G2 : Gr w1 w2 := gd.trans g2
          (refine hK.out _ _ ?_ (fun hHeld => ?_); · (exact ⟨cell_gr A0 G2, cell_gr A1 G2⟩))
          clear hK K
          try simp only [Act.put, List.setIfInBounds_toArray, List.set_cons_zero, List.set_cons_succ]
          refine next2 (by kernel_rfl) (fun K hK => ?_)
          go_simp
          go_at_call 20
          refine (Start_calls _ N _ _ (hN'.gr (gw.trans G2)) hi).mono ?_
          rintro _ w3 ⟨v2, rfl, o2, g3⟩
          have I3 := o2.lower (base' := w1.heap.size) G2.le
          rw [HSL.out] at I3
          obtain ⟨va, vc, rfl, _, _⟩ := I3.ints.len
          have G3 : Gr w1 w3 := G2.trans g3
          (refine hK.out _ _ ?_ (fun hHeld => ?_); · (exact ⟨cell_gr A0 G3, cell_gr A1 G3⟩))
          clear hK K
          try simp only [Act.put, List.setIfInBounds_toArray, List.set_cons_zero, List.set_cons_succ]
          have J3 := (o3.lower gd.le).gr g3
          have c3 := b3.gr G3
          have c0 := b0.gr G3
          have D3 := c3.cell (i := 0) rfl
          have D4 := c3.cell (i := 1) rfl
          have F3 := c3.frozen 0
          have hc4 := c3.set 0 (.slice va (oneN N.places.toNat i).length vc)
          have F4 := hc4.frozen 1
          have D5 := hc4.cell (i := 1) rfl
          have hc5 := hc4.set 1 (.slice (some ⟨(wd).heap.size, 0, none⟩) N.trans.length N.trans.length)
          have E3 := hc5.cell (i := 0) rfl
          have E4 := hc5.cell (i := 1) rfl
          have A3 := ((c0.other (a := ⟨w.heap.size + 1, 0, none⟩) (by simp) (.slice va (oneN N.places.toNat i).length vc)).other (a := ⟨w.heap.size + 1, 1, none⟩) (by simp) (.slice (some ⟨(wd).heap.size, 0, none⟩) N.trans.length N.trans.length))
          have A4 := A3.cell (i := 0) rfl
          have A5 := A3.cell (i := 1) rfl
          (refine hold7 (v := ?_) (by kernel_rfl) (by kernel_rfl) (by kernel_rfl) (fun _ _ _ h => h) (by rfl) (fun w' hSw => ?_) (by assumption) ?_; rotate_left 1; · ((try dsimp only at hSw); (try go_simp); (try (with_reducible rfl))); (try simp only [Act.put, List.setIfInBounds_toArray, List.set_cons_zero, List.set_cons_succ]))
          refine next8 (by kernel_rfl) (fun K hK => ?_)
          go_simp
          (refine hK.out _ _ ?_ (fun hHeld => ?_); · (exact ⟨A4, A5⟩))
          clear hK K
          try simp only [Act.put, List.setIfInBounds_toArray, List.set_cons_zero, List.set_cons_succ]
          refine ends9 (by kernel_rfl) (fun K hK => ?_)
          go_simp
          refine hK.out _ _ ?_
          go_wp2_with fail
          refine bodyPost_ret (v := .tuple #[.agg #[.slice va (oneN N.places.toNat i).length vc, .slice (some ⟨(wd).heap.size, 0, none⟩) N.trans.length N.trans.length], .int .i64 0]) (by simp [results, Try.results81, go_sem, E3, E4]) rfl ?_
          exact RetCE.mk HC.out (((CaseO.mk_ (c := ⟨oneN N.places.toNat i, List.replicate N.trans.length 0⟩) I3 J3).set hbw _).set hbw _) hw0 (((gw.trans G3).setCell (by simp) _).setCell (by simp) _)
end Go.Proofs.Ytidpppfimkhgkaa
