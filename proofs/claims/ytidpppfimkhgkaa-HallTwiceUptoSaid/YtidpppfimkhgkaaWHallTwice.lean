/- The call HallTwice answers true at any net, place, roles, operations and numbers that read as data; nothing that lay there turns. -/
import Derived.Test.YtidpppfimkhgkaaAlive19
import Derived.Test.YtidpppfimkhgkaaTwoApp
import Derived.Deep.RegionHeld3
import Derived.Test.YtidpppfimkhgkaaNextP
namespace Go.Proofs.Ytidpppfimkhgkaa
open Go.RowKit Go.Tok
set_option linter.unusedVariables false
set_option linter.unusedSimpArgs false
theorem zero_opI : opI ⟨0, 0, 0, 0, 0⟩ := by unfold opI; decide
theorem lenA {ops : List HopD} {x : HopD} (h : ops.length ≤ 1048576) : ((ops ++ [x]).length + 1) * 56 ≤ 140737488355328 ∧ (ops ++ [x]).length + 1 ≤ maxLen ∧ ∀ y, ((ops ++ [x]) ++ [y]).length ≤ 2513169434916 := by
  have h1 : (ops ++ [x]).length = ops.length + 1 := by simp
  have h2 : ∀ y, ((ops ++ [x]) ++ [y]).length = ops.length + 1 + 1 := by simp
  refine ⟨by rw [h1]; omega, by rw [h1]; unfold maxLen; omega, fun y => by rw [h2]; omega⟩
set_option maxHeartbeats 4000000 in
set_option maxRecDepth 100000 in
theorem HallTwice_walk {v vr u : Value} {N : NetD} {i keep more : Int} {roles : List (List Int)} {ops : List HopD} (w : World) (hN : NetR w v N) (hi : I64 i) (hr0 : Rd rowK w vr roles ∧ roles.length ≤ 1048576) (hu0 : Rd hopK w u ops ∧ ops.length ≤ 1048576) (hke : I64 keep) (hmo : I64 more) :
    Calls Try.prog 7 #[v, .int .i64 i, vr, u, .int .i64 keep, .int .i64 more] w fun e w' => e = .returned (.bool true) ∧ Gr w w' := by
  obtain ⟨hr, _⟩ := hr0
  obtain ⟨hu, hul⟩ := hu0
  have hN' := hN
  obtain ⟨a, cap, rfl, hnl, hncap, hpl, hT⟩ := hN.open_
  have hpl1 := hpl.1
  have hpl2 := hpl.2
  obtain ⟨ua, uc, rfl, ul, ul'⟩ := hu.len
  obtain ⟨ra, rc, rfl, rl, rl'⟩ := hr.len
  obtain ⟨t1, t2⟩ := hall_twice (N := N) (i := i) (roles := roles) (ops := ops) keep more ⟨0, 0, 0, 0, 0⟩ ⟨0, 0, 0, 0, 0⟩
  rcases hp : hallPlay N i roles (ops ++ [⟨3, keep, ⟨0, 0, 0, 0, 0⟩⟩]) with ⟨⟨k, l⟩, e⟩
  rcases hq : hallPlay N i roles (ops ++ [⟨3, keep, ⟨0, 0, 0, 0, 0⟩⟩] ++ [⟨3, more, ⟨0, 0, 0, 0, 0⟩⟩]) with ⟨⟨k2, l2⟩, e2⟩
  rw [hp, hq] at t1 t2
  simp only [] at t1 t2
  subst t1 t2
  have HP := Lib.hid hp
  have HQ := Lib.hid hq
  clear hp hq
  go_enter Try.func7, Try.ntmps7
  go_wp2_with fail
  refine (alive19_calls _).mono ?_
  rintro _ w1 ⟨rfl, g1⟩
  have B0 := box_cell g1 (i := 0) rfl
  have B1 := box_cell g1 (i := 1) rfl
  have GW : Gr w w1 := ((Gr.refl w).alloc _).trans g1
  go_wp2_with fail
  refine (CloneHop_calls _ ops _ (hu.gr GW) (by omega)).mono ?_
  rintro _ w2 ⟨v2, rfl, o2, g2⟩
  have GE : Gr w2 (w2.alloc (.cells #[.int .i64 3, .int .i64 (keep), .int .i64 0, .int .i64 0, .int .i64 0, .int .i64 0, .int .i64 0] 61)) := (Gr.refl _).alloc _
  have o2E := o2.gr GE
  have hb2 : w1.heap.size ≤ (w2.alloc (.cells #[.int .i64 3, .int .i64 (keep), .int .i64 0, .int .i64 0, .int .i64 0, .int .i64 0, .int .i64 0] 61)).heap.size := (g2.trans GE).le
  have hn1 : (ops.length + 1) * 56 ≤ 140737488355328 := by omega
  have hn2 : ops.length + 1 ≤ maxLen := by unfold maxLen; omega
  go_wp2_with (at_builtin; go_loud (refine app_one hopTy _ _ w1.heap.size NoB v2 ops ⟨w2.heap.size, 0, none⟩ ⟨3, keep, ⟨0, 0, 0, 0, 0⟩⟩ [.int .i64 3, .int .i64 keep, .int .i64 0, .int .i64 0, .int .i64 0, .int .i64 0, .int .i64 0] (by rfl) (by rfl) (by rfl) (by rfl) o2E (lit_cells _ _ _) (On.true (p := [Value.int .i64 3, .int .i64 keep, .int .i64 0, .int .i64 0, .int .i64 0, .int .i64 0, .int .i64 0] = hopCells ⟨3, keep, ⟨0, 0, 0, 0, 0⟩⟩ ∧ hopI ⟨3, keep, ⟨0, 0, 0, 0, 0⟩⟩) ⟨rfl, (by decide : I64 3), hke, zero_opI⟩) hn1 hn2 hb2 ?_; intro v3 w3 o3 hgs3 hgb3 hat3; obtain ⟨a3, c3, hv3, hl3, hl3'⟩ := o3.len; rw [List.length_append] at hv3; simp only [List.length_singleton] at hv3; subst hv3; have G3 := hgs3 w1 (Nat.le_refl _) (g2.trans GE); have E0 := cell_gr B0 G3; have E1 := cell_gr B1 G3))
  refine (HallPlay2_calls _ _ _ N i roles (ops ++ [⟨3, keep, ⟨0, 0, 0, 0, 0⟩⟩]) _ (hN'.gr (GW.trans G3)) hi (hr.gr (GW.trans G3)) o3.rd (by rw [List.length_append]; simp only [List.length_singleton]; omega)).mono ?_
  rw [HP.out]; rintro _ w4 ⟨v4, u4, rfl, i4, j4, g4⟩
  simp only [] at i4 j4
  obtain ⟨ma, mn, ba, bn, ia, jn, rfl, -⟩ := i4.now.open_
  obtain ⟨la, lc, rfl, -, -⟩ := j4.now.len
  have GD : Gr w4 (w4.alloc (.cells #[.slice ma k2.case.mark.length mn, .slice ba k2.case.busy.length bn, .slice ia k2.items.length jn] 66)) := (Gr.refl _).alloc _
  have bD : Blk (w4.alloc (.cells #[.slice ma k2.case.mark.length mn, .slice ba k2.case.busy.length bn, .slice ia k2.items.length jn] 66)) w4.heap.size 66 #[.slice ma k2.case.mark.length mn, .slice ba k2.case.busy.length bn, .slice ia k2.items.length jn] := Blk.new rfl
  have oD := (o3.gr g4).gr GD
  have GX1 := G3.trans (g4.trans GD)
  have iD := (i4.mono (S' := fun b => w3.heap.size ≤ b ∧ b < w4.heap.size) (fun b hb h => ⟨h, hb⟩)).gr GD
  have hw3 : w3.heap.size ≤ w4.heap.size := g4.le
  have hwD : (w4.alloc (.cells #[.slice ma k2.case.mark.length mn, .slice ba k2.case.busy.length bn, .slice ia k2.items.length jn] 66)).heap.size = w4.heap.size + 1 := by simp
  have HO3 := Lib.hid (fun q (hq : (Value.slice a3 (ops.length + 1) c3).ownBlock = some q) => (o3.lt hq).2)
  have HNB := Lib.hid (show some w4.heap.size ≠ (Value.slice a3 (ops.length + 1) c3).ownBlock from fun e => by have := HO3.out _ e.symm; omega)
  have HNS := Lib.hid (show ∀ b, (w3.heap.size ≤ b ∧ b < w4.heap.size) → some b ≠ (Value.slice a3 (ops.length + 1) c3).ownBlock from fun b hb e => by have := HO3.out _ e.symm; omega)
  obtain ⟨hn3, hn4, hn5'⟩ := lenA (x := ⟨3, keep, ⟨0, 0, 0, 0, 0⟩⟩) hul
  have hn5 := hn5' ⟨3, more, ⟨0, 0, 0, 0, 0⟩⟩
  have C0 : w1.cell? ⟨w.heap.size, 0, none⟩ = some (.int .i64 N.places) := B0
  have C1 : w1.cell? ⟨w.heap.size, 1, none⟩ = some (.slice a N.trans.length cap) := B1
  clear g1 g2 GE o2E o2 hn1 hn2 hgs3 hgb3 hat3 o3 j4 i4 hn5'
  have K0 := cell_gr C0 GX1
  have K1 := cell_gr C1 GX1
  go_wp2_with fail
  generalize w4.alloc (.cells #[.slice ma k2.case.mark.length mn, .slice ba k2.case.busy.length bn, .slice ia k2.items.length jn] 66) = wD at GD bD oD GX1 iD hwD K0 K1 ⊢
  have HWD := Lib.hid hwD
  have HN0 := Lib.hid (show some wD.heap.size ≠ (Value.slice a3 (ops.length + 1) c3).ownBlock from fun e => by have := HO3.out _ e.symm; omega)
  have HN1 := Lib.hid (show some (wD.heap.size + 1) ≠ (Value.slice a3 (ops.length + 1) c3).ownBlock from fun e => by have := HO3.out _ e.symm; omega)
  have HKN := Lib.hid (hN'.gr GW)
  clear hwD hw3
  have HKR := Lib.hid (hr.gr GW)
  have HGW := Lib.hid GW
  have hwle := GX1.le
  have hww : w.heap.size < w1.heap.size := cell_block C0
  clear hN hN' hT hr hu GW GD G3 g4 K0 K1 B0 B1 E0 E1
  refine wp_region_held_drew (S := fun w' => w'.cell? ⟨w.heap.size, 0, none⟩ = some (.int .i64 N.places) ∧ w'.cell? ⟨w.heap.size, 1, none⟩ = some (.slice a N.trans.length cap)) (by kernel_rfl) ⟨cell_gr C0 (by (repeat (first | exact Gr.refl _ | assumption | apply Gr.alloc | apply Gr.drew | (refine Gr.setCell ?_ (by simp; try omega) _) | refine Gr.trans ?_ (by assumption)))), cell_gr C1 (by (repeat (first | exact Gr.refl _ | assumption | apply Gr.alloc | apply Gr.drew | (refine Gr.setCell ?_ (by simp; try omega) _) | refine Gr.trans ?_ (by assumption))))⟩ (fun hHeld => ?_)
  (refine hold0 (v := ?_) (by kernel_rfl) (by kernel_rfl) (by kernel_rfl) (fun _ _ _ h => h) (by rfl) (fun w' hSw => ?_) (by assumption) ?_; rotate_left 1; · ((try dsimp only at hSw); (try go_simp); (try (with_reducible rfl))); (try simp only [Act.put, List.setIfInBounds_toArray, List.set_cons_zero, List.set_cons_succ]))
  (refine hold1 (v := ?_) (by kernel_rfl) (by kernel_rfl) (by kernel_rfl) (fun _ _ _ h => h) (by rfl) (fun w' hSw => ?_) (by assumption) ?_; rotate_left 1; · ((try dsimp only at hSw); (try go_simp); (try (with_reducible rfl))); (try simp only [Act.put, List.setIfInBounds_toArray, List.set_cons_zero, List.set_cons_succ]))
  (refine hold2 (v := ?_) (by kernel_rfl) (by kernel_rfl) (by kernel_rfl) (fun _ _ _ h => h) (by rfl) (fun w' hSw => ?_) (by assumption) ?_; rotate_left 1; · ((try dsimp only at hSw); (try go_simp); (try (with_reducible rfl))); (try simp only [Act.put, List.setIfInBounds_toArray, List.set_cons_zero, List.set_cons_succ]))
  (refine hold3 (v := ?_) (by kernel_rfl) (by kernel_rfl) (by kernel_rfl) (fun _ _ _ h => h) (by rfl) (fun w' hSw => ?_) (by assumption) ?_; rotate_left 1; · ((try dsimp only at hSw); (try go_simp); (try (with_reducible rfl))); (try simp only [Act.put, List.setIfInBounds_toArray, List.set_cons_zero, List.set_cons_succ]))
  (refine hold4 (v := ?_) (by kernel_rfl) (by kernel_rfl) (by kernel_rfl) (fun _ _ _ h => h) (by rfl) (fun w' hSw => ?_) (by assumption) ?_; rotate_left 1; · ((try dsimp only at hSw); (try go_simp); (try (with_reducible rfl))); (try simp only [Act.put, List.setIfInBounds_toArray, List.set_cons_zero, List.set_cons_succ]))
  (refine hold5 (v := ?_) (by kernel_rfl) (by kernel_rfl) (by kernel_rfl) (fun _ _ _ h => h) (by rfl) (fun w' hSw => ?_) (by assumption) ?_; rotate_left 1; · ((try dsimp only at hSw); (try go_simp); (try (with_reducible rfl))); (try simp only [Act.put, List.setIfInBounds_toArray, List.set_cons_zero, List.set_cons_succ]))
  refine next6p13 (by kernel_rfl) (fun K hK => ?_) (fun K hK => ?_)
  · skip
    go_simp
    (refine hK.out _ _ ?_ (fun hHeld => ?_); · (exact ⟨cell_gr C0 (by (repeat (first | exact Gr.refl _ | assumption | apply Gr.alloc | apply Gr.drew | (refine Gr.setCell ?_ (by simp; try omega) _) | refine Gr.trans ?_ (by assumption)))), cell_gr C1 (by (repeat (first | exact Gr.refl _ | assumption | apply Gr.alloc | apply Gr.drew | (refine Gr.setCell ?_ (by simp; try omega) _) | refine Gr.trans ?_ (by assumption))))⟩))
    clear hK K
    try simp only [Act.put, List.setIfInBounds_toArray, List.set_cons_zero, List.set_cons_succ]
    refine next7p13 (by kernel_rfl) (fun K hK => ?_) (fun K hK => ?_)
    · skip
      refine step_app_one hopTy ?_ (.tmp 41) (.tmp 44) ?_ w1.heap.size NoB (.slice a3 (ops.length + 1) c3) (ops ++ [⟨3, keep, ⟨0, 0, 0, 0, 0⟩⟩]) ⟨wD.heap.size, 0, none⟩ ⟨3, more, ⟨0, 0, 0, 0, 0⟩⟩ [.int .i64 3, .int .i64 more, .int .i64 0, .int .i64 0, .int .i64 0, .int .i64 0, .int .i64 0] ?_ ?_ ?_ ?_ ?_ ?_ ?_ ?_ ?_
      · rfl
      · rfl
      · rfl
      · rfl
      · exact oD.gr (by (repeat (first | exact Gr.refl _ | assumption | apply Gr.alloc | apply Gr.drew | (refine Gr.setCell ?_ (by simp; try omega) _) | refine Gr.trans ?_ (by assumption))))
      · (first | exact lit_cellsH rfl | exact lit_cellsH (World.size_alloc _ _) | exact lit_gr ((Gr.refl _).drew) rfl | exact lit_gr ((Gr.refl _).drew) (World.size_alloc _ _) | exact lit_gr ((Gr.refl _).alloc _) rfl | exact lit_gr ((Gr.refl _).alloc _) (World.size_alloc _ _) | exact lit_gr (((Gr.refl _).alloc _).drew) rfl | exact lit_gr (((Gr.refl _).alloc _).drew) (World.size_alloc _ _))
      · exact On.true (p := [Value.int .i64 3, .int .i64 more, .int .i64 0, .int .i64 0, .int .i64 0, .int .i64 0, .int .i64 0] = hopCells ⟨3, more, ⟨0, 0, 0, 0, 0⟩⟩ ∧ hopI ⟨3, more, ⟨0, 0, 0, 0, 0⟩⟩) ⟨rfl, (by decide : I64 3), hmo, zero_opI⟩
      · exact hn3
      · exact hn4
      · exact Gr.le (GX1.trans (by (repeat (first | exact Gr.refl _ | assumption | apply Gr.alloc | apply Gr.drew | (refine Gr.setCell ?_ (by simp; try omega) _) | refine Gr.trans ?_ (by assumption)))))
      intro g cp w6 o6 hgs6 hgb6 hat6 hlt6
      have G6 : Gr w1 w6 := hgs6 w1 (Nat.le_refl _) (GX1.trans (by (repeat (first | exact Gr.refl _ | assumption | apply Gr.alloc | apply Gr.drew | (refine Gr.setCell ?_ (by simp; try omega) _) | refine Gr.trans ?_ (by assumption)))))
      have hs6 := hgb6.size
      have GC : Gr wD ((wD.alloc (.cells #[.int .i64 3, .int .i64 more, .int .i64 0, .int .i64 0, .int .i64 0, .int .i64 0, .int .i64 0] 61)).drew) := by (repeat (first | exact Gr.refl _ | assumption | apply Gr.alloc | apply Gr.drew | (refine Gr.setCell ?_ (by simp; try omega) _) | refine Gr.trans ?_ (by assumption)))
      have iD6 := (iD.gr GC).kp (grown_kp hgb6 HNS.out)
      have bD6 := (bD.gr GC).grown hgb6 HNB.out
      have hsD : wD.heap.size ≤ w6.heap.size := Nat.le_trans GC.le hs6
      clear hgs6 hat6 GC hs6
      (refine hK.out _ _ ?_ (fun hHeld => ?_); · (exact ⟨cell_gr C0 (by (repeat (first | exact Gr.refl _ | assumption | apply Gr.alloc | apply Gr.drew | (refine Gr.setCell ?_ (by simp; try omega) _) | refine Gr.trans ?_ (by assumption)))), cell_gr C1 (by (repeat (first | exact Gr.refl _ | assumption | apply Gr.alloc | apply Gr.drew | (refine Gr.setCell ?_ (by simp; try omega) _) | refine Gr.trans ?_ (by assumption))))⟩))
      clear hK K
      try simp only [Act.put, List.setIfInBounds_toArray, List.set_cons_zero, List.set_cons_succ]
      refine next8p13 (by kernel_rfl) (fun K hK => ?_) (fun K hK => ?_)
      · skip
        go_simp
        go_at_call 31
        have KN := HKN.out.gr G6
        have KR := HKR.out.gr G6
        have hlz : (ops ++ [(⟨3, keep, ⟨0, 0, 0, 0, 0⟩⟩ : HopD)]).length = ops.length + 1 := by rw [List.length_append]; rfl
        have KO := OwnR.rd o6
        rw [hlz] at KO
        clear hlz
        clear o6
        (with_reducible refine (HallPlay2_calls _ _ _ N i roles (ops ++ [⟨3, keep, ⟨0, 0, 0, 0, 0⟩⟩] ++ [⟨3, more, ⟨0, 0, 0, 0, 0⟩⟩]) _ (KN.gr ?_) hi (KR.gr ?_) (KO.gr ?_) hn5).mono ?_)
        · (repeat (first | exact Gr.refl _ | assumption | apply Gr.alloc | apply Gr.drew | (refine Gr.setCell ?_ (by simp; try omega) _) | refine Gr.trans ?_ (by assumption)))
        · (repeat (first | exact Gr.refl _ | assumption | apply Gr.alloc | apply Gr.drew | (refine Gr.setCell ?_ (by simp; try omega) _) | refine Gr.trans ?_ (by assumption)))
        · (repeat (first | exact Gr.refl _ | assumption | apply Gr.alloc | apply Gr.drew | (refine Gr.setCell ?_ (by simp; try omega) _) | refine Gr.trans ?_ (by assumption)))
        rw [HQ.out]; rintro _ w7 ⟨v7, u7, rfl, i7, j7, g7⟩
        simp only [] at i7 j7
        obtain ⟨na, mn7, nb, bn7, nc, jn7, rfl, -⟩ := i7.now.open_
        obtain ⟨la7, lc7, rfl, -, -⟩ := j7.now.len
        have hw7 := g7.le
        (refine hK.out _ _ ?_ (fun hHeld => ?_); · (exact ⟨cell_gr C0 (by (repeat (first | exact Gr.refl _ | assumption | apply Gr.alloc | apply Gr.drew | (refine Gr.setCell ?_ (by simp; try omega) _) | refine Gr.trans ?_ (by assumption)))), cell_gr C1 (by (repeat (first | exact Gr.refl _ | assumption | apply Gr.alloc | apply Gr.drew | (refine Gr.setCell ?_ (by simp; try omega) _) | refine Gr.trans ?_ (by assumption))))⟩))
        clear hK K
        try simp only [Act.put, List.setIfInBounds_toArray, List.set_cons_zero, List.set_cons_succ]
        (refine hold9 (v := ?_) (by kernel_rfl) (by kernel_rfl) (by kernel_rfl) (fun _ _ _ h => h) (by rfl) (fun w' hSw => ?_) (by assumption) ?_; rotate_left 1; · ((try dsimp only at hSw); (try go_simp); (try (with_reducible rfl))); (try simp only [Act.put, List.setIfInBounds_toArray, List.set_cons_zero, List.set_cons_succ]))
        (refine hold10 (v := ?_) (by kernel_rfl) (by kernel_rfl) (by kernel_rfl) (fun _ _ _ h => h) (by rfl) (fun w' hSw => ?_) (by assumption) ?_; rotate_left 1; · ((try dsimp only at hSw); (try go_simp); (try (with_reducible rfl))); (try simp only [Act.put, List.setIfInBounds_toArray, List.set_cons_zero, List.set_cons_succ]))
        (refine hold11 (v := ?_) (by kernel_rfl) (by kernel_rfl) (by kernel_rfl) (fun _ _ _ h => h) (by rfl) (fun w' hSw => ?_) (by assumption) ?_; rotate_left 1; · ((try dsimp only at hSw); (try go_simp); (try (with_reducible rfl))); (try simp only [Act.put, List.setIfInBounds_toArray, List.set_cons_zero, List.set_cons_succ]))
        (refine hold12 (v := ?_) (by kernel_rfl) (by kernel_rfl) (by kernel_rfl) (fun _ _ _ h => h) (by rfl) (fun w' hSw => ?_) (by assumption) ?_; rotate_left 1; · ((try dsimp only at hSw); (try go_simp); (try (with_reducible rfl))); (try simp only [Act.put, List.setIfInBounds_toArray, List.set_cons_zero, List.set_cons_succ]))
        refine next13 (by kernel_rfl) (fun K hK => ?_)
        go_simp
        (refine hK.out _ _ ?_ (fun hHeld => ?_); · (exact ⟨cell_gr C0 (by (repeat (first | exact Gr.refl _ | assumption | apply Gr.alloc | apply Gr.drew | (refine Gr.setCell ?_ (by simp; try omega) _) | refine Gr.trans ?_ (by assumption)))), cell_gr C1 (by (repeat (first | exact Gr.refl _ | assumption | apply Gr.alloc | apply Gr.drew | (refine Gr.setCell ?_ (by simp; try omega) _) | refine Gr.trans ?_ (by assumption))))⟩))
        clear hK K
        try simp only [Act.put, List.setIfInBounds_toArray, List.set_cons_zero, List.set_cons_succ]
        have bs : Blk (w7.alloc (.cells #[.slice none 0 0, .slice none 0 0, .slice none 0 0] 66)) w7.heap.size 66 #[.slice none 0 0, .slice none 0 0, .slice none 0 0] := Blk.new rfl
        have S0 := bs.cell (i := 0) (v := .slice none 0 0) rfl
        have SF0 := bs.frozen 0
        have bs1 := bs.set 0 (.slice na k2.case.mark.length mn7)
        have S1 := bs1.cell (i := 1) (v := .slice none 0 0) rfl
        have SF1 := bs1.frozen 1
        have bs2 := bs1.set 1 (.slice nb k2.case.busy.length bn7)
        have S2 := bs2.cell (i := 2) (v := .slice none 0 0) rfl
        have SF2 := bs2.frozen 2
        have bs3 := bs2.set 2 (.slice nc k2.items.length jn7)
        refine next14 (by kernel_rfl) (fun K hK => ?_)
        go_simp
        (refine hK.out _ _ ?_ (fun hHeld => ?_); · (exact ⟨cell_gr C0 (by (repeat (first | exact Gr.refl _ | assumption | apply Gr.alloc | apply Gr.drew | (refine Gr.setCell ?_ (by simp; try omega) _) | refine Gr.trans ?_ (by assumption)))), cell_gr C1 (by (repeat (first | exact Gr.refl _ | assumption | apply Gr.alloc | apply Gr.drew | (refine Gr.setCell ?_ (by simp; try omega) _) | refine Gr.trans ?_ (by assumption))))⟩))
        clear hK K
        try simp only [Act.put, List.setIfInBounds_toArray, List.set_cons_zero, List.set_cons_succ]
        (refine hold15 (v := ?_) (by kernel_rfl) (by kernel_rfl) (by kernel_rfl) (fun _ _ _ h => h) (by rfl) (fun w' hSw => ?_) (by assumption) ?_; rotate_left 1; · ((try dsimp only at hSw); (try go_simp); (try (with_reducible rfl))); (try simp only [Act.put, List.setIfInBounds_toArray, List.set_cons_zero, List.set_cons_succ]))
        (refine hold16 (v := ?_) (by kernel_rfl) (by kernel_rfl) (by kernel_rfl) (fun _ _ _ h => h) (by rfl) (fun w' hSw => ?_) (by assumption) ?_; rotate_left 1; · ((try dsimp only at hSw); (try go_simp); (try (with_reducible rfl))); (try simp only [Act.put, List.setIfInBounds_toArray, List.set_cons_zero, List.set_cons_succ]))
        refine wpAnyH_done (by kernel_rfl) ?_ _
        have bF : Blk (w7.alloc (.cells #[.slice na k2.case.mark.length mn7, .slice nb k2.case.busy.length bn7, .slice nc k2.items.length jn7] 66)) w7.heap.size 66 #[.slice na k2.case.mark.length mn7, .slice nb k2.case.busy.length bn7, .slice nc k2.items.length jn7] := Blk.new rfl
        have GL : Gr w7 (w7.alloc (.cells #[.slice na k2.case.mark.length mn7, .slice nb k2.case.busy.length bn7, .slice nc k2.items.length jn7] 66)) := (Gr.refl _).alloc _
        have iF := ((iD6.gr g7).gr GL).now
        have jF := (i7.gr GL).now
        have bDF := (bD6.gr g7).gr GL
        have GF := ((HGW.out.trans G6).trans g7).trans GL
        have T0 := bDF.cell (i := 0) (v := .slice ma k2.case.mark.length mn) rfl
        have T1 := bDF.cell (i := 1) (v := .slice ba k2.case.busy.length bn) rfl
        have T2 := bDF.cell (i := 2) (v := .slice ia k2.items.length jn) rfl
        have U0 := bF.cell (i := 0) (v := .slice na k2.case.mark.length mn7) rfl
        have U1 := bF.cell (i := 1) (v := .slice nb k2.case.busy.length bn7) rfl
        have U2 := bF.cell (i := 2) (v := .slice nc k2.items.length jn7) rfl
        have HIF := Lib.hid iF
        have HJF := Lib.hid jF
        have HGF := Lib.hid GF
        clear bDF bF iF jF GF
        go_wp2_with fail
        refine (SameDesk_self _ _ k2 _ HIF.out HJF.out).mono ?_
        rintro _ w9 ⟨rfl, g9⟩
        go_wp2_with fail
        go_ret
        exact ⟨rfl, HGF.out.trans g9⟩
      · skip
        go_simp
        (refine hK.out _ _ ?_ (fun hHeld => ?_); · (exact ⟨cell_gr C0 (by (repeat (first | exact Gr.refl _ | assumption | apply Gr.alloc | apply Gr.drew | (refine Gr.setCell ?_ (by simp; try omega) _) | refine Gr.trans ?_ (by assumption)))), cell_gr C1 (by (repeat (first | exact Gr.refl _ | assumption | apply Gr.alloc | apply Gr.drew | (refine Gr.setCell ?_ (by simp; try omega) _) | refine Gr.trans ?_ (by assumption))))⟩))
        clear hK K
        try simp only [Act.put, List.setIfInBounds_toArray, List.set_cons_zero, List.set_cons_succ]
        have bX : Blk (w6.alloc (.cells #[.slice none 0 0, .slice none 0 0, .slice none 0 0] 66)) w6.heap.size 66 #[.slice none 0 0, .slice none 0 0, .slice none 0 0] := Blk.new rfl
        refine next8 (by kernel_rfl) (fun K hK => ?_)
        go_simp
        go_at_call 31
        have KN := HKN.out.gr G6
        have KR := HKR.out.gr G6
        have hlz : (ops ++ [(⟨3, keep, ⟨0, 0, 0, 0, 0⟩⟩ : HopD)]).length = ops.length + 1 := by rw [List.length_append]; rfl
        have KO := OwnR.rd o6
        rw [hlz] at KO
        clear hlz
        clear o6
        (with_reducible refine (HallPlay2_calls _ _ _ N i roles (ops ++ [⟨3, keep, ⟨0, 0, 0, 0, 0⟩⟩] ++ [⟨3, more, ⟨0, 0, 0, 0, 0⟩⟩]) _ (KN.gr ?_) hi (KR.gr ?_) (KO.gr ?_) hn5).mono ?_)
        · (repeat (first | exact Gr.refl _ | assumption | apply Gr.alloc | apply Gr.drew | (refine Gr.setCell ?_ (by simp; try omega) _) | refine Gr.trans ?_ (by assumption)))
        · (repeat (first | exact Gr.refl _ | assumption | apply Gr.alloc | apply Gr.drew | (refine Gr.setCell ?_ (by simp; try omega) _) | refine Gr.trans ?_ (by assumption)))
        · (repeat (first | exact Gr.refl _ | assumption | apply Gr.alloc | apply Gr.drew | (refine Gr.setCell ?_ (by simp; try omega) _) | refine Gr.trans ?_ (by assumption)))
        rw [HQ.out]; rintro _ w7 ⟨v7, u7, rfl, i7, j7, g7⟩
        simp only [] at i7 j7
        obtain ⟨na, mn7, nb, bn7, nc, jn7, rfl, -⟩ := i7.now.open_
        obtain ⟨la7, lc7, rfl, -, -⟩ := j7.now.len
        have hw7 := g7.le
        have bs := bX.gr g7
        have S0 := bs.cell (i := 0) (v := .slice none 0 0) rfl
        have SF0 := bs.frozen 0
        have bs1 := bs.set 0 (.slice na k2.case.mark.length mn7)
        have S1 := bs1.cell (i := 1) (v := .slice none 0 0) rfl
        have SF1 := bs1.frozen 1
        have bs2 := bs1.set 1 (.slice nb k2.case.busy.length bn7)
        have S2 := bs2.cell (i := 2) (v := .slice none 0 0) rfl
        have SF2 := bs2.frozen 2
        have bs3 := bs2.set 2 (.slice nc k2.items.length jn7)
        (refine hK.out _ _ ?_ (fun hHeld => ?_); · (exact ⟨cell_gr C0 (by (repeat (first | exact Gr.refl _ | assumption | apply Gr.alloc | apply Gr.drew | (refine Gr.setCell ?_ (by simp; try omega) _) | refine Gr.trans ?_ (by assumption)))), cell_gr C1 (by (repeat (first | exact Gr.refl _ | assumption | apply Gr.alloc | apply Gr.drew | (refine Gr.setCell ?_ (by simp; try omega) _) | refine Gr.trans ?_ (by assumption))))⟩))
        clear hK K
        try simp only [Act.put, List.setIfInBounds_toArray, List.set_cons_zero, List.set_cons_succ]
        (refine hold9 (v := ?_) (by kernel_rfl) (by kernel_rfl) (by kernel_rfl) (fun _ _ _ h => h) (by rfl) (fun w' hSw => ?_) (by assumption) ?_; rotate_left 1; · ((try dsimp only at hSw); (try go_simp); (try (with_reducible rfl))); (try simp only [Act.put, List.setIfInBounds_toArray, List.set_cons_zero, List.set_cons_succ]))
        (refine hold10 (v := ?_) (by kernel_rfl) (by kernel_rfl) (by kernel_rfl) (fun _ _ _ h => h) (by rfl) (fun w' hSw => ?_) (by assumption) ?_; rotate_left 1; · ((try dsimp only at hSw); (try go_simp); (try (with_reducible rfl))); (try simp only [Act.put, List.setIfInBounds_toArray, List.set_cons_zero, List.set_cons_succ]))
        (refine hold11 (v := ?_) (by kernel_rfl) (by kernel_rfl) (by kernel_rfl) (fun _ _ _ h => h) (by rfl) (fun w' hSw => ?_) (by assumption) ?_; rotate_left 1; · ((try dsimp only at hSw); (try go_simp); (try (with_reducible rfl))); (try simp only [Act.put, List.setIfInBounds_toArray, List.set_cons_zero, List.set_cons_succ]))
        (refine hold12 (v := ?_) (by kernel_rfl) (by kernel_rfl) (by kernel_rfl) (fun _ _ _ h => h) (by rfl) (fun w' hSw => ?_) (by assumption) ?_; rotate_left 1; · ((try dsimp only at hSw); (try go_simp); (try (with_reducible rfl))); (try simp only [Act.put, List.setIfInBounds_toArray, List.set_cons_zero, List.set_cons_succ]))
        have HEN : w6.heap.size < (w6.alloc (.cells #[.slice none 0 0, .slice none 0 0, .slice none 0 0] 66)).heap.size := by simp
        refine next14 (by kernel_rfl) (fun K hK => ?_)
        go_simp
        (refine hK.out _ _ ?_ (fun hHeld => ?_); · (exact ⟨cell_gr C0 (by (repeat (first | exact Gr.refl _ | assumption | apply Gr.alloc | apply Gr.drew | (refine Gr.setCell ?_ (by simp; try omega) _) | refine Gr.trans ?_ (by assumption)))), cell_gr C1 (by (repeat (first | exact Gr.refl _ | assumption | apply Gr.alloc | apply Gr.drew | (refine Gr.setCell ?_ (by simp; try omega) _) | refine Gr.trans ?_ (by assumption))))⟩))
        clear hK K
        try simp only [Act.put, List.setIfInBounds_toArray, List.set_cons_zero, List.set_cons_succ]
        (refine hold15 (v := ?_) (by kernel_rfl) (by kernel_rfl) (by kernel_rfl) (fun _ _ _ h => h) (by rfl) (fun w' hSw => ?_) (by assumption) ?_; rotate_left 1; · ((try dsimp only at hSw); (try go_simp); (try (with_reducible rfl))); (try simp only [Act.put, List.setIfInBounds_toArray, List.set_cons_zero, List.set_cons_succ]))
        (refine hold16 (v := ?_) (by kernel_rfl) (by kernel_rfl) (by kernel_rfl) (fun _ _ _ h => h) (by rfl) (fun w' hSw => ?_) (by assumption) ?_; rotate_left 1; · ((try dsimp only at hSw); (try go_simp); (try (with_reducible rfl))); (try simp only [Act.put, List.setIfInBounds_toArray, List.set_cons_zero, List.set_cons_succ]))
        refine wpAnyH_done (by kernel_rfl) ?_ _
        have hwd := HWD.out
        have hne : ∀ j : Nat, ¬ ((fun b => w3.heap.size ≤ b ∧ b < w4.heap.size) (⟨w6.heap.size, j, none⟩ : Addr).block) := fun j h => by have h2 := h.2; simp at h2; omega
        have hne7 : ∀ j : Nat, ¬ ((fun b => (w6.alloc (.cells #[.slice none 0 0, .slice none 0 0, .slice none 0 0] 66)).heap.size ≤ b) (⟨w6.heap.size, j, none⟩ : Addr).block) := fun j h => by simp at h; omega
        have bF := bs3
        have iF := ((iD6.gr (((Gr.refl _).alloc _).trans g7)).kp (((set_kp (a := ⟨w6.heap.size, 0, none⟩) (hne 0) _).trans (set_kp (a := ⟨w6.heap.size, 1, none⟩) (hne 1) _)).trans (set_kp (a := ⟨w6.heap.size, 2, none⟩) (hne 2) _))).now (w := ((w7.setCell ⟨w6.heap.size, 0, none⟩ (.slice na k2.case.mark.length mn7)).setCell ⟨w6.heap.size, 1, none⟩ (.slice nb k2.case.busy.length bn7)).setCell ⟨w6.heap.size, 2, none⟩ (.slice nc k2.items.length jn7))
        have jF := (i7.kp (((set_kp (a := ⟨w6.heap.size, 0, none⟩) (hne7 0) _).trans (set_kp (a := ⟨w6.heap.size, 1, none⟩) (hne7 1) _)).trans (set_kp (a := ⟨w6.heap.size, 2, none⟩) (hne7 2) _))).now (w := ((w7.setCell ⟨w6.heap.size, 0, none⟩ (.slice na k2.case.mark.length mn7)).setCell ⟨w6.heap.size, 1, none⟩ (.slice nb k2.case.busy.length bn7)).setCell ⟨w6.heap.size, 2, none⟩ (.slice nc k2.items.length jn7))
        have hd1 : w4.heap.size ≠ w6.heap.size := by omega
        have bDF := (((bD6.gr (((Gr.refl _).alloc _).trans g7)).other (a := ⟨w6.heap.size, 0, none⟩) (by simpa using hd1) (.slice na k2.case.mark.length mn7)).other (a := ⟨w6.heap.size, 1, none⟩) (by simpa using hd1) (.slice nb k2.case.busy.length bn7)).other (a := ⟨w6.heap.size, 2, none⟩) (by simpa using hd1) (.slice nc k2.items.length jn7)
        have GF : Gr w (((w7.setCell ⟨w6.heap.size, 0, none⟩ (.slice na k2.case.mark.length mn7)).setCell ⟨w6.heap.size, 1, none⟩ (.slice nb k2.case.busy.length bn7)).setCell ⟨w6.heap.size, 2, none⟩ (.slice nc k2.items.length jn7)) := ((((HGW.out.trans G6).trans (((Gr.refl _).alloc _).trans g7)).setCell (by simp; omega) _).setCell (by simp; omega) _).setCell (by simp; omega) _
        clear hwd hd1 hne hne7
        have T0 := bDF.cell (i := 0) (v := .slice ma k2.case.mark.length mn) rfl
        have T1 := bDF.cell (i := 1) (v := .slice ba k2.case.busy.length bn) rfl
        have T2 := bDF.cell (i := 2) (v := .slice ia k2.items.length jn) rfl
        have U0 := bF.cell (i := 0) (v := .slice na k2.case.mark.length mn7) rfl
        have U1 := bF.cell (i := 1) (v := .slice nb k2.case.busy.length bn7) rfl
        have U2 := bF.cell (i := 2) (v := .slice nc k2.items.length jn7) rfl
        have HIF := Lib.hid iF
        have HJF := Lib.hid jF
        have HGF := Lib.hid GF
        clear bDF bF iF jF GF
        go_wp2_with fail
        refine (SameDesk_self _ _ k2 _ HIF.out HJF.out).mono ?_
        rintro _ w9 ⟨rfl, g9⟩
        go_wp2_with fail
        go_ret
        exact ⟨rfl, HGF.out.trans g9⟩
    · skip
      go_simp
      (refine hK.out _ _ ?_ (fun hHeld => ?_); · (exact ⟨cell_gr C0 (by (repeat (first | exact Gr.refl _ | assumption | apply Gr.alloc | apply Gr.drew | (refine Gr.setCell ?_ (by simp; try omega) _) | refine Gr.trans ?_ (by assumption)))), cell_gr C1 (by (repeat (first | exact Gr.refl _ | assumption | apply Gr.alloc | apply Gr.drew | (refine Gr.setCell ?_ (by simp; try omega) _) | refine Gr.trans ?_ (by assumption))))⟩))
      clear hK K
      try simp only [Act.put, List.setIfInBounds_toArray, List.set_cons_zero, List.set_cons_succ]
      refine next7 (by kernel_rfl) (fun K hK => ?_)
      refine step_app_one hopTy ?_ (.tmp 41) (.tmp 44) ?_ w1.heap.size NoB (.slice a3 (ops.length + 1) c3) (ops ++ [⟨3, keep, ⟨0, 0, 0, 0, 0⟩⟩]) ⟨wD.heap.size, 0, none⟩ ⟨3, more, ⟨0, 0, 0, 0, 0⟩⟩ [.int .i64 3, .int .i64 more, .int .i64 0, .int .i64 0, .int .i64 0, .int .i64 0, .int .i64 0] ?_ ?_ ?_ ?_ ?_ ?_ ?_ ?_ ?_
      · rfl
      · rfl
      · rfl
      · rfl
      · exact oD.gr (by (repeat (first | exact Gr.refl _ | assumption | apply Gr.alloc | apply Gr.drew | (refine Gr.setCell ?_ (by simp; try omega) _) | refine Gr.trans ?_ (by assumption))))
      · (first | exact lit_cellsH rfl | exact lit_cellsH (World.size_alloc _ _) | exact lit_gr ((Gr.refl _).drew) rfl | exact lit_gr ((Gr.refl _).drew) (World.size_alloc _ _) | exact lit_gr ((Gr.refl _).alloc _) rfl | exact lit_gr ((Gr.refl _).alloc _) (World.size_alloc _ _) | exact lit_gr (((Gr.refl _).alloc _).drew) rfl | exact lit_gr (((Gr.refl _).alloc _).drew) (World.size_alloc _ _))
      · exact On.true (p := [Value.int .i64 3, .int .i64 more, .int .i64 0, .int .i64 0, .int .i64 0, .int .i64 0, .int .i64 0] = hopCells ⟨3, more, ⟨0, 0, 0, 0, 0⟩⟩ ∧ hopI ⟨3, more, ⟨0, 0, 0, 0, 0⟩⟩) ⟨rfl, (by decide : I64 3), hmo, zero_opI⟩
      · exact hn3
      · exact hn4
      · exact Gr.le (GX1.trans (by (repeat (first | exact Gr.refl _ | assumption | apply Gr.alloc | apply Gr.drew | (refine Gr.setCell ?_ (by simp; try omega) _) | refine Gr.trans ?_ (by assumption)))))
      intro g cp w6 o6 hgs6 hgb6 hat6 hlt6
      have G6 : Gr w1 w6 := hgs6 w1 (Nat.le_refl _) (GX1.trans (by (repeat (first | exact Gr.refl _ | assumption | apply Gr.alloc | apply Gr.drew | (refine Gr.setCell ?_ (by simp; try omega) _) | refine Gr.trans ?_ (by assumption)))))
      have hs6 := hgb6.size
      have GC : Gr wD (((wD.alloc (.cells #[.int .i64 3, .int .i64 more, .int .i64 0, .int .i64 0, .int .i64 0, .int .i64 0, .int .i64 0] 61)).alloc (.cells #[.slice none 0 0, .slice none 0 0, .slice none 0 0] 66)).drew) := by (repeat (first | exact Gr.refl _ | assumption | apply Gr.alloc | apply Gr.drew | (refine Gr.setCell ?_ (by simp; try omega) _) | refine Gr.trans ?_ (by assumption)))
      have iD6 := (iD.gr GC).kp (grown_kp hgb6 HNS.out)
      have bD6 := (bD.gr GC).grown hgb6 HNB.out
      have hsD : wD.heap.size ≤ w6.heap.size := Nat.le_trans GC.le hs6
      clear hgs6 hat6 GC hs6
      have bX : Blk w6 (wD.heap.size + 1) 66 #[.slice none 0 0, .slice none 0 0, .slice none 0 0] := ((Blk.new (by simp)).gr ((Gr.refl _).drew)).grown hgb6 HN1.out
      (refine hK.out _ _ ?_ (fun hHeld => ?_); · (exact ⟨cell_gr C0 (by (repeat (first | exact Gr.refl _ | assumption | apply Gr.alloc | apply Gr.drew | (refine Gr.setCell ?_ (by simp; try omega) _) | refine Gr.trans ?_ (by assumption)))), cell_gr C1 (by (repeat (first | exact Gr.refl _ | assumption | apply Gr.alloc | apply Gr.drew | (refine Gr.setCell ?_ (by simp; try omega) _) | refine Gr.trans ?_ (by assumption))))⟩))
      clear hK K
      try simp only [Act.put, List.setIfInBounds_toArray, List.set_cons_zero, List.set_cons_succ]
      refine next8 (by kernel_rfl) (fun K hK => ?_)
      go_simp
      go_at_call 31
      have KN := HKN.out.gr G6
      have KR := HKR.out.gr G6
      have hlz : (ops ++ [(⟨3, keep, ⟨0, 0, 0, 0, 0⟩⟩ : HopD)]).length = ops.length + 1 := by rw [List.length_append]; rfl
      have KO := OwnR.rd o6
      rw [hlz] at KO
      clear hlz
      clear o6
      (with_reducible refine (HallPlay2_calls _ _ _ N i roles (ops ++ [⟨3, keep, ⟨0, 0, 0, 0, 0⟩⟩] ++ [⟨3, more, ⟨0, 0, 0, 0, 0⟩⟩]) _ (KN.gr ?_) hi (KR.gr ?_) (KO.gr ?_) hn5).mono ?_)
      · (repeat (first | exact Gr.refl _ | assumption | apply Gr.alloc | apply Gr.drew | (refine Gr.setCell ?_ (by simp; try omega) _) | refine Gr.trans ?_ (by assumption)))
      · (repeat (first | exact Gr.refl _ | assumption | apply Gr.alloc | apply Gr.drew | (refine Gr.setCell ?_ (by simp; try omega) _) | refine Gr.trans ?_ (by assumption)))
      · (repeat (first | exact Gr.refl _ | assumption | apply Gr.alloc | apply Gr.drew | (refine Gr.setCell ?_ (by simp; try omega) _) | refine Gr.trans ?_ (by assumption)))
      rw [HQ.out]; rintro _ w7 ⟨v7, u7, rfl, i7, j7, g7⟩
      simp only [] at i7 j7
      obtain ⟨na, mn7, nb, bn7, nc, jn7, rfl, -⟩ := i7.now.open_
      obtain ⟨la7, lc7, rfl, -, -⟩ := j7.now.len
      have hw7 := g7.le
      have bs := bX.gr g7
      have S0 := bs.cell (i := 0) (v := .slice none 0 0) rfl
      have SF0 := bs.frozen 0
      have bs1 := bs.set 0 (.slice na k2.case.mark.length mn7)
      have S1 := bs1.cell (i := 1) (v := .slice none 0 0) rfl
      have SF1 := bs1.frozen 1
      have bs2 := bs1.set 1 (.slice nb k2.case.busy.length bn7)
      have S2 := bs2.cell (i := 2) (v := .slice none 0 0) rfl
      have SF2 := bs2.frozen 2
      have bs3 := bs2.set 2 (.slice nc k2.items.length jn7)
      (refine hK.out _ _ ?_ (fun hHeld => ?_); · (exact ⟨cell_gr C0 (by (repeat (first | exact Gr.refl _ | assumption | apply Gr.alloc | apply Gr.drew | (refine Gr.setCell ?_ (by simp; try omega) _) | refine Gr.trans ?_ (by assumption)))), cell_gr C1 (by (repeat (first | exact Gr.refl _ | assumption | apply Gr.alloc | apply Gr.drew | (refine Gr.setCell ?_ (by simp; try omega) _) | refine Gr.trans ?_ (by assumption))))⟩))
      clear hK K
      try simp only [Act.put, List.setIfInBounds_toArray, List.set_cons_zero, List.set_cons_succ]
      (refine hold9 (v := ?_) (by kernel_rfl) (by kernel_rfl) (by kernel_rfl) (fun _ _ _ h => h) (by rfl) (fun w' hSw => ?_) (by assumption) ?_; rotate_left 1; · ((try dsimp only at hSw); (try go_simp); (try (with_reducible rfl))); (try simp only [Act.put, List.setIfInBounds_toArray, List.set_cons_zero, List.set_cons_succ]))
      (refine hold10 (v := ?_) (by kernel_rfl) (by kernel_rfl) (by kernel_rfl) (fun _ _ _ h => h) (by rfl) (fun w' hSw => ?_) (by assumption) ?_; rotate_left 1; · ((try dsimp only at hSw); (try go_simp); (try (with_reducible rfl))); (try simp only [Act.put, List.setIfInBounds_toArray, List.set_cons_zero, List.set_cons_succ]))
      (refine hold11 (v := ?_) (by kernel_rfl) (by kernel_rfl) (by kernel_rfl) (fun _ _ _ h => h) (by rfl) (fun w' hSw => ?_) (by assumption) ?_; rotate_left 1; · ((try dsimp only at hSw); (try go_simp); (try (with_reducible rfl))); (try simp only [Act.put, List.setIfInBounds_toArray, List.set_cons_zero, List.set_cons_succ]))
      (refine hold12 (v := ?_) (by kernel_rfl) (by kernel_rfl) (by kernel_rfl) (fun _ _ _ h => h) (by rfl) (fun w' hSw => ?_) (by assumption) ?_; rotate_left 1; · ((try dsimp only at hSw); (try go_simp); (try (with_reducible rfl))); (try simp only [Act.put, List.setIfInBounds_toArray, List.set_cons_zero, List.set_cons_succ]))
      have HEN := bX.lt
      refine next14 (by kernel_rfl) (fun K hK => ?_)
      go_simp
      (refine hK.out _ _ ?_ (fun hHeld => ?_); · (exact ⟨cell_gr C0 (by (repeat (first | exact Gr.refl _ | assumption | apply Gr.alloc | apply Gr.drew | (refine Gr.setCell ?_ (by simp; try omega) _) | refine Gr.trans ?_ (by assumption)))), cell_gr C1 (by (repeat (first | exact Gr.refl _ | assumption | apply Gr.alloc | apply Gr.drew | (refine Gr.setCell ?_ (by simp; try omega) _) | refine Gr.trans ?_ (by assumption))))⟩))
      clear hK K
      try simp only [Act.put, List.setIfInBounds_toArray, List.set_cons_zero, List.set_cons_succ]
      (refine hold15 (v := ?_) (by kernel_rfl) (by kernel_rfl) (by kernel_rfl) (fun _ _ _ h => h) (by rfl) (fun w' hSw => ?_) (by assumption) ?_; rotate_left 1; · ((try dsimp only at hSw); (try go_simp); (try (with_reducible rfl))); (try simp only [Act.put, List.setIfInBounds_toArray, List.set_cons_zero, List.set_cons_succ]))
      (refine hold16 (v := ?_) (by kernel_rfl) (by kernel_rfl) (by kernel_rfl) (fun _ _ _ h => h) (by rfl) (fun w' hSw => ?_) (by assumption) ?_; rotate_left 1; · ((try dsimp only at hSw); (try go_simp); (try (with_reducible rfl))); (try simp only [Act.put, List.setIfInBounds_toArray, List.set_cons_zero, List.set_cons_succ]))
      refine wpAnyH_done (by kernel_rfl) ?_ _
      have hwd := HWD.out
      have hne : ∀ j : Nat, ¬ ((fun b => w3.heap.size ≤ b ∧ b < w4.heap.size) (⟨wD.heap.size + 1, j, none⟩ : Addr).block) := fun j h => by have h2 := h.2; simp at h2; omega
      have hne7 : ∀ j : Nat, ¬ ((fun b => w6.heap.size ≤ b) (⟨wD.heap.size + 1, j, none⟩ : Addr).block) := fun j h => by simp at h; omega
      have bF := bs3
      have iF := ((iD6.gr (g7)).kp (((set_kp (a := ⟨wD.heap.size + 1, 0, none⟩) (hne 0) _).trans (set_kp (a := ⟨wD.heap.size + 1, 1, none⟩) (hne 1) _)).trans (set_kp (a := ⟨wD.heap.size + 1, 2, none⟩) (hne 2) _))).now (w := ((w7.setCell ⟨wD.heap.size + 1, 0, none⟩ (.slice na k2.case.mark.length mn7)).setCell ⟨wD.heap.size + 1, 1, none⟩ (.slice nb k2.case.busy.length bn7)).setCell ⟨wD.heap.size + 1, 2, none⟩ (.slice nc k2.items.length jn7))
      have jF := (i7.kp (((set_kp (a := ⟨wD.heap.size + 1, 0, none⟩) (hne7 0) _).trans (set_kp (a := ⟨wD.heap.size + 1, 1, none⟩) (hne7 1) _)).trans (set_kp (a := ⟨wD.heap.size + 1, 2, none⟩) (hne7 2) _))).now (w := ((w7.setCell ⟨wD.heap.size + 1, 0, none⟩ (.slice na k2.case.mark.length mn7)).setCell ⟨wD.heap.size + 1, 1, none⟩ (.slice nb k2.case.busy.length bn7)).setCell ⟨wD.heap.size + 1, 2, none⟩ (.slice nc k2.items.length jn7))
      have hd1 : w4.heap.size ≠ wD.heap.size + 1 := by omega
      have bDF := (((bD6.gr (g7)).other (a := ⟨wD.heap.size + 1, 0, none⟩) (by simpa using hd1) (.slice na k2.case.mark.length mn7)).other (a := ⟨wD.heap.size + 1, 1, none⟩) (by simpa using hd1) (.slice nb k2.case.busy.length bn7)).other (a := ⟨wD.heap.size + 1, 2, none⟩) (by simpa using hd1) (.slice nc k2.items.length jn7)
      have GF : Gr w (((w7.setCell ⟨wD.heap.size + 1, 0, none⟩ (.slice na k2.case.mark.length mn7)).setCell ⟨wD.heap.size + 1, 1, none⟩ (.slice nb k2.case.busy.length bn7)).setCell ⟨wD.heap.size + 1, 2, none⟩ (.slice nc k2.items.length jn7)) := ((((HGW.out.trans G6).trans (g7)).setCell (by simp; omega) _).setCell (by simp; omega) _).setCell (by simp; omega) _
      clear hwd hd1 hne hne7
      have T0 := bDF.cell (i := 0) (v := .slice ma k2.case.mark.length mn) rfl
      have T1 := bDF.cell (i := 1) (v := .slice ba k2.case.busy.length bn) rfl
      have T2 := bDF.cell (i := 2) (v := .slice ia k2.items.length jn) rfl
      have U0 := bF.cell (i := 0) (v := .slice na k2.case.mark.length mn7) rfl
      have U1 := bF.cell (i := 1) (v := .slice nb k2.case.busy.length bn7) rfl
      have U2 := bF.cell (i := 2) (v := .slice nc k2.items.length jn7) rfl
      have HIF := Lib.hid iF
      have HJF := Lib.hid jF
      have HGF := Lib.hid GF
      clear bDF bF iF jF GF
      go_wp2_with fail
      refine (SameDesk_self _ _ k2 _ HIF.out HJF.out).mono ?_
      rintro _ w9 ⟨rfl, g9⟩
      go_wp2_with fail
      go_ret
      exact ⟨rfl, HGF.out.trans g9⟩
  · skip
    go_simp
    (refine hK.out _ _ ?_ (fun hHeld => ?_); · (exact ⟨cell_gr C0 (by (repeat (first | exact Gr.refl _ | assumption | apply Gr.alloc | apply Gr.drew | (refine Gr.setCell ?_ (by simp; try omega) _) | refine Gr.trans ?_ (by assumption)))), cell_gr C1 (by (repeat (first | exact Gr.refl _ | assumption | apply Gr.alloc | apply Gr.drew | (refine Gr.setCell ?_ (by simp; try omega) _) | refine Gr.trans ?_ (by assumption))))⟩))
    clear hK K
    try simp only [Act.put, List.setIfInBounds_toArray, List.set_cons_zero, List.set_cons_succ]
    refine next6 (by kernel_rfl) (fun K hK => ?_)
    go_simp
    (refine hK.out _ _ ?_ (fun hHeld => ?_); · (exact ⟨cell_gr C0 (by (repeat (first | exact Gr.refl _ | assumption | apply Gr.alloc | apply Gr.drew | (refine Gr.setCell ?_ (by simp; try omega) _) | refine Gr.trans ?_ (by assumption)))), cell_gr C1 (by (repeat (first | exact Gr.refl _ | assumption | apply Gr.alloc | apply Gr.drew | (refine Gr.setCell ?_ (by simp; try omega) _) | refine Gr.trans ?_ (by assumption))))⟩))
    clear hK K
    try simp only [Act.put, List.setIfInBounds_toArray, List.set_cons_zero, List.set_cons_succ]
    refine next7 (by kernel_rfl) (fun K hK => ?_)
    refine step_app_one hopTy ?_ (.tmp 41) (.tmp 44) ?_ w1.heap.size NoB (.slice a3 (ops.length + 1) c3) (ops ++ [⟨3, keep, ⟨0, 0, 0, 0, 0⟩⟩]) ⟨wD.heap.size + 1, 0, none⟩ ⟨3, more, ⟨0, 0, 0, 0, 0⟩⟩ [.int .i64 3, .int .i64 more, .int .i64 0, .int .i64 0, .int .i64 0, .int .i64 0, .int .i64 0] ?_ ?_ ?_ ?_ ?_ ?_ ?_ ?_ ?_
    · rfl
    · rfl
    · rfl
    · rfl
    · exact oD.gr (by (repeat (first | exact Gr.refl _ | assumption | apply Gr.alloc | apply Gr.drew | (refine Gr.setCell ?_ (by simp; try omega) _) | refine Gr.trans ?_ (by assumption))))
    · (first | exact lit_cellsH rfl | exact lit_cellsH (World.size_alloc _ _) | exact lit_gr ((Gr.refl _).drew) rfl | exact lit_gr ((Gr.refl _).drew) (World.size_alloc _ _) | exact lit_gr ((Gr.refl _).alloc _) rfl | exact lit_gr ((Gr.refl _).alloc _) (World.size_alloc _ _) | exact lit_gr (((Gr.refl _).alloc _).drew) rfl | exact lit_gr (((Gr.refl _).alloc _).drew) (World.size_alloc _ _))
    · exact On.true (p := [Value.int .i64 3, .int .i64 more, .int .i64 0, .int .i64 0, .int .i64 0, .int .i64 0, .int .i64 0] = hopCells ⟨3, more, ⟨0, 0, 0, 0, 0⟩⟩ ∧ hopI ⟨3, more, ⟨0, 0, 0, 0, 0⟩⟩) ⟨rfl, (by decide : I64 3), hmo, zero_opI⟩
    · exact hn3
    · exact hn4
    · exact Gr.le (GX1.trans (by (repeat (first | exact Gr.refl _ | assumption | apply Gr.alloc | apply Gr.drew | (refine Gr.setCell ?_ (by simp; try omega) _) | refine Gr.trans ?_ (by assumption)))))
    intro g cp w6 o6 hgs6 hgb6 hat6 hlt6
    have G6 : Gr w1 w6 := hgs6 w1 (Nat.le_refl _) (GX1.trans (by (repeat (first | exact Gr.refl _ | assumption | apply Gr.alloc | apply Gr.drew | (refine Gr.setCell ?_ (by simp; try omega) _) | refine Gr.trans ?_ (by assumption)))))
    have hs6 := hgb6.size
    have GC : Gr wD (((wD.alloc (.cells #[.slice none 0 0, .slice none 0 0, .slice none 0 0] 66)).alloc (.cells #[.int .i64 3, .int .i64 more, .int .i64 0, .int .i64 0, .int .i64 0, .int .i64 0, .int .i64 0] 61)).drew) := by (repeat (first | exact Gr.refl _ | assumption | apply Gr.alloc | apply Gr.drew | (refine Gr.setCell ?_ (by simp; try omega) _) | refine Gr.trans ?_ (by assumption)))
    have iD6 := (iD.gr GC).kp (grown_kp hgb6 HNS.out)
    have bD6 := (bD.gr GC).grown hgb6 HNB.out
    have hsD : wD.heap.size ≤ w6.heap.size := Nat.le_trans GC.le hs6
    clear hgs6 hat6 GC hs6
    have bX : Blk w6 wD.heap.size 66 #[.slice none 0 0, .slice none 0 0, .slice none 0 0] := (((Blk.new rfl).gr ((Gr.refl _).alloc _)).gr ((Gr.refl _).drew)).grown hgb6 HN0.out
    (refine hK.out _ _ ?_ (fun hHeld => ?_); · (exact ⟨cell_gr C0 (by (repeat (first | exact Gr.refl _ | assumption | apply Gr.alloc | apply Gr.drew | (refine Gr.setCell ?_ (by simp; try omega) _) | refine Gr.trans ?_ (by assumption)))), cell_gr C1 (by (repeat (first | exact Gr.refl _ | assumption | apply Gr.alloc | apply Gr.drew | (refine Gr.setCell ?_ (by simp; try omega) _) | refine Gr.trans ?_ (by assumption))))⟩))
    clear hK K
    try simp only [Act.put, List.setIfInBounds_toArray, List.set_cons_zero, List.set_cons_succ]
    refine next8 (by kernel_rfl) (fun K hK => ?_)
    go_simp
    go_at_call 31
    have KN := HKN.out.gr G6
    have KR := HKR.out.gr G6
    have hlz : (ops ++ [(⟨3, keep, ⟨0, 0, 0, 0, 0⟩⟩ : HopD)]).length = ops.length + 1 := by rw [List.length_append]; rfl
    have KO := OwnR.rd o6
    rw [hlz] at KO
    clear hlz
    clear o6
    (with_reducible refine (HallPlay2_calls _ _ _ N i roles (ops ++ [⟨3, keep, ⟨0, 0, 0, 0, 0⟩⟩] ++ [⟨3, more, ⟨0, 0, 0, 0, 0⟩⟩]) _ (KN.gr ?_) hi (KR.gr ?_) (KO.gr ?_) hn5).mono ?_)
    · (repeat (first | exact Gr.refl _ | assumption | apply Gr.alloc | apply Gr.drew | (refine Gr.setCell ?_ (by simp; try omega) _) | refine Gr.trans ?_ (by assumption)))
    · (repeat (first | exact Gr.refl _ | assumption | apply Gr.alloc | apply Gr.drew | (refine Gr.setCell ?_ (by simp; try omega) _) | refine Gr.trans ?_ (by assumption)))
    · (repeat (first | exact Gr.refl _ | assumption | apply Gr.alloc | apply Gr.drew | (refine Gr.setCell ?_ (by simp; try omega) _) | refine Gr.trans ?_ (by assumption)))
    rw [HQ.out]; rintro _ w7 ⟨v7, u7, rfl, i7, j7, g7⟩
    simp only [] at i7 j7
    obtain ⟨na, mn7, nb, bn7, nc, jn7, rfl, -⟩ := i7.now.open_
    obtain ⟨la7, lc7, rfl, -, -⟩ := j7.now.len
    have hw7 := g7.le
    have bs := bX.gr g7
    have S0 := bs.cell (i := 0) (v := .slice none 0 0) rfl
    have SF0 := bs.frozen 0
    have bs1 := bs.set 0 (.slice na k2.case.mark.length mn7)
    have S1 := bs1.cell (i := 1) (v := .slice none 0 0) rfl
    have SF1 := bs1.frozen 1
    have bs2 := bs1.set 1 (.slice nb k2.case.busy.length bn7)
    have S2 := bs2.cell (i := 2) (v := .slice none 0 0) rfl
    have SF2 := bs2.frozen 2
    have bs3 := bs2.set 2 (.slice nc k2.items.length jn7)
    (refine hK.out _ _ ?_ (fun hHeld => ?_); · (exact ⟨cell_gr C0 (by (repeat (first | exact Gr.refl _ | assumption | apply Gr.alloc | apply Gr.drew | (refine Gr.setCell ?_ (by simp; try omega) _) | refine Gr.trans ?_ (by assumption)))), cell_gr C1 (by (repeat (first | exact Gr.refl _ | assumption | apply Gr.alloc | apply Gr.drew | (refine Gr.setCell ?_ (by simp; try omega) _) | refine Gr.trans ?_ (by assumption))))⟩))
    clear hK K
    try simp only [Act.put, List.setIfInBounds_toArray, List.set_cons_zero, List.set_cons_succ]
    (refine hold9 (v := ?_) (by kernel_rfl) (by kernel_rfl) (by kernel_rfl) (fun _ _ _ h => h) (by rfl) (fun w' hSw => ?_) (by assumption) ?_; rotate_left 1; · ((try dsimp only at hSw); (try go_simp); (try (with_reducible rfl))); (try simp only [Act.put, List.setIfInBounds_toArray, List.set_cons_zero, List.set_cons_succ]))
    (refine hold10 (v := ?_) (by kernel_rfl) (by kernel_rfl) (by kernel_rfl) (fun _ _ _ h => h) (by rfl) (fun w' hSw => ?_) (by assumption) ?_; rotate_left 1; · ((try dsimp only at hSw); (try go_simp); (try (with_reducible rfl))); (try simp only [Act.put, List.setIfInBounds_toArray, List.set_cons_zero, List.set_cons_succ]))
    (refine hold11 (v := ?_) (by kernel_rfl) (by kernel_rfl) (by kernel_rfl) (fun _ _ _ h => h) (by rfl) (fun w' hSw => ?_) (by assumption) ?_; rotate_left 1; · ((try dsimp only at hSw); (try go_simp); (try (with_reducible rfl))); (try simp only [Act.put, List.setIfInBounds_toArray, List.set_cons_zero, List.set_cons_succ]))
    (refine hold12 (v := ?_) (by kernel_rfl) (by kernel_rfl) (by kernel_rfl) (fun _ _ _ h => h) (by rfl) (fun w' hSw => ?_) (by assumption) ?_; rotate_left 1; · ((try dsimp only at hSw); (try go_simp); (try (with_reducible rfl))); (try simp only [Act.put, List.setIfInBounds_toArray, List.set_cons_zero, List.set_cons_succ]))
    have HEN := bX.lt
    refine next14 (by kernel_rfl) (fun K hK => ?_)
    go_simp
    (refine hK.out _ _ ?_ (fun hHeld => ?_); · (exact ⟨cell_gr C0 (by (repeat (first | exact Gr.refl _ | assumption | apply Gr.alloc | apply Gr.drew | (refine Gr.setCell ?_ (by simp; try omega) _) | refine Gr.trans ?_ (by assumption)))), cell_gr C1 (by (repeat (first | exact Gr.refl _ | assumption | apply Gr.alloc | apply Gr.drew | (refine Gr.setCell ?_ (by simp; try omega) _) | refine Gr.trans ?_ (by assumption))))⟩))
    clear hK K
    try simp only [Act.put, List.setIfInBounds_toArray, List.set_cons_zero, List.set_cons_succ]
    (refine hold15 (v := ?_) (by kernel_rfl) (by kernel_rfl) (by kernel_rfl) (fun _ _ _ h => h) (by rfl) (fun w' hSw => ?_) (by assumption) ?_; rotate_left 1; · ((try dsimp only at hSw); (try go_simp); (try (with_reducible rfl))); (try simp only [Act.put, List.setIfInBounds_toArray, List.set_cons_zero, List.set_cons_succ]))
    (refine hold16 (v := ?_) (by kernel_rfl) (by kernel_rfl) (by kernel_rfl) (fun _ _ _ h => h) (by rfl) (fun w' hSw => ?_) (by assumption) ?_; rotate_left 1; · ((try dsimp only at hSw); (try go_simp); (try (with_reducible rfl))); (try simp only [Act.put, List.setIfInBounds_toArray, List.set_cons_zero, List.set_cons_succ]))
    refine wpAnyH_done (by kernel_rfl) ?_ _
    have hwd := HWD.out
    have hne : ∀ j : Nat, ¬ ((fun b => w3.heap.size ≤ b ∧ b < w4.heap.size) (⟨wD.heap.size, j, none⟩ : Addr).block) := fun j h => by have h2 := h.2; simp at h2; omega
    have hne7 : ∀ j : Nat, ¬ ((fun b => w6.heap.size ≤ b) (⟨wD.heap.size, j, none⟩ : Addr).block) := fun j h => by simp at h; omega
    have bF := bs3
    have iF := ((iD6.gr (g7)).kp (((set_kp (a := ⟨wD.heap.size, 0, none⟩) (hne 0) _).trans (set_kp (a := ⟨wD.heap.size, 1, none⟩) (hne 1) _)).trans (set_kp (a := ⟨wD.heap.size, 2, none⟩) (hne 2) _))).now (w := ((w7.setCell ⟨wD.heap.size, 0, none⟩ (.slice na k2.case.mark.length mn7)).setCell ⟨wD.heap.size, 1, none⟩ (.slice nb k2.case.busy.length bn7)).setCell ⟨wD.heap.size, 2, none⟩ (.slice nc k2.items.length jn7))
    have jF := (i7.kp (((set_kp (a := ⟨wD.heap.size, 0, none⟩) (hne7 0) _).trans (set_kp (a := ⟨wD.heap.size, 1, none⟩) (hne7 1) _)).trans (set_kp (a := ⟨wD.heap.size, 2, none⟩) (hne7 2) _))).now (w := ((w7.setCell ⟨wD.heap.size, 0, none⟩ (.slice na k2.case.mark.length mn7)).setCell ⟨wD.heap.size, 1, none⟩ (.slice nb k2.case.busy.length bn7)).setCell ⟨wD.heap.size, 2, none⟩ (.slice nc k2.items.length jn7))
    have hd1 : w4.heap.size ≠ wD.heap.size := by omega
    have bDF := (((bD6.gr (g7)).other (a := ⟨wD.heap.size, 0, none⟩) (by simpa using hd1) (.slice na k2.case.mark.length mn7)).other (a := ⟨wD.heap.size, 1, none⟩) (by simpa using hd1) (.slice nb k2.case.busy.length bn7)).other (a := ⟨wD.heap.size, 2, none⟩) (by simpa using hd1) (.slice nc k2.items.length jn7)
    have GF : Gr w (((w7.setCell ⟨wD.heap.size, 0, none⟩ (.slice na k2.case.mark.length mn7)).setCell ⟨wD.heap.size, 1, none⟩ (.slice nb k2.case.busy.length bn7)).setCell ⟨wD.heap.size, 2, none⟩ (.slice nc k2.items.length jn7)) := ((((HGW.out.trans G6).trans (g7)).setCell (by simp; omega) _).setCell (by simp; omega) _).setCell (by simp; omega) _
    clear hwd hd1 hne hne7
    have T0 := bDF.cell (i := 0) (v := .slice ma k2.case.mark.length mn) rfl
    have T1 := bDF.cell (i := 1) (v := .slice ba k2.case.busy.length bn) rfl
    have T2 := bDF.cell (i := 2) (v := .slice ia k2.items.length jn) rfl
    have U0 := bF.cell (i := 0) (v := .slice na k2.case.mark.length mn7) rfl
    have U1 := bF.cell (i := 1) (v := .slice nb k2.case.busy.length bn7) rfl
    have U2 := bF.cell (i := 2) (v := .slice nc k2.items.length jn7) rfl
    have HIF := Lib.hid iF
    have HJF := Lib.hid jF
    have HGF := Lib.hid GF
    clear bDF bF iF jF GF
    go_wp2_with fail
    refine (SameDesk_self _ _ k2 _ HIF.out HJF.out).mono ?_
    rintro _ w9 ⟨rfl, g9⟩
    go_wp2_with fail
    go_ret
    exact ⟨rfl, HGF.out.trans g9⟩
end Go.Proofs.Ytidpppfimkhgkaa
