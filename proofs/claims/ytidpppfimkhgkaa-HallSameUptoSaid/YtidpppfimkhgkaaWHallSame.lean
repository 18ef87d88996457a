/- The call HallSame answers true at any net, place, roles and operations that read as data; nothing that lay there turns. (NOT FINISHED) -/
import Derived.Test.YtidpppfimkhgkaaAlive19
import Derived.Test.YtidpppfimkhgkaaNextQ
import Derived.Test.YtidpppfimkhgkaaTwoApp
import Derived.Deep.RegionHeld3
import Derived.Deep.DeepCutAuto
namespace Go.Tok
open Go.RowKit
theorem sameOps_next {ops : List OpD} {k : Nat} (hk : k < ops.length) : sameOps (ops.take (k + 1)) = sameOps (ops.take k) ++ twoOps (ix ops k) := by
  rw [take_ix hk]; unfold sameOps; rw [List.flatMap_append]; simp
theorem sameOps_len (l : List OpD) : (sameOps l).length = 2 * l.length := by
  unfold sameOps
  induction l with
  | nil => rfl
  | cons a l ih => rw [List.flatMap_cons, List.length_append, ih]; simp [twoOps]; omega
theorem allOk_next {ops : List OpD} {k : Nat} (hk : k < ops.length) (h : allOk (ops.take k) = true) (h1 : opOkB (ix ops k) = true) : allOk (ops.take (k + 1)) = true := by
  rw [take_ix hk, allOk_append, h]; simp [allOk, h1]
theorem hall_same2 {N : NetD} {i : Int} {roles : List (List Int)} {ops : List OpD} (h : allOk ops = true) : (deskPlay N i roles ops).2 = (hallPlay N i roles (sameOps ops ++ [⟨3, 0, zeroOp⟩])).2 ∧
    ((hallPlay N i roles (sameOps ops ++ [⟨3, 0, zeroOp⟩])).2 = 0 → (deskPlay N i roles ops).1.1 = (hallPlay N i roles (sameOps ops ++ [⟨3, 0, zeroOp⟩])).1.1 ∧ (hallPlay N i roles (sameOps ops ++ [⟨3, 0, zeroOp⟩])).1.2 = (deskPlay N i roles ops).1.2.flatMap twoAns ++ [⟨0, 0⟩] ∧ (deskPlay N i roles ops).1.2.length = ops.length) := by
  rcases hb : beginF N i with ⟨c, e⟩
  by_cases he : e = 0
  · subst he
    obtain ⟨h1, h2⟩ := hall_same (N := N) (i := i) (roles := roles) (c := c) (l := ops) (o' := zeroOp) h hb
    rw [h1, h2]
    exact ⟨rfl, fun _ => ⟨rfl, rfl, deskL_len _⟩⟩
  · rw [hallPlay_bad hb he, deskPlay_bad hb he]
    exact ⟨rfl, fun h => absurd h he⟩
end Go.Tok
namespace Go.Proofs.Ytidpppfimkhgkaa
open Go.RowKit Go.Tok
set_option linter.unusedVariables false
set_option linter.unusedSimpArgs false
theorem zero_opI : opI zeroOp := by unfold opI zeroOp; decide
set_option maxHeartbeats 4000000 in
set_option maxRecDepth 100000 in
theorem HallSame_walk {v vr u : Value} {N : NetD} {i : Int} {roles : List (List Int)} {ops : List OpD} (w : World) (hN : NetR w v N) (hi : I64 i) (hr0 : Rd rowK w vr roles ∧ roles.length ≤ 1048576) (hu0 : Rd opK w u ops ∧ ops.length ≤ 1048576) :
    Calls Try.prog 8 #[v, .int .i64 i, vr, u] w fun e w' => e = .returned (.bool true) ∧ Gr w w' := by
  obtain ⟨hr, _⟩ := hr0
  obtain ⟨hu, hul⟩ := hu0
  have hN' := hN
  obtain ⟨a, cap, rfl, hnl, hncap, hpl, hT⟩ := hN.open_
  have hpl1 := hpl.1
  have hpl2 := hpl.2
  obtain ⟨ua, uc, rfl, ul, ul'⟩ := hu.len
  obtain ⟨ra, rc, rfl, rl, rl'⟩ := hr.len
  go_enter Try.func8, Try.ntmps8
  go_wp2_with fail
  refine (alive19_calls _).mono ?_
  rintro _ w1 ⟨rfl, g1⟩
  have B0 := box_cell g1 (i := 0) rfl
  have B1 := box_cell g1 (i := 1) rfl
  have GW : Gr w w1 := ((Gr.refl w).alloc _).trans g1
  have HGW := Lib.hid GW
  have HU := Lib.hid (hu.gr GW)
  clear g1
  go_wp2_with fail
  go_loopw [9, 23] (fun lv q wr => ∃ k : Nat, q = .int .i64 k ∧ k ≤ ops.length ∧ OwnR hopK 61 w1.heap.size NoB wr lv (sameOps (ops.take k)) ∧ allOk (ops.take k) = true ∧ Gr w1 wr) (fun _ q _ => ops.length - (intOf q).toNat)
  case atStart => exact ⟨0, rfl, Nat.zero_le _, OwnR.nil _ _ _ _, by simp [allOk], Gr.refl _⟩
  case round =>
    rename World => wr
    obtain ⟨k, rfl, hk, hw, hok, hgr⟩ := hrel
    by_cases hlt : k < ops.length
    · obtain ⟨ub, uo, rfl, u0, u1, u2, u3, u4, hI⟩ := (HU.out.gr hgr).op hlt
      have hkI : (k : Int) < (ops.length : Int) := by omega
      have HGZ := Lib.hid (GW.trans hgr)
      have bO : Blk (wr.alloc (.cells #[.int .i64 (ix ops k).kind, .int .i64 (ix ops k).user, .int .i64 (ix ops k).tran, .int .i64 (ix ops k).item, .int .i64 (ix ops k).to] 59)) wr.heap.size 59 #[.int .i64 (ix ops k).kind, .int .i64 (ix ops k).user, .int .i64 (ix ops k).tran, .int .i64 (ix ops k).item, .int .i64 (ix ops k).to] := Blk.new rfl
      have O0 := bO.cell (i := 0) (v := .int .i64 (ix ops k).kind) rfl
      have O1 := bO.cell (i := 1) (v := .int .i64 (ix ops k).user) rfl
      have O2 := bO.cell (i := 2) (v := .int .i64 (ix ops k).tran) rfl
      have O3 := bO.cell (i := 3) (v := .int .i64 (ix ops k).item) rfl
      have O4 := bO.cell (i := 4) (v := .int .i64 (ix ops k).to) rfl
      obtain ⟨m, hm, hrun⟩ : ∃ m : Int, (255 < m ↔ 255 < (ix ops k).kind ∨ 255 < (ix ops k).user ∨ 255 < (ix ops k).tran ∨ 255 < (ix ops k).to) ∧ ∀ w, (Builtin.max_ #[3, 3, 3, 3] 3 #[.int .i64 (ix ops k).kind, .int .i64 (ix ops k).user, .int .i64 (ix ops k).tran, .int .i64 (ix ops k).to]).run Try.prog w = .ok (.int .i64 m) w := by
        refine ⟨_, ?_, fun w => by simp [Builtin.max_, Builtin.max2]; rfl⟩
        split <;> (try split) <;> (try split) <;> omega
      have HM := Lib.hid hm
      clear hm bO
      by_cases p1 : (ix ops k).kind < 0
      · skip
        go_wp2_with fail
        go_ret
        exact ⟨rfl, HGZ.out.trans (by (repeat (first | exact Gr.refl _ | assumption | apply Gr.alloc | apply Gr.drew | apply Gr.drewN | refine Gr.trans ?_ (by assumption))))⟩
      by_cases p2 : (ix ops k).user < 0
      · skip
        go_wp2_with fail
        go_ret
        exact ⟨rfl, HGZ.out.trans (by (repeat (first | exact Gr.refl _ | assumption | apply Gr.alloc | apply Gr.drew | apply Gr.drewN | refine Gr.trans ?_ (by assumption))))⟩
      by_cases p3 : (ix ops k).tran < 0
      · skip
        go_wp2_with fail
        go_ret
        exact ⟨rfl, HGZ.out.trans (by (repeat (first | exact Gr.refl _ | assumption | apply Gr.alloc | apply Gr.drew | apply Gr.drewN | refine Gr.trans ?_ (by assumption))))⟩
      by_cases p4 : (ix ops k).to < 0
      · skip
        go_wp2_with fail
        go_ret
        exact ⟨rfl, HGZ.out.trans (by (repeat (first | exact Gr.refl _ | assumption | apply Gr.alloc | apply Gr.drew | apply Gr.drewN | refine Gr.trans ?_ (by assumption))))⟩
      by_cases p5 : (ix ops k).item < 0
      · skip
        go_wp2_with fail
        go_ret
        exact ⟨rfl, HGZ.out.trans (by (repeat (first | exact Gr.refl _ | assumption | apply Gr.alloc | apply Gr.drew | apply Gr.drewN | refine Gr.trans ?_ (by assumption))))⟩
      by_cases p6 : 255 < m
      · skip
        go_wp2_with fail
        go_ret
        exact ⟨rfl, HGZ.out.trans (by (repeat (first | exact Gr.refl _ | assumption | apply Gr.alloc | apply Gr.drew | apply Gr.drewN | refine Gr.trans ?_ (by assumption))))⟩
      by_cases p7 : 65535 < (ix ops k).item
      · skip
        go_wp2_with fail
        go_ret
        exact ⟨rfl, HGZ.out.trans (by (repeat (first | exact Gr.refl _ | assumption | apply Gr.alloc | apply Gr.drew | apply Gr.drewN | refine Gr.trans ?_ (by assumption))))⟩
      have hk1 : opOkB (ix ops k) = true := (opOkB_iff _).2 (by have h := HM.out; omega)
      have hq1 := List.length_take_of_le hk
      have hq : (sameOps (ops.take k)).length = 2 * k := by rw [sameOps_len, hq1]
      have HL := Lib.hid hq
      have HT := Lib.hid (sameOps_next hlt)
      have HA := Lib.hid (allOk_next hlt hok hk1)
      have GL : Gr w1 ((wr.alloc (.cells #[.int .i64 (ix ops k).kind, .int .i64 (ix ops k).user, .int .i64 (ix ops k).tran, .int .i64 (ix ops k).item, .int .i64 (ix ops k).to] 59)).alloc (.cells #[.int .i64 1, .int .i64 0, .int .i64 (ix ops k).kind, .int .i64 (ix ops k).user, .int .i64 (ix ops k).tran, .int .i64 (ix ops k).item, .int .i64 (ix ops k).to, .int .i64 2, .int .i64 0, .int .i64 0, .int .i64 0, .int .i64 0, .int .i64 0, .int .i64 0] 61)) := (hgr.alloc _).alloc _
      have bL : Blk ((wr.alloc (.cells #[.int .i64 (ix ops k).kind, .int .i64 (ix ops k).user, .int .i64 (ix ops k).tran, .int .i64 (ix ops k).item, .int .i64 (ix ops k).to] 59)).alloc (.cells #[.int .i64 1, .int .i64 0, .int .i64 (ix ops k).kind, .int .i64 (ix ops k).user, .int .i64 (ix ops k).tran, .int .i64 (ix ops k).item, .int .i64 (ix ops k).to, .int .i64 2, .int .i64 0, .int .i64 0, .int .i64 0, .int .i64 0, .int .i64 0, .int .i64 0] 61)) (wr.heap.size + 1) 61 #[.int .i64 1, .int .i64 0, .int .i64 (ix ops k).kind, .int .i64 (ix ops k).user, .int .i64 (ix ops k).tran, .int .i64 (ix ops k).item, .int .i64 (ix ops k).to, .int .i64 2, .int .i64 0, .int .i64 0, .int .i64 0, .int .i64 0, .int .i64 0, .int .i64 0] := Blk.new (by simp)
      have HTI : ∀ y ∈ twoOps (ix ops k), hopI y := by
        intro y hy
        simp only [twoOps, List.mem_cons, List.not_mem_nil, or_false] at hy
        rcases hy with rfl | rfl
        · exact ⟨(by decide : I64 1), (by decide : I64 0), hI⟩
        · exact ⟨(by decide : I64 2), (by decide : I64 0), by unfold opI zeroOp; decide⟩
      have hR : Rd hopK ((wr.alloc (.cells #[.int .i64 (ix ops k).kind, .int .i64 (ix ops k).user, .int .i64 (ix ops k).tran, .int .i64 (ix ops k).item, .int .i64 (ix ops k).to] 59)).alloc (.cells #[.int .i64 1, .int .i64 0, .int .i64 (ix ops k).kind, .int .i64 (ix ops k).user, .int .i64 (ix ops k).tran, .int .i64 (ix ops k).item, .int .i64 (ix ops k).to, .int .i64 2, .int .i64 0, .int .i64 0, .int .i64 0, .int .i64 0, .int .i64 0, .int .i64 0] 61)) (.slice (some ⟨wr.heap.size + 1, 0, none⟩) 2 2) (twoOps (ix ops k)) := Rd.blkFlat (α := HopD) (size := 7) (cells := hopCells) (ok := hopI) (xs := twoOps (ix ops k)) bL rfl (by simp [twoOps]) (by simp [twoOps, hopCells, cellsOf, zeroOp]) HTI
      have HL2 : (twoOps (ix ops k)).length = 2 := rfl
      have hn1 : ((sameOps (ops.take k)).length + (twoOps (ix ops k)).length) * 56 ≤ 140737488355328 := by rw [hq, HL2]; omega
      have hn2 : (sameOps (ops.take k)).length + (twoOps (ix ops k)).length ≤ maxLen := by rw [hq, HL2]; unfold maxLen; omega
      have hwL := hw.gr (((Gr.refl _).alloc (.cells #[.int .i64 (ix ops k).kind, .int .i64 (ix ops k).user, .int .i64 (ix ops k).tran, .int .i64 (ix ops k).item, .int .i64 (ix ops k).to] 59)).alloc (.cells #[.int .i64 1, .int .i64 0, .int .i64 (ix ops k).kind, .int .i64 (ix ops k).user, .int .i64 (ix ops k).tran, .int .i64 (ix ops k).item, .int .i64 (ix ops k).to, .int .i64 2, .int .i64 0, .int .i64 0, .int .i64 0, .int .i64 0, .int .i64 0, .int .i64 0] 61))
      clear hok hk1 hq hq1 bL
      go_wp2_with (at_builtin; go_loud (refine app_flat hopTy _ _ w1.heap.size NoB _ _ (sameOps (ops.take k)) (twoOps (ix ops k)) (by rfl) (by rfl) (by rfl) (by rfl) hwL hR HTI hn1 hn2 GL.le ?_; intro v' w' ho' hgs _ _))
      rw [← HT.out] at ho'
      exact ⟨⟨k + 1, by simp, hlt, ho', HA.out, hgs w1 (Nat.le_refl _) GL⟩, by simp [intOf]; omega⟩
    · obtain rfl : k = ops.length := by omega
      rw [List.take_length] at hw hok
      obtain ⟨a3, c3, hv3, hl3, -⟩ := hw.len
      rw [sameOps_len] at hv3
      subst hv3
      obtain ⟨t1, t2⟩ := hall_same2 (N := N) (i := i) (roles := roles) hok
      rcases hp : hallPlay N i roles (sameOps ops ++ [⟨3, 0, zeroOp⟩]) with ⟨⟨kd, l⟩, e⟩
      rcases hq : deskPlay N i roles ops with ⟨⟨k2, l2⟩, e2⟩
      rw [hp, hq] at t1 t2
      simp only [] at t1 t2
      subst t1
      have HP := Lib.hid hp
      have HQ := Lib.hid hq
      have HT2 := Lib.hid t2
      have HW := Lib.hid hw
      have HGZ := Lib.hid GW
      have HGR := Lib.hid hgr
      have HN := Lib.hid (hN'.gr GW)
      have HR := Lib.hid (hr.gr GW)
      clear hp hq t2 hw hok hl3 hgr
      go_upto_region 11 with fail
      go_cut [12, 13, 14] (fun pk sx se wx => ∃ (X : Nat) (la ma ba ia : Option Addr) (lc mn bn jn : Nat), pk = .pointer (some ⟨X, 0, none⟩) ∧ sx = .slice la l.length lc ∧ se = .int .i64 e2 ∧
        Blk wx X 66 #[.slice ma kd.case.mark.length mn, .slice ba kd.case.busy.length bn, .slice ia kd.items.length jn] ∧ DeskR wx (.agg #[.slice ma kd.case.mark.length mn, .slice ba kd.case.busy.length bn, .slice ia kd.items.length jn]) kd ∧ Rd ansK wx (.slice la l.length lc) l ∧ Gr w1 wx)
      case first =>
        have GX1 := HGR.out
        have HO3 := Lib.hid (fun q (hq : (Value.slice a3 (2 * ops.length) c3).ownBlock = some q) => (HW.out.lt hq).2)
        have HN0 := Lib.hid (show some wr.heap.size ≠ (Value.slice a3 (2 * ops.length) c3).ownBlock from fun e => by have := HO3.out _ e.symm; omega)
        have HN1 := Lib.hid (show some (wr.heap.size + 1) ≠ (Value.slice a3 (2 * ops.length) c3).ownBlock from fun e => by have := HO3.out _ e.symm; omega)
        have hsl : (sameOps ops).length = 2 * ops.length := sameOps_len _
        have hn3 : ((sameOps ops).length + 1) * 56 ≤ 140737488355328 := by rw [hsl]; omega
        have hn4 : (sameOps ops).length + 1 ≤ maxLen := by rw [hsl]; unfold maxLen; omega
        have hn5 : (sameOps ops ++ [(⟨3, 0, zeroOp⟩ : HopD)]).length ≤ 2513169434916 := by rw [List.length_append, hsl]; simp only [List.length_singleton]; omega
        have hwle := GX1.le
        have C0 := B0
        have C1 := B1
        clear hsl B0 B1
        refine wp_region_held_drew (S := fun w' => w'.cell? ⟨w.heap.size, 0, none⟩ = some (.int .i64 N.places) ∧ w'.cell? ⟨w.heap.size, 1, none⟩ = some (.slice a N.trans.length cap)) (by kernel_rfl) ⟨cell_gr C0 (by (repeat (first | exact Gr.refl _ | assumption | apply Gr.alloc | apply Gr.drew | (refine Gr.setCell ?_ (by simp; try omega) _) | refine Gr.trans ?_ (by assumption)))), cell_gr C1 (by (repeat (first | exact Gr.refl _ | assumption | apply Gr.alloc | apply Gr.drew | (refine Gr.setCell ?_ (by simp; try omega) _) | refine Gr.trans ?_ (by assumption))))⟩ (fun hHeld => ?_)
        (refine hold0 (v := ?_) (by kernel_rfl) (by kernel_rfl) (by kernel_rfl) (fun _ _ _ h => h) (by rfl) (fun w' hSw => ?_) (by assumption) ?_; rotate_left 1; · ((try dsimp only at hSw); (try go_simp); (try (with_reducible rfl))); (try simp only [Act.put, List.setIfInBounds_toArray, List.set_cons_zero, List.set_cons_succ]))
        (refine hold1 (v := ?_) (by kernel_rfl) (by kernel_rfl) (by kernel_rfl) (fun _ _ _ h => h) (by rfl) (fun w' hSw => ?_) (by assumption) ?_; rotate_left 1; · ((try dsimp only at hSw); (try go_simp); (try (with_reducible rfl))); (try simp only [Act.put, List.setIfInBounds_toArray, List.set_cons_zero, List.set_cons_succ]))
        (refine hold2 (v := ?_) (by kernel_rfl) (by kernel_rfl) (by kernel_rfl) (fun _ _ _ h => h) (by rfl) (fun w' hSw => ?_) (by assumption) ?_; rotate_left 1; · ((try dsimp only at hSw); (try go_simp); (try (with_reducible rfl))); (try simp only [Act.put, List.setIfInBounds_toArray, List.set_cons_zero, List.set_cons_succ]))
        (refine hold3 (v := ?_) (by kernel_rfl) (by kernel_rfl) (by kernel_rfl) (fun _ _ _ h => h) (by rfl) (fun w' hSw => ?_) (by assumption) ?_; rotate_left 1; · ((try dsimp only at hSw); (try go_simp); (try (with_reducible rfl))); (try simp only [Act.put, List.setIfInBounds_toArray, List.set_cons_zero, List.set_cons_succ]))
        (refine hold4 (v := ?_) (by kernel_rfl) (by kernel_rfl) (by kernel_rfl) (fun _ _ _ h => h) (by rfl) (fun w' hSw => ?_) (by assumption) ?_; rotate_left 1; · ((try dsimp only at hSw); (try go_simp); (try (with_reducible rfl))); (try simp only [Act.put, List.setIfInBounds_toArray, List.set_cons_zero, List.set_cons_succ]))
        refine next5p12 (by kernel_rfl) (fun K hK => ?_) (fun K hK => ?_)
        · skip
          go_simp
          (refine hK.out _ _ ?_ (fun hHeld => ?_); · (exact ⟨cell_gr C0 (by (repeat (first | exact Gr.refl _ | assumption | apply Gr.alloc | apply Gr.drew | (refine Gr.setCell ?_ (by simp; try omega) _) | refine Gr.trans ?_ (by assumption)))), cell_gr C1 (by (repeat (first | exact Gr.refl _ | assumption | apply Gr.alloc | apply Gr.drew | (refine Gr.setCell ?_ (by simp; try omega) _) | refine Gr.trans ?_ (by assumption))))⟩))
          clear hK K
          try simp only [Act.put, List.setIfInBounds_toArray, List.set_cons_zero, List.set_cons_succ]
          refine next6p12 (by kernel_rfl) (fun K hK => ?_) (fun K hK => ?_)
          · skip
            refine step_app_one hopTy ?_ (.tmp 78) (.tmp 80) ?_ w1.heap.size NoB (.slice a3 (2 * ops.length) c3) (sameOps ops) ⟨wr.heap.size, 0, none⟩ ⟨3, 0, zeroOp⟩ [.int .i64 3, .int .i64 0, .int .i64 0, .int .i64 0, .int .i64 0, .int .i64 0, .int .i64 0] ?_ ?_ ?_ ?_ ?_ ?_ ?_ ?_ ?_
            · rfl
            · rfl
            · rfl
            · rfl
            · exact HW.out.gr (by (repeat (first | exact Gr.refl _ | assumption | apply Gr.alloc | apply Gr.drew | (refine Gr.setCell ?_ (by simp; try omega) _) | refine Gr.trans ?_ (by assumption))))
            · (first | exact lit_cellsH rfl | exact lit_cellsH (World.size_alloc _ _) | exact lit_gr ((Gr.refl _).drew) rfl | exact lit_gr ((Gr.refl _).drew) (World.size_alloc _ _) | exact lit_gr ((Gr.refl _).alloc _) rfl | exact lit_gr ((Gr.refl _).alloc _) (World.size_alloc _ _) | exact lit_gr (((Gr.refl _).alloc _).drew) rfl | exact lit_gr (((Gr.refl _).alloc _).drew) (World.size_alloc _ _))
            · exact On.true (p := [Value.int .i64 3, .int .i64 0, .int .i64 0, .int .i64 0, .int .i64 0, .int .i64 0, .int .i64 0] = hopCells ⟨3, 0, zeroOp⟩ ∧ hopI ⟨3, 0, zeroOp⟩) ⟨rfl, (by decide : I64 3), (by decide : I64 0), zero_opI⟩
            · exact hn3
            · exact hn4
            · exact Gr.le (GX1.trans (by (repeat (first | exact Gr.refl _ | assumption | apply Gr.alloc | apply Gr.drew | (refine Gr.setCell ?_ (by simp; try omega) _) | refine Gr.trans ?_ (by assumption)))))
            intro g cp w6 o6 hgs6 hgb6 hat6 hlt6
            have G6 : Gr w1 w6 := hgs6 w1 (Nat.le_refl _) (GX1.trans (by (repeat (first | exact Gr.refl _ | assumption | apply Gr.alloc | apply Gr.drew | (refine Gr.setCell ?_ (by simp; try omega) _) | refine Gr.trans ?_ (by assumption)))))
            have hs6 := hgb6.size
            have GC : Gr wr ((wr.alloc (.cells #[.int .i64 3, .int .i64 0, .int .i64 0, .int .i64 0, .int .i64 0, .int .i64 0, .int .i64 0] 61)).drew) := by (repeat (first | exact Gr.refl _ | assumption | apply Gr.alloc | apply Gr.drew | (refine Gr.setCell ?_ (by simp; try omega) _) | refine Gr.trans ?_ (by assumption)))
            have hsD : wr.heap.size ≤ w6.heap.size := Nat.le_trans GC.le hs6
            clear hgs6 hat6 hs6 GC
            (refine hK.out _ _ ?_ (fun hHeld => ?_); · (exact ⟨cell_gr C0 (by (repeat (first | exact Gr.refl _ | assumption | apply Gr.alloc | apply Gr.drew | (refine Gr.setCell ?_ (by simp; try omega) _) | refine Gr.trans ?_ (by assumption)))), cell_gr C1 (by (repeat (first | exact Gr.refl _ | assumption | apply Gr.alloc | apply Gr.drew | (refine Gr.setCell ?_ (by simp; try omega) _) | refine Gr.trans ?_ (by assumption))))⟩))
            clear hK K
            try simp only [Act.put, List.setIfInBounds_toArray, List.set_cons_zero, List.set_cons_succ]
            refine next7p12 (by kernel_rfl) (fun K hK => ?_) (fun K hK => ?_)
            · skip
              go_simp
              go_at_call 31
              have KO := OwnR.rd o6
              clear o6
              (with_reducible refine (HallPlay2_calls _ _ _ N i roles (sameOps ops ++ [⟨3, 0, zeroOp⟩]) _ (HN.out.gr ?_) hi (HR.out.gr ?_) (KO.gr ?_) hn5).mono ?_)
              · exact G6.trans (by (repeat (first | exact Gr.refl _ | assumption | apply Gr.alloc | apply Gr.drew | (refine Gr.setCell ?_ (by simp; try omega) _) | refine Gr.trans ?_ (by assumption))))
              · exact G6.trans (by (repeat (first | exact Gr.refl _ | assumption | apply Gr.alloc | apply Gr.drew | (refine Gr.setCell ?_ (by simp; try omega) _) | refine Gr.trans ?_ (by assumption))))
              · (repeat (first | exact Gr.refl _ | assumption | apply Gr.alloc | apply Gr.drew | (refine Gr.setCell ?_ (by simp; try omega) _) | refine Gr.trans ?_ (by assumption)))
              rw [HP.out]; rintro _ w7 ⟨v7, u7, rfl, i7, j7, g7⟩
              simp only [] at i7 j7
              obtain ⟨na, mn7, nb, bn7, nc, jn7, rfl, -⟩ := i7.now.open_
              obtain ⟨la7, lc7, rfl, -, -⟩ := j7.now.len
              have hw7 := g7.le
              (refine hK.out _ _ ?_ (fun hHeld => ?_); · (exact ⟨cell_gr C0 (by (repeat (first | exact Gr.refl _ | assumption | apply Gr.alloc | apply Gr.drew | (refine Gr.setCell ?_ (by simp; try omega) _) | refine Gr.trans ?_ (by assumption)))), cell_gr C1 (by (repeat (first | exact Gr.refl _ | assumption | apply Gr.alloc | apply Gr.drew | (refine Gr.setCell ?_ (by simp; try omega) _) | refine Gr.trans ?_ (by assumption))))⟩))
              clear hK K
              try simp only [Act.put, List.setIfInBounds_toArray, List.set_cons_zero, List.set_cons_succ]
              (refine hold8 (v := ?_) (by kernel_rfl) (by kernel_rfl) (by kernel_rfl) (fun _ _ _ h => h) (by rfl) (fun w' hSw => ?_) (by assumption) ?_; rotate_left 1; · ((try dsimp only at hSw); (try go_simp); (try (with_reducible rfl))); (try simp only [Act.put, List.setIfInBounds_toArray, List.set_cons_zero, List.set_cons_succ]))
              (refine hold9 (v := ?_) (by kernel_rfl) (by kernel_rfl) (by kernel_rfl) (fun _ _ _ h => h) (by rfl) (fun w' hSw => ?_) (by assumption) ?_; rotate_left 1; · ((try dsimp only at hSw); (try go_simp); (try (with_reducible rfl))); (try simp only [Act.put, List.setIfInBounds_toArray, List.set_cons_zero, List.set_cons_succ]))
              (refine hold10 (v := ?_) (by kernel_rfl) (by kernel_rfl) (by kernel_rfl) (fun _ _ _ h => h) (by rfl) (fun w' hSw => ?_) (by assumption) ?_; rotate_left 1; · ((try dsimp only at hSw); (try go_simp); (try (with_reducible rfl))); (try simp only [Act.put, List.setIfInBounds_toArray, List.set_cons_zero, List.set_cons_succ]))
              (refine hold11 (v := ?_) (by kernel_rfl) (by kernel_rfl) (by kernel_rfl) (fun _ _ _ h => h) (by rfl) (fun w' hSw => ?_) (by assumption) ?_; rotate_left 1; · ((try dsimp only at hSw); (try go_simp); (try (with_reducible rfl))); (try simp only [Act.put, List.setIfInBounds_toArray, List.set_cons_zero, List.set_cons_succ]))
              refine next12 (by kernel_rfl) (fun K hK => ?_)
              go_simp
              (refine hK.out _ _ ?_ (fun hHeld => ?_); · (exact ⟨cell_gr C0 (by (repeat (first | exact Gr.refl _ | assumption | apply Gr.alloc | apply Gr.drew | (refine Gr.setCell ?_ (by simp; try omega) _) | refine Gr.trans ?_ (by assumption)))), cell_gr C1 (by (repeat (first | exact Gr.refl _ | assumption | apply Gr.alloc | apply Gr.drew | (refine Gr.setCell ?_ (by simp; try omega) _) | refine Gr.trans ?_ (by assumption))))⟩))
              clear hK K
              try simp only [Act.put, List.setIfInBounds_toArray, List.set_cons_zero, List.set_cons_succ]
              have bs : Blk (w7.alloc (.cells #[.slice none 0 0, .slice none 0 0, .slice none 0 0] 66)) w7.heap.size 66 #[.slice none 0 0, .slice none 0 0, .slice none 0 0] := Blk.new rfl
              have S0 := bs.cell (i := 0) (v := .slice none 0 0) rfl
              have SF0 := bs.frozen 0
              have bs1 := bs.set 0 (.slice na kd.case.mark.length mn7)
              have S1 := bs1.cell (i := 1) (v := .slice none 0 0) rfl
              have SF1 := bs1.frozen 1
              have bs2 := bs1.set 1 (.slice nb kd.case.busy.length bn7)
              have S2 := bs2.cell (i := 2) (v := .slice none 0 0) rfl
              have SF2 := bs2.frozen 2
              have bs3 := bs2.set 2 (.slice nc kd.items.length jn7)
              refine next13 (by kernel_rfl) (fun K hK => ?_)
              go_simp
              (refine hK.out _ _ ?_ (fun hHeld => ?_); · (exact ⟨cell_gr C0 (by (repeat (first | exact Gr.refl _ | assumption | apply Gr.alloc | apply Gr.drew | (refine Gr.setCell ?_ (by simp; try omega) _) | refine Gr.trans ?_ (by assumption)))), cell_gr C1 (by (repeat (first | exact Gr.refl _ | assumption | apply Gr.alloc | apply Gr.drew | (refine Gr.setCell ?_ (by simp; try omega) _) | refine Gr.trans ?_ (by assumption))))⟩))
              clear hK K
              try simp only [Act.put, List.setIfInBounds_toArray, List.set_cons_zero, List.set_cons_succ]
              (refine hold14 (v := ?_) (by kernel_rfl) (by kernel_rfl) (by kernel_rfl) (fun _ _ _ h => h) (by rfl) (fun w' hSw => ?_) (by assumption) ?_; rotate_left 1; · ((try dsimp only at hSw); (try go_simp); (try (with_reducible rfl))); (try simp only [Act.put, List.setIfInBounds_toArray, List.set_cons_zero, List.set_cons_succ]))
              (refine hold15 (v := ?_) (by kernel_rfl) (by kernel_rfl) (by kernel_rfl) (fun _ _ _ h => h) (by rfl) (fun w' hSw => ?_) (by assumption) ?_; rotate_left 1; · ((try dsimp only at hSw); (try go_simp); (try (with_reducible rfl))); (try simp only [Act.put, List.setIfInBounds_toArray, List.set_cons_zero, List.set_cons_succ]))
              refine wpAnyH_done (by kernel_rfl) ?_ _
              have GL : Gr w7 (w7.alloc (.cells #[.slice na kd.case.mark.length mn7, .slice nb kd.case.busy.length bn7, .slice nc kd.items.length jn7] 66)) := (Gr.refl _).alloc _
              have bF : Blk (w7.alloc (.cells #[.slice na kd.case.mark.length mn7, .slice nb kd.case.busy.length bn7, .slice nc kd.items.length jn7] 66)) w7.heap.size 66 #[.slice na kd.case.mark.length mn7, .slice nb kd.case.busy.length bn7, .slice nc kd.items.length jn7] := Blk.new rfl
              have DF := (i7.gr GL).now
              have AF := (j7.gr GL).now
              have GF := (G6.trans g7).trans GL
              clear hHeld
              go_wp2_with fail
              go_meet
              case rel => exact ⟨_, _, _, _, _, _, _, _, _, rfl, rfl, rfl, bF, DF, AF, GF⟩
            · skip
              go_simp
              (refine hK.out _ _ ?_ (fun hHeld => ?_); · (exact ⟨cell_gr C0 (by (repeat (first | exact Gr.refl _ | assumption | apply Gr.alloc | apply Gr.drew | (refine Gr.setCell ?_ (by simp; try omega) _) | refine Gr.trans ?_ (by assumption)))), cell_gr C1 (by (repeat (first | exact Gr.refl _ | assumption | apply Gr.alloc | apply Gr.drew | (refine Gr.setCell ?_ (by simp; try omega) _) | refine Gr.trans ?_ (by assumption))))⟩))
              clear hK K
              try simp only [Act.put, List.setIfInBounds_toArray, List.set_cons_zero, List.set_cons_succ]
              have bX : Blk (w6.alloc (.cells #[.slice none 0 0, .slice none 0 0, .slice none 0 0] 66)) w6.heap.size 66 #[.slice none 0 0, .slice none 0 0, .slice none 0 0] := Blk.new rfl
              refine next7 (by kernel_rfl) (fun K hK => ?_)
              go_simp
              go_at_call 31
              have KO := OwnR.rd o6
              clear o6
              (with_reducible refine (HallPlay2_calls _ _ _ N i roles (sameOps ops ++ [⟨3, 0, zeroOp⟩]) _ (HN.out.gr ?_) hi (HR.out.gr ?_) (KO.gr ?_) hn5).mono ?_)
              · exact G6.trans (by (repeat (first | exact Gr.refl _ | assumption | apply Gr.alloc | apply Gr.drew | (refine Gr.setCell ?_ (by simp; try omega) _) | refine Gr.trans ?_ (by assumption))))
              · exact G6.trans (by (repeat (first | exact Gr.refl _ | assumption | apply Gr.alloc | apply Gr.drew | (refine Gr.setCell ?_ (by simp; try omega) _) | refine Gr.trans ?_ (by assumption))))
              · (repeat (first | exact Gr.refl _ | assumption | apply Gr.alloc | apply Gr.drew | (refine Gr.setCell ?_ (by simp; try omega) _) | refine Gr.trans ?_ (by assumption)))
              rw [HP.out]; rintro _ w7 ⟨v7, u7, rfl, i7, j7, g7⟩
              simp only [] at i7 j7
              obtain ⟨na, mn7, nb, bn7, nc, jn7, rfl, -⟩ := i7.now.open_
              obtain ⟨la7, lc7, rfl, -, -⟩ := j7.now.len
              have hw7 := g7.le
              have bs := bX.gr g7
              have S0 := bs.cell (i := 0) (v := .slice none 0 0) rfl
              have SF0 := bs.frozen 0
              have bs1 := bs.set 0 (.slice na kd.case.mark.length mn7)
              have S1 := bs1.cell (i := 1) (v := .slice none 0 0) rfl
              have SF1 := bs1.frozen 1
              have bs2 := bs1.set 1 (.slice nb kd.case.busy.length bn7)
              have S2 := bs2.cell (i := 2) (v := .slice none 0 0) rfl
              have SF2 := bs2.frozen 2
              have bs3 := bs2.set 2 (.slice nc kd.items.length jn7)
              (refine hK.out _ _ ?_ (fun hHeld => ?_); · (exact ⟨cell_gr C0 (by (repeat (first | exact Gr.refl _ | assumption | apply Gr.alloc | apply Gr.drew | (refine Gr.setCell ?_ (by simp; try omega) _) | refine Gr.trans ?_ (by assumption)))), cell_gr C1 (by (repeat (first | exact Gr.refl _ | assumption | apply Gr.alloc | apply Gr.drew | (refine Gr.setCell ?_ (by simp; try omega) _) | refine Gr.trans ?_ (by assumption))))⟩))
              clear hK K
              try simp only [Act.put, List.setIfInBounds_toArray, List.set_cons_zero, List.set_cons_succ]
              (refine hold8 (v := ?_) (by kernel_rfl) (by kernel_rfl) (by kernel_rfl) (fun _ _ _ h => h) (by rfl) (fun w' hSw => ?_) (by assumption) ?_; rotate_left 1; · ((try dsimp only at hSw); (try go_simp); (try (with_reducible rfl))); (try simp only [Act.put, List.setIfInBounds_toArray, List.set_cons_zero, List.set_cons_succ]))
              (refine hold9 (v := ?_) (by kernel_rfl) (by kernel_rfl) (by kernel_rfl) (fun _ _ _ h => h) (by rfl) (fun w' hSw => ?_) (by assumption) ?_; rotate_left 1; · ((try dsimp only at hSw); (try go_simp); (try (with_reducible rfl))); (try simp only [Act.put, List.setIfInBounds_toArray, List.set_cons_zero, List.set_cons_succ]))
              (refine hold10 (v := ?_) (by kernel_rfl) (by kernel_rfl) (by kernel_rfl) (fun _ _ _ h => h) (by rfl) (fun w' hSw => ?_) (by assumption) ?_; rotate_left 1; · ((try dsimp only at hSw); (try go_simp); (try (with_reducible rfl))); (try simp only [Act.put, List.setIfInBounds_toArray, List.set_cons_zero, List.set_cons_succ]))
              (refine hold11 (v := ?_) (by kernel_rfl) (by kernel_rfl) (by kernel_rfl) (fun _ _ _ h => h) (by rfl) (fun w' hSw => ?_) (by assumption) ?_; rotate_left 1; · ((try dsimp only at hSw); (try go_simp); (try (with_reducible rfl))); (try simp only [Act.put, List.setIfInBounds_toArray, List.set_cons_zero, List.set_cons_succ]))
              have HEN : w6.heap.size < (w6.alloc (.cells #[.slice none 0 0, .slice none 0 0, .slice none 0 0] 66)).heap.size := by simp
              refine next13 (by kernel_rfl) (fun K hK => ?_)
              go_simp
              (refine hK.out _ _ ?_ (fun hHeld => ?_); · (exact ⟨cell_gr C0 (by (repeat (first | exact Gr.refl _ | assumption | apply Gr.alloc | apply Gr.drew | (refine Gr.setCell ?_ (by simp; try omega) _) | refine Gr.trans ?_ (by assumption)))), cell_gr C1 (by (repeat (first | exact Gr.refl _ | assumption | apply Gr.alloc | apply Gr.drew | (refine Gr.setCell ?_ (by simp; try omega) _) | refine Gr.trans ?_ (by assumption))))⟩))
              clear hK K
              try simp only [Act.put, List.setIfInBounds_toArray, List.set_cons_zero, List.set_cons_succ]
              (refine hold14 (v := ?_) (by kernel_rfl) (by kernel_rfl) (by kernel_rfl) (fun _ _ _ h => h) (by rfl) (fun w' hSw => ?_) (by assumption) ?_; rotate_left 1; · ((try dsimp only at hSw); (try go_simp); (try (with_reducible rfl))); (try simp only [Act.put, List.setIfInBounds_toArray, List.set_cons_zero, List.set_cons_succ]))
              (refine hold15 (v := ?_) (by kernel_rfl) (by kernel_rfl) (by kernel_rfl) (fun _ _ _ h => h) (by rfl) (fun w' hSw => ?_) (by assumption) ?_; rotate_left 1; · ((try dsimp only at hSw); (try go_simp); (try (with_reducible rfl))); (try simp only [Act.put, List.setIfInBounds_toArray, List.set_cons_zero, List.set_cons_succ]))
              refine wpAnyH_done (by kernel_rfl) ?_ _
              have hne7 : ∀ j : Nat, ¬ ((fun b => (w6.alloc (.cells #[.slice none 0 0, .slice none 0 0, .slice none 0 0] 66)).heap.size ≤ b) (⟨w6.heap.size, j, none⟩ : Addr).block) := fun j h => by simp at h; omega
              have bF := bs3
              have DF := (i7.kp (((set_kp (a := ⟨w6.heap.size, 0, none⟩) (hne7 0) _).trans (set_kp (a := ⟨w6.heap.size, 1, none⟩) (hne7 1) _)).trans (set_kp (a := ⟨w6.heap.size, 2, none⟩) (hne7 2) _))).now (w := ((w7.setCell ⟨w6.heap.size, 0, none⟩ (.slice na kd.case.mark.length mn7)).setCell ⟨w6.heap.size, 1, none⟩ (.slice nb kd.case.busy.length bn7)).setCell ⟨w6.heap.size, 2, none⟩ (.slice nc kd.items.length jn7))
              have AF := (j7.kp (((set_kp (a := ⟨w6.heap.size, 0, none⟩) (hne7 0) _).trans (set_kp (a := ⟨w6.heap.size, 1, none⟩) (hne7 1) _)).trans (set_kp (a := ⟨w6.heap.size, 2, none⟩) (hne7 2) _))).now (w := ((w7.setCell ⟨w6.heap.size, 0, none⟩ (.slice na kd.case.mark.length mn7)).setCell ⟨w6.heap.size, 1, none⟩ (.slice nb kd.case.busy.length bn7)).setCell ⟨w6.heap.size, 2, none⟩ (.slice nc kd.items.length jn7))
              have GF : Gr w1 (((w7.setCell ⟨w6.heap.size, 0, none⟩ (.slice na kd.case.mark.length mn7)).setCell ⟨w6.heap.size, 1, none⟩ (.slice nb kd.case.busy.length bn7)).setCell ⟨w6.heap.size, 2, none⟩ (.slice nc kd.items.length jn7)) := (((G6.trans (((Gr.refl _).alloc _).trans g7)).setCell (by simp; omega) _).setCell (by simp; omega) _).setCell (by simp; omega) _
              clear hne7
              clear hHeld
              go_wp2_with fail
              go_meet
              case rel => exact ⟨_, _, _, _, _, _, _, _, _, rfl, rfl, rfl, bF, DF, AF, GF⟩
          · skip
            go_simp
            (refine hK.out _ _ ?_ (fun hHeld => ?_); · (exact ⟨cell_gr C0 (by (repeat (first | exact Gr.refl _ | assumption | apply Gr.alloc | apply Gr.drew | (refine Gr.setCell ?_ (by simp; try omega) _) | refine Gr.trans ?_ (by assumption)))), cell_gr C1 (by (repeat (first | exact Gr.refl _ | assumption | apply Gr.alloc | apply Gr.drew | (refine Gr.setCell ?_ (by simp; try omega) _) | refine Gr.trans ?_ (by assumption))))⟩))
            clear hK K
            try simp only [Act.put, List.setIfInBounds_toArray, List.set_cons_zero, List.set_cons_succ]
            refine next6 (by kernel_rfl) (fun K hK => ?_)
            refine step_app_one hopTy ?_ (.tmp 78) (.tmp 80) ?_ w1.heap.size NoB (.slice a3 (2 * ops.length) c3) (sameOps ops) ⟨wr.heap.size, 0, none⟩ ⟨3, 0, zeroOp⟩ [.int .i64 3, .int .i64 0, .int .i64 0, .int .i64 0, .int .i64 0, .int .i64 0, .int .i64 0] ?_ ?_ ?_ ?_ ?_ ?_ ?_ ?_ ?_
            · rfl
            · rfl
            · rfl
            · rfl
            · exact HW.out.gr (by (repeat (first | exact Gr.refl _ | assumption | apply Gr.alloc | apply Gr.drew | (refine Gr.setCell ?_ (by simp; try omega) _) | refine Gr.trans ?_ (by assumption))))
            · (first | exact lit_cellsH rfl | exact lit_cellsH (World.size_alloc _ _) | exact lit_gr ((Gr.refl _).drew) rfl | exact lit_gr ((Gr.refl _).drew) (World.size_alloc _ _) | exact lit_gr ((Gr.refl _).alloc _) rfl | exact lit_gr ((Gr.refl _).alloc _) (World.size_alloc _ _) | exact lit_gr (((Gr.refl _).alloc _).drew) rfl | exact lit_gr (((Gr.refl _).alloc _).drew) (World.size_alloc _ _))
            · exact On.true (p := [Value.int .i64 3, .int .i64 0, .int .i64 0, .int .i64 0, .int .i64 0, .int .i64 0, .int .i64 0] = hopCells ⟨3, 0, zeroOp⟩ ∧ hopI ⟨3, 0, zeroOp⟩) ⟨rfl, (by decide : I64 3), (by decide : I64 0), zero_opI⟩
            · exact hn3
            · exact hn4
            · exact Gr.le (GX1.trans (by (repeat (first | exact Gr.refl _ | assumption | apply Gr.alloc | apply Gr.drew | (refine Gr.setCell ?_ (by simp; try omega) _) | refine Gr.trans ?_ (by assumption)))))
            intro g cp w6 o6 hgs6 hgb6 hat6 hlt6
            have G6 : Gr w1 w6 := hgs6 w1 (Nat.le_refl _) (GX1.trans (by (repeat (first | exact Gr.refl _ | assumption | apply Gr.alloc | apply Gr.drew | (refine Gr.setCell ?_ (by simp; try omega) _) | refine Gr.trans ?_ (by assumption)))))
            have hs6 := hgb6.size
            have GC : Gr wr (((wr.alloc (.cells #[.int .i64 3, .int .i64 0, .int .i64 0, .int .i64 0, .int .i64 0, .int .i64 0, .int .i64 0] 61)).alloc (.cells #[.slice none 0 0, .slice none 0 0, .slice none 0 0] 66)).drew) := by (repeat (first | exact Gr.refl _ | assumption | apply Gr.alloc | apply Gr.drew | (refine Gr.setCell ?_ (by simp; try omega) _) | refine Gr.trans ?_ (by assumption)))
            have hsD : wr.heap.size ≤ w6.heap.size := Nat.le_trans GC.le hs6
            clear hgs6 hat6 hs6 GC
            have bX : Blk w6 (wr.heap.size + 1) 66 #[.slice none 0 0, .slice none 0 0, .slice none 0 0] := ((Blk.new (by simp)).gr ((Gr.refl _).drew)).grown hgb6 HN1.out
            (refine hK.out _ _ ?_ (fun hHeld => ?_); · (exact ⟨cell_gr C0 (by (repeat (first | exact Gr.refl _ | assumption | apply Gr.alloc | apply Gr.drew | (refine Gr.setCell ?_ (by simp; try omega) _) | refine Gr.trans ?_ (by assumption)))), cell_gr C1 (by (repeat (first | exact Gr.refl _ | assumption | apply Gr.alloc | apply Gr.drew | (refine Gr.setCell ?_ (by simp; try omega) _) | refine Gr.trans ?_ (by assumption))))⟩))
            clear hK K
            try simp only [Act.put, List.setIfInBounds_toArray, List.set_cons_zero, List.set_cons_succ]
            refine next7 (by kernel_rfl) (fun K hK => ?_)
            go_simp
            go_at_call 31
            have KO := OwnR.rd o6
            clear o6
            (with_reducible refine (HallPlay2_calls _ _ _ N i roles (sameOps ops ++ [⟨3, 0, zeroOp⟩]) _ (HN.out.gr ?_) hi (HR.out.gr ?_) (KO.gr ?_) hn5).mono ?_)
            · exact G6.trans (by (repeat (first | exact Gr.refl _ | assumption | apply Gr.alloc | apply Gr.drew | (refine Gr.setCell ?_ (by simp; try omega) _) | refine Gr.trans ?_ (by assumption))))
            · exact G6.trans (by (repeat (first | exact Gr.refl _ | assumption | apply Gr.alloc | apply Gr.drew | (refine Gr.setCell ?_ (by simp; try omega) _) | refine Gr.trans ?_ (by assumption))))
            · (repeat (first | exact Gr.refl _ | assumption | apply Gr.alloc | apply Gr.drew | (refine Gr.setCell ?_ (by simp; try omega) _) | refine Gr.trans ?_ (by assumption)))
            rw [HP.out]; rintro _ w7 ⟨v7, u7, rfl, i7, j7, g7⟩
            simp only [] at i7 j7
            obtain ⟨na, mn7, nb, bn7, nc, jn7, rfl, -⟩ := i7.now.open_
            obtain ⟨la7, lc7, rfl, -, -⟩ := j7.now.len
            have hw7 := g7.le
            have bs := bX.gr g7
            have S0 := bs.cell (i := 0) (v := .slice none 0 0) rfl
            have SF0 := bs.frozen 0
            have bs1 := bs.set 0 (.slice na kd.case.mark.length mn7)
            have S1 := bs1.cell (i := 1) (v := .slice none 0 0) rfl
            have SF1 := bs1.frozen 1
            have bs2 := bs1.set 1 (.slice nb kd.case.busy.length bn7)
            have S2 := bs2.cell (i := 2) (v := .slice none 0 0) rfl
            have SF2 := bs2.frozen 2
            have bs3 := bs2.set 2 (.slice nc kd.items.length jn7)
            (refine hK.out _ _ ?_ (fun hHeld => ?_); · (exact ⟨cell_gr C0 (by (repeat (first | exact Gr.refl _ | assumption | apply Gr.alloc | apply Gr.drew | (refine Gr.setCell ?_ (by simp; try omega) _) | refine Gr.trans ?_ (by assumption)))), cell_gr C1 (by (repeat (first | exact Gr.refl _ | assumption | apply Gr.alloc | apply Gr.drew | (refine Gr.setCell ?_ (by simp; try omega) _) | refine Gr.trans ?_ (by assumption))))⟩))
            clear hK K
            try simp only [Act.put, List.setIfInBounds_toArray, List.set_cons_zero, List.set_cons_succ]
            (refine hold8 (v := ?_) (by kernel_rfl) (by kernel_rfl) (by kernel_rfl) (fun _ _ _ h => h) (by rfl) (fun w' hSw => ?_) (by assumption) ?_; rotate_left 1; · ((try dsimp only at hSw); (try go_simp); (try (with_reducible rfl))); (try simp only [Act.put, List.setIfInBounds_toArray, List.set_cons_zero, List.set_cons_succ]))
            (refine hold9 (v := ?_) (by kernel_rfl) (by kernel_rfl) (by kernel_rfl) (fun _ _ _ h => h) (by rfl) (fun w' hSw => ?_) (by assumption) ?_; rotate_left 1; · ((try dsimp only at hSw); (try go_simp); (try (with_reducible rfl))); (try simp only [Act.put, List.setIfInBounds_toArray, List.set_cons_zero, List.set_cons_succ]))
            (refine hold10 (v := ?_) (by kernel_rfl) (by kernel_rfl) (by kernel_rfl) (fun _ _ _ h => h) (by rfl) (fun w' hSw => ?_) (by assumption) ?_; rotate_left 1; · ((try dsimp only at hSw); (try go_simp); (try (with_reducible rfl))); (try simp only [Act.put, List.setIfInBounds_toArray, List.set_cons_zero, List.set_cons_succ]))
            (refine hold11 (v := ?_) (by kernel_rfl) (by kernel_rfl) (by kernel_rfl) (fun _ _ _ h => h) (by rfl) (fun w' hSw => ?_) (by assumption) ?_; rotate_left 1; · ((try dsimp only at hSw); (try go_simp); (try (with_reducible rfl))); (try simp only [Act.put, List.setIfInBounds_toArray, List.set_cons_zero, List.set_cons_succ]))
            have HEN := bX.lt
            refine next13 (by kernel_rfl) (fun K hK => ?_)
            go_simp
            (refine hK.out _ _ ?_ (fun hHeld => ?_); · (exact ⟨cell_gr C0 (by (repeat (first | exact Gr.refl _ | assumption | apply Gr.alloc | apply Gr.drew | (refine Gr.setCell ?_ (by simp; try omega) _) | refine Gr.trans ?_ (by assumption)))), cell_gr C1 (by (repeat (first | exact Gr.refl _ | assumption | apply Gr.alloc | apply Gr.drew | (refine Gr.setCell ?_ (by simp; try omega) _) | refine Gr.trans ?_ (by assumption))))⟩))
            clear hK K
            try simp only [Act.put, List.setIfInBounds_toArray, List.set_cons_zero, List.set_cons_succ]
            (refine hold14 (v := ?_) (by kernel_rfl) (by kernel_rfl) (by kernel_rfl) (fun _ _ _ h => h) (by rfl) (fun w' hSw => ?_) (by assumption) ?_; rotate_left 1; · ((try dsimp only at hSw); (try go_simp); (try (with_reducible rfl))); (try simp only [Act.put, List.setIfInBounds_toArray, List.set_cons_zero, List.set_cons_succ]))
            (refine hold15 (v := ?_) (by kernel_rfl) (by kernel_rfl) (by kernel_rfl) (fun _ _ _ h => h) (by rfl) (fun w' hSw => ?_) (by assumption) ?_; rotate_left 1; · ((try dsimp only at hSw); (try go_simp); (try (with_reducible rfl))); (try simp only [Act.put, List.setIfInBounds_toArray, List.set_cons_zero, List.set_cons_succ]))
            refine wpAnyH_done (by kernel_rfl) ?_ _
            have hne7 : ∀ j : Nat, ¬ ((fun b => w6.heap.size ≤ b) (⟨wr.heap.size + 1, j, none⟩ : Addr).block) := fun j h => by simp at h; omega
            have bF := bs3
            have DF := (i7.kp (((set_kp (a := ⟨wr.heap.size + 1, 0, none⟩) (hne7 0) _).trans (set_kp (a := ⟨wr.heap.size + 1, 1, none⟩) (hne7 1) _)).trans (set_kp (a := ⟨wr.heap.size + 1, 2, none⟩) (hne7 2) _))).now (w := ((w7.setCell ⟨wr.heap.size + 1, 0, none⟩ (.slice na kd.case.mark.length mn7)).setCell ⟨wr.heap.size + 1, 1, none⟩ (.slice nb kd.case.busy.length bn7)).setCell ⟨wr.heap.size + 1, 2, none⟩ (.slice nc kd.items.length jn7))
            have AF := (j7.kp (((set_kp (a := ⟨wr.heap.size + 1, 0, none⟩) (hne7 0) _).trans (set_kp (a := ⟨wr.heap.size + 1, 1, none⟩) (hne7 1) _)).trans (set_kp (a := ⟨wr.heap.size + 1, 2, none⟩) (hne7 2) _))).now (w := ((w7.setCell ⟨wr.heap.size + 1, 0, none⟩ (.slice na kd.case.mark.length mn7)).setCell ⟨wr.heap.size + 1, 1, none⟩ (.slice nb kd.case.busy.length bn7)).setCell ⟨wr.heap.size + 1, 2, none⟩ (.slice nc kd.items.length jn7))
            have GF : Gr w1 (((w7.setCell ⟨wr.heap.size + 1, 0, none⟩ (.slice na kd.case.mark.length mn7)).setCell ⟨wr.heap.size + 1, 1, none⟩ (.slice nb kd.case.busy.length bn7)).setCell ⟨wr.heap.size + 1, 2, none⟩ (.slice nc kd.items.length jn7)) := (((G6.trans (g7)).setCell (by simp; omega) _).setCell (by simp; omega) _).setCell (by simp; omega) _
            clear hne7
            clear hHeld
            go_wp2_with fail
            go_meet
            case rel => exact ⟨_, _, _, _, _, _, _, _, _, rfl, rfl, rfl, bF, DF, AF, GF⟩
        · skip
          go_simp
          (refine hK.out _ _ ?_ (fun hHeld => ?_); · (exact ⟨cell_gr C0 (by (repeat (first | exact Gr.refl _ | assumption | apply Gr.alloc | apply Gr.drew | (refine Gr.setCell ?_ (by simp; try omega) _) | refine Gr.trans ?_ (by assumption)))), cell_gr C1 (by (repeat (first | exact Gr.refl _ | assumption | apply Gr.alloc | apply Gr.drew | (refine Gr.setCell ?_ (by simp; try omega) _) | refine Gr.trans ?_ (by assumption))))⟩))
          clear hK K
          try simp only [Act.put, List.setIfInBounds_toArray, List.set_cons_zero, List.set_cons_succ]
          refine next5 (by kernel_rfl) (fun K hK => ?_)
          go_simp
          (refine hK.out _ _ ?_ (fun hHeld => ?_); · (exact ⟨cell_gr C0 (by (repeat (first | exact Gr.refl _ | assumption | apply Gr.alloc | apply Gr.drew | (refine Gr.setCell ?_ (by simp; try omega) _) | refine Gr.trans ?_ (by assumption)))), cell_gr C1 (by (repeat (first | exact Gr.refl _ | assumption | apply Gr.alloc | apply Gr.drew | (refine Gr.setCell ?_ (by simp; try omega) _) | refine Gr.trans ?_ (by assumption))))⟩))
          clear hK K
          try simp only [Act.put, List.setIfInBounds_toArray, List.set_cons_zero, List.set_cons_succ]
          refine next6 (by kernel_rfl) (fun K hK => ?_)
          refine step_app_one hopTy ?_ (.tmp 78) (.tmp 80) ?_ w1.heap.size NoB (.slice a3 (2 * ops.length) c3) (sameOps ops) ⟨wr.heap.size + 1, 0, none⟩ ⟨3, 0, zeroOp⟩ [.int .i64 3, .int .i64 0, .int .i64 0, .int .i64 0, .int .i64 0, .int .i64 0, .int .i64 0] ?_ ?_ ?_ ?_ ?_ ?_ ?_ ?_ ?_
          · rfl
          · rfl
          · rfl
          · rfl
          · exact HW.out.gr (by (repeat (first | exact Gr.refl _ | assumption | apply Gr.alloc | apply Gr.drew | (refine Gr.setCell ?_ (by simp; try omega) _) | refine Gr.trans ?_ (by assumption))))
          · (first | exact lit_cellsH rfl | exact lit_cellsH (World.size_alloc _ _) | exact lit_gr ((Gr.refl _).drew) rfl | exact lit_gr ((Gr.refl _).drew) (World.size_alloc _ _) | exact lit_gr ((Gr.refl _).alloc _) rfl | exact lit_gr ((Gr.refl _).alloc _) (World.size_alloc _ _) | exact lit_gr (((Gr.refl _).alloc _).drew) rfl | exact lit_gr (((Gr.refl _).alloc _).drew) (World.size_alloc _ _))
          · exact On.true (p := [Value.int .i64 3, .int .i64 0, .int .i64 0, .int .i64 0, .int .i64 0, .int .i64 0, .int .i64 0] = hopCells ⟨3, 0, zeroOp⟩ ∧ hopI ⟨3, 0, zeroOp⟩) ⟨rfl, (by decide : I64 3), (by decide : I64 0), zero_opI⟩
          · exact hn3
          · exact hn4
          · exact Gr.le (GX1.trans (by (repeat (first | exact Gr.refl _ | assumption | apply Gr.alloc | apply Gr.drew | (refine Gr.setCell ?_ (by simp; try omega) _) | refine Gr.trans ?_ (by assumption)))))
          intro g cp w6 o6 hgs6 hgb6 hat6 hlt6
          have G6 : Gr w1 w6 := hgs6 w1 (Nat.le_refl _) (GX1.trans (by (repeat (first | exact Gr.refl _ | assumption | apply Gr.alloc | apply Gr.drew | (refine Gr.setCell ?_ (by simp; try omega) _) | refine Gr.trans ?_ (by assumption)))))
          have hs6 := hgb6.size
          have GC : Gr wr (((wr.alloc (.cells #[.slice none 0 0, .slice none 0 0, .slice none 0 0] 66)).alloc (.cells #[.int .i64 3, .int .i64 0, .int .i64 0, .int .i64 0, .int .i64 0, .int .i64 0, .int .i64 0] 61)).drew) := by (repeat (first | exact Gr.refl _ | assumption | apply Gr.alloc | apply Gr.drew | (refine Gr.setCell ?_ (by simp; try omega) _) | refine Gr.trans ?_ (by assumption)))
          have hsD : wr.heap.size ≤ w6.heap.size := Nat.le_trans GC.le hs6
          clear hgs6 hat6 hs6 GC
          have bX : Blk w6 wr.heap.size 66 #[.slice none 0 0, .slice none 0 0, .slice none 0 0] := (((Blk.new rfl).gr ((Gr.refl _).alloc _)).gr ((Gr.refl _).drew)).grown hgb6 HN0.out
          (refine hK.out _ _ ?_ (fun hHeld => ?_); · (exact ⟨cell_gr C0 (by (repeat (first | exact Gr.refl _ | assumption | apply Gr.alloc | apply Gr.drew | (refine Gr.setCell ?_ (by simp; try omega) _) | refine Gr.trans ?_ (by assumption)))), cell_gr C1 (by (repeat (first | exact Gr.refl _ | assumption | apply Gr.alloc | apply Gr.drew | (refine Gr.setCell ?_ (by simp; try omega) _) | refine Gr.trans ?_ (by assumption))))⟩))
          clear hK K
          try simp only [Act.put, List.setIfInBounds_toArray, List.set_cons_zero, List.set_cons_succ]
          refine next7 (by kernel_rfl) (fun K hK => ?_)
          go_simp
          go_at_call 31
          have KO := OwnR.rd o6
          clear o6
          (with_reducible refine (HallPlay2_calls _ _ _ N i roles (sameOps ops ++ [⟨3, 0, zeroOp⟩]) _ (HN.out.gr ?_) hi (HR.out.gr ?_) (KO.gr ?_) hn5).mono ?_)
          · exact G6.trans (by (repeat (first | exact Gr.refl _ | assumption | apply Gr.alloc | apply Gr.drew | (refine Gr.setCell ?_ (by simp; try omega) _) | refine Gr.trans ?_ (by assumption))))
          · exact G6.trans (by (repeat (first | exact Gr.refl _ | assumption | apply Gr.alloc | apply Gr.drew | (refine Gr.setCell ?_ (by simp; try omega) _) | refine Gr.trans ?_ (by assumption))))
          · (repeat (first | exact Gr.refl _ | assumption | apply Gr.alloc | apply Gr.drew | (refine Gr.setCell ?_ (by simp; try omega) _) | refine Gr.trans ?_ (by assumption)))
          rw [HP.out]; rintro _ w7 ⟨v7, u7, rfl, i7, j7, g7⟩
          simp only [] at i7 j7
          obtain ⟨na, mn7, nb, bn7, nc, jn7, rfl, -⟩ := i7.now.open_
          obtain ⟨la7, lc7, rfl, -, -⟩ := j7.now.len
          have hw7 := g7.le
          have bs := bX.gr g7
          have S0 := bs.cell (i := 0) (v := .slice none 0 0) rfl
          have SF0 := bs.frozen 0
          have bs1 := bs.set 0 (.slice na kd.case.mark.length mn7)
          have S1 := bs1.cell (i := 1) (v := .slice none 0 0) rfl
          have SF1 := bs1.frozen 1
          have bs2 := bs1.set 1 (.slice nb kd.case.busy.length bn7)
          have S2 := bs2.cell (i := 2) (v := .slice none 0 0) rfl
          have SF2 := bs2.frozen 2
          have bs3 := bs2.set 2 (.slice nc kd.items.length jn7)
          (refine hK.out _ _ ?_ (fun hHeld => ?_); · (exact ⟨cell_gr C0 (by (repeat (first | exact Gr.refl _ | assumption | apply Gr.alloc | apply Gr.drew | (refine Gr.setCell ?_ (by simp; try omega) _) | refine Gr.trans ?_ (by assumption)))), cell_gr C1 (by (repeat (first | exact Gr.refl _ | assumption | apply Gr.alloc | apply Gr.drew | (refine Gr.setCell ?_ (by simp; try omega) _) | refine Gr.trans ?_ (by assumption))))⟩))
          clear hK K
          try simp only [Act.put, List.setIfInBounds_toArray, List.set_cons_zero, List.set_cons_succ]
          (refine hold8 (v := ?_) (by kernel_rfl) (by kernel_rfl) (by kernel_rfl) (fun _ _ _ h => h) (by rfl) (fun w' hSw => ?_) (by assumption) ?_; rotate_left 1; · ((try dsimp only at hSw); (try go_simp); (try (with_reducible rfl))); (try simp only [Act.put, List.setIfInBounds_toArray, List.set_cons_zero, List.set_cons_succ]))
          (refine hold9 (v := ?_) (by kernel_rfl) (by kernel_rfl) (by kernel_rfl) (fun _ _ _ h => h) (by rfl) (fun w' hSw => ?_) (by assumption) ?_; rotate_left 1; · ((try dsimp only at hSw); (try go_simp); (try (with_reducible rfl))); (try simp only [Act.put, List.setIfInBounds_toArray, List.set_cons_zero, List.set_cons_succ]))
          (refine hold10 (v := ?_) (by kernel_rfl) (by kernel_rfl) (by kernel_rfl) (fun _ _ _ h => h) (by rfl) (fun w' hSw => ?_) (by assumption) ?_; rotate_left 1; · ((try dsimp only at hSw); (try go_simp); (try (with_reducible rfl))); (try simp only [Act.put, List.setIfInBounds_toArray, List.set_cons_zero, List.set_cons_succ]))
          (refine hold11 (v := ?_) (by kernel_rfl) (by kernel_rfl) (by kernel_rfl) (fun _ _ _ h => h) (by rfl) (fun w' hSw => ?_) (by assumption) ?_; rotate_left 1; · ((try dsimp only at hSw); (try go_simp); (try (with_reducible rfl))); (try simp only [Act.put, List.setIfInBounds_toArray, List.set_cons_zero, List.set_cons_succ]))
          have HEN := bX.lt
          refine next13 (by kernel_rfl) (fun K hK => ?_)
          go_simp
          (refine hK.out _ _ ?_ (fun hHeld => ?_); · (exact ⟨cell_gr C0 (by (repeat (first | exact Gr.refl _ | assumption | apply Gr.alloc | apply Gr.drew | (refine Gr.setCell ?_ (by simp; try omega) _) | refine Gr.trans ?_ (by assumption)))), cell_gr C1 (by (repeat (first | exact Gr.refl _ | assumption | apply Gr.alloc | apply Gr.drew | (refine Gr.setCell ?_ (by simp; try omega) _) | refine Gr.trans ?_ (by assumption))))⟩))
          clear hK K
          try simp only [Act.put, List.setIfInBounds_toArray, List.set_cons_zero, List.set_cons_succ]
          (refine hold14 (v := ?_) (by kernel_rfl) (by kernel_rfl) (by kernel_rfl) (fun _ _ _ h => h) (by rfl) (fun w' hSw => ?_) (by assumption) ?_; rotate_left 1; · ((try dsimp only at hSw); (try go_simp); (try (with_reducible rfl))); (try simp only [Act.put, List.setIfInBounds_toArray, List.set_cons_zero, List.set_cons_succ]))
          (refine hold15 (v := ?_) (by kernel_rfl) (by kernel_rfl) (by kernel_rfl) (fun _ _ _ h => h) (by rfl) (fun w' hSw => ?_) (by assumption) ?_; rotate_left 1; · ((try dsimp only at hSw); (try go_simp); (try (with_reducible rfl))); (try simp only [Act.put, List.setIfInBounds_toArray, List.set_cons_zero, List.set_cons_succ]))
          refine wpAnyH_done (by kernel_rfl) ?_ _
          have hne7 : ∀ j : Nat, ¬ ((fun b => w6.heap.size ≤ b) (⟨wr.heap.size, j, none⟩ : Addr).block) := fun j h => by simp at h; omega
          have bF := bs3
          have DF := (i7.kp (((set_kp (a := ⟨wr.heap.size, 0, none⟩) (hne7 0) _).trans (set_kp (a := ⟨wr.heap.size, 1, none⟩) (hne7 1) _)).trans (set_kp (a := ⟨wr.heap.size, 2, none⟩) (hne7 2) _))).now (w := ((w7.setCell ⟨wr.heap.size, 0, none⟩ (.slice na kd.case.mark.length mn7)).setCell ⟨wr.heap.size, 1, none⟩ (.slice nb kd.case.busy.length bn7)).setCell ⟨wr.heap.size, 2, none⟩ (.slice nc kd.items.length jn7))
          have AF := (j7.kp (((set_kp (a := ⟨wr.heap.size, 0, none⟩) (hne7 0) _).trans (set_kp (a := ⟨wr.heap.size, 1, none⟩) (hne7 1) _)).trans (set_kp (a := ⟨wr.heap.size, 2, none⟩) (hne7 2) _))).now (w := ((w7.setCell ⟨wr.heap.size, 0, none⟩ (.slice na kd.case.mark.length mn7)).setCell ⟨wr.heap.size, 1, none⟩ (.slice nb kd.case.busy.length bn7)).setCell ⟨wr.heap.size, 2, none⟩ (.slice nc kd.items.length jn7))
          have GF : Gr w1 (((w7.setCell ⟨wr.heap.size, 0, none⟩ (.slice na kd.case.mark.length mn7)).setCell ⟨wr.heap.size, 1, none⟩ (.slice nb kd.case.busy.length bn7)).setCell ⟨wr.heap.size, 2, none⟩ (.slice nc kd.items.length jn7)) := (((G6.trans (g7)).setCell (by simp; omega) _).setCell (by simp; omega) _).setCell (by simp; omega) _
          clear hne7
          clear hHeld
          go_wp2_with fail
          go_meet
          case rel => exact ⟨_, _, _, _, _, _, _, _, _, rfl, rfl, rfl, bF, DF, AF, GF⟩
      case rest =>
        obtain ⟨X, la, ma, ba, ia, lc, mn, bn, jn, rfl, rfl, rfl, bX, iX, jX, gX⟩ := hcut
        have D0 := cell_gr B0 gX
        have D1 := cell_gr B1 gX
        have HGX := Lib.hid gX
        have HBX := Lib.hid bX
        have HIX := Lib.hid iX
        have HJX := Lib.hid jX
        clear gX bX iX jX B0 B1
        go_wp2_with fail
        refine (DeskPlay_calls _ _ _ N i roles ops _ (HN.out.gr HGX.out) hi (HR.out.gr HGX.out) (HU.out.gr HGX.out) (by omega)).mono ?_
        rw [HQ.out]; rintro _ w8 ⟨v8, y8, rfl, i8, j8, g8⟩
        simp only [] at i8 j8
        obtain ⟨na, mn7, nb, bn7, nc, jn7, rfl, -⟩ := i8.open_
        obtain ⟨lb, ld, rfl, -, -⟩ := j8.len
        have GE : Gr w8 (w8.alloc (.cells #[.slice na k2.case.mark.length mn7, .slice nb k2.case.busy.length bn7, .slice nc k2.items.length jn7] 66)) := (Gr.refl _).alloc _
        have bY : Blk (w8.alloc (.cells #[.slice na k2.case.mark.length mn7, .slice nb k2.case.busy.length bn7, .slice nc k2.items.length jn7] 66)) w8.heap.size 66 #[.slice na k2.case.mark.length mn7, .slice nb k2.case.busy.length bn7, .slice nc k2.items.length jn7] := Blk.new rfl
        have HGF := Lib.hid ((HGZ.out.trans HGX.out).trans (g8.trans GE))
        by_cases he : e2 = 0
        · skip
          subst he
          obtain ⟨rfl, t4, t5⟩ := HT2.out rfl
          have hl : l.length = 2 * ops.length + 1 := by rw [t4, List.length_append, flat_two, t5]; rfl
          have hJX := HJX.out.gr (g8.trans GE)
          have hJY := j8.gr GE
          have bX := HBX.out.gr (g8.trans GE)
          have iX := HIX.out.gr (g8.trans GE)
          have iY := i8.gr GE
          rw [t5] at hJY ⊢
          rw [hl] at hJX ⊢
          obtain ⟨wD, hD⟩ : ∃ wD, wD = w8.alloc (.cells #[.slice na k2.case.mark.length mn7, .slice nb k2.case.busy.length bn7, .slice nc k2.items.length jn7] 66) := ⟨_, rfl⟩
          rw [← hD] at hJX hJY bX iX iY bY HGF
          have HD := Lib.hid hD
          have HT4 := Lib.hid t4
          have HT5 := Lib.hid t5
          have HLX := Lib.hid hl
          have HX := Lib.hid hJX
          have HY := Lib.hid hJY
          have HBX := Lib.hid bX
          have HBY := Lib.hid bY
          have HIX := Lib.hid iX
          have HIY := Lib.hid iY
          clear i8 j8 g8 GE t4 t5 hl hJX hJY bX bY iX iY hD
          go_wp2_with fail
          rw [← HD.out]
          go_loopw [121] (fun i wr => ∃ k : Nat, k ≤ ops.length ∧ i = .int .i64 k ∧ Gr wD wr) (fun i _ => ops.length - (intOf i).toNat)
          case atStart => exact ⟨0, Nat.zero_le _, rfl, Gr.refl _⟩
          case round =>
            rename_i wr _
            obtain ⟨k, hk, rfl, hgr⟩ := hrel
            by_cases hlt : k < ops.length
            · have hx := HLX.out
              have hy := HT5.out
              have hxy : ix l (2 * k) = ix l2 k := by rw [HT4.out, flat_at l2 (by omega)]
              obtain ⟨b, o, rfl, c0, c1, hI⟩ := (HX.out.gr hgr).ans (i := 2 * k) (by omega)
              obtain ⟨b', o', rfl, d0, d1, _⟩ := (HY.out.gr hgr).ans (i := k) (by omega)
              rw [hxy] at c0 c1
              have i1 : (0 : Int) ≤ (k : Int) := by omega
              have i2 : (k : Int) < (ops.length : Int) := by omega
              clear hx hy hxy
              go_wp2_with fail
              go_quiet (fail)
              go_wp2_with fail
              go_roundw
              case rel => exact ⟨k + 1, by omega, by go_num, hgr.drewN _⟩
              case measure => simp [intOf]; omega
            · have bX := HBX.out.gr hgr
              have bY := HBY.out.gr hgr
              have T0 := bX.cell (i := 0) (v := .slice ma k2.case.mark.length mn) rfl
              have T1 := bX.cell (i := 1) (v := .slice ba k2.case.busy.length bn) rfl
              have T2 := bX.cell (i := 2) (v := .slice ia k2.items.length jn) rfl
              have U0 := bY.cell (i := 0) (v := .slice na k2.case.mark.length mn7) rfl
              have U1 := bY.cell (i := 1) (v := .slice nb k2.case.busy.length bn7) rfl
              have U2 := bY.cell (i := 2) (v := .slice nc k2.items.length jn7) rfl
              clear bX bY
              go_wp2_with fail
              refine (SameDesk_self _ _ k2 _ (HIX.out.gr hgr) (HIY.out.gr hgr)).mono ?_
              rintro _ w9 ⟨rfl, g9⟩
              go_wp2_with fail
              go_ret
              exact ⟨rfl, (HGF.out.trans hgr).trans g9⟩
        · skip
          have he2 : (e2 == 0) = false := by simpa using he
          clear bY i8 j8 g8 GE
          go_wp2_with fail
          go_ret
          exact ⟨rfl, HGF.out⟩
end Go.Proofs.Ytidpppfimkhgkaa
