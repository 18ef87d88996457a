/- Contracts of flow.Kept and flow.Round. -/
import Derived.Test.YtkpbhkfpkoiilaaFlow3
import Derived.Deep.RegionHeld3
namespace Go.Proofs.Ytkpbhkfpkoiilaa
open Go.RowKit Go.Tok
set_option linter.unusedVariables false

set_option maxHeartbeats 4000000 in
set_option maxRecDepth 100000 in
theorem Kept_calls (v u : Value) (N : NetD) (y : List Int) (w : World) (hN : NetR w v N) (hu : Ints w u y) :
    Calls Try.prog 39 #[v, u] w fun e w' => e = .returned (.bool (keptB N y)) ∧ Gr w w' := by
  obtain ⟨a, cap, rfl, hnl, hncap, hpl, hT⟩ := hN.open_
  have hpl1 := hpl.1
  have hpl2 := hpl.2
  obtain ⟨ua, uc, rfl, ul, ul'⟩ := hu.len
  cases h1 : netOkB N
  · have HC := Lib.hid (keptB_bad1 (y := y) h1)
    have e1 := wrongC_no h1
    go_enter Try.func39, Try.ntmps39
    go_wp2_with fail
    refine (Wrong_calls _ N _ (hN.alloc _)).mono ?_
    rw [e1]; rintro _ w1 ⟨rfl, g1⟩
    have B0 := box_cell g1 (i := 0) rfl
    have B1 := box_cell g1 (i := 1) rfl
    go_wp2_with fail
    go_ret
    exact ⟨ret_bool HC.out.symm, by (repeat (first | exact Gr.refl _ | assumption | apply Gr.alloc | apply Gr.drew | apply Gr.drewN | refine Gr.trans ?_ (by assumption)))⟩
  have e1 := wrongC_yes h1
  cases h2 : boundedB y N.places (-1000000)
  · have HC := Lib.hid (keptB_bad2 h2)
    go_enter Try.func39, Try.ntmps39
    go_wp2_with fail
    refine (Wrong_calls _ N _ (hN.alloc _)).mono ?_
    rw [e1]; rintro _ w1 ⟨rfl, g1⟩
    have B0 := box_cell g1 (i := 0) rfl
    have B1 := box_cell g1 (i := 1) rfl
    go_wp2_with fail
    have hb := bounded_calls (.slice ua y.length uc) y N.places (-1000000) w1 ((hu.alloc _).gr g1) hpl (by decide)
    rw [h2] at hb
    refine hb.mono ?_
    rintro _ w2 ⟨rfl, g2⟩
    go_wp2_with fail
    go_ret
    exact ⟨ret_bool HC.out.symm, by (repeat (first | exact Gr.refl _ | assumption | apply Gr.alloc | apply Gr.drew | apply Gr.drewN | refine Gr.trans ?_ (by assumption)))⟩
  have HOK := Lib.hid h1
  have HBD := Lib.hid h2
  go_enter Try.func39, Try.ntmps39
  go_wp2_with fail
  refine (Wrong_calls _ N _ (hN.alloc _)).mono ?_
  rw [e1]; rintro _ w1 ⟨rfl, g1⟩
  have B0 := box_cell g1 (i := 0) rfl
  have B1 := box_cell g1 (i := 1) rfl
  go_wp2_with fail
  have hb := bounded_calls (.slice ua y.length uc) y N.places (-1000000) w1 ((hu.alloc _).gr g1) hpl (by decide)
  rw [h2] at hb
  refine hb.mono ?_
  rintro _ w2 ⟨rfl, g2⟩
  have B0 := cell_gr B0 g2
  have B1 := cell_gr B1 g2
  have G2 : Gr w w2 := (box_gr g1).trans g2
  clear h1 h2 hb g1 g2
  go_wp2_with fail
  go_loopw [20] (fun i wr => ∃ k : Nat, k ≤ N.trans.length ∧ i = .int .i64 k ∧ KeptUpto N y k ∧ Gr w wr) (fun i _ => N.trans.length - (intOf i).toNat)
  case atStart => exact ⟨0, Nat.zero_le _, rfl, KeptUpto.zero _ _, G2⟩
  case round =>
    rename_i wr _
    obtain ⟨k, hk, rfl, hall, hgr⟩ := hrel
    by_cases hlt : k < N.trans.length
    · obtain ⟨b, o, vp, vq, rfl, c0, c1, c2, hlab, hp, hq⟩ := (hT.gr hgr).at_ hlt
      obtain ⟨pa, pc, rfl, pl, pl'⟩ := hp.len
      obtain ⟨qa, qc, rfl, ql, ql'⟩ := hq.len
      have WK := wok_tr HOK.out HBD.out hlt
      have wk1 := WK.1
      have wk2 := WK.2
      clear WK
      by_cases hwt : weighF y (N.tr k).pre = weighF y (N.tr k).post
      · have q1 : (weighF y (N.tr k).pre != weighF y (N.tr k).post) = false := by simp [hwt]
        have HW := Lib.hid hwt
        clear hwt
        go_wp2_with fail
        have b0 : Blk (wr.alloc (.cells #[.int .i64 (N.tr k).label, .slice pa (N.tr k).pre.length pc, .slice qa (N.tr k).post.length qc] 54)) wr.heap.size 54 #[.int .i64 (N.tr k).label, .slice pa (N.tr k).pre.length pc, .slice qa (N.tr k).post.length qc] := Blk.new rfl
        have C1 := b0.cell (i := 1) rfl
        have C2 := b0.cell (i := 2) rfl
        clear b0
        have J0 : Ints wr (.slice ua y.length uc) y := hu.gr hgr
        go_region_held3 (fun w' => w'.cell? ⟨wr.heap.size, 1, none⟩ = some (.slice pa (N.tr k).pre.length pc) ∧ w'.cell? ⟨wr.heap.size, 2, none⟩ = some (.slice qa (N.tr k).post.length qc)) (first | go_keep | exact ⟨cell_gr C1 (by (repeat (first | exact Gr.refl _ | assumption | apply Gr.alloc | apply Gr.drew | apply Gr.drewN | refine Gr.trans ?_ (by assumption)))), cell_gr C2 (by (repeat (first | exact Gr.refl _ | assumption | apply Gr.alloc | apply Gr.drew | apply Gr.drewN | refine Gr.trans ?_ (by assumption))))⟩) (first | (go_at_call_of 40 (Value.slice pa (N.tr k).pre.length pc); (with_reducible refine (Weigh_calls _ (.slice pa (N.tr k).pre.length pc) y (N.tr k).pre _ (J0.gr (by (repeat (first | exact Gr.refl _ | assumption | apply Gr.alloc | apply Gr.drew | apply Gr.drewN | refine Gr.trans ?_ (by assumption))))) (hp.gr (by (repeat (first | exact Gr.refl _ | assumption | apply Gr.alloc | apply Gr.drew | apply Gr.drewN | refine Gr.trans ?_ (by assumption))))) wk1).mono ?_); rintro _ w5 ⟨rfl, g5⟩) | (go_at_call_of 40 (Value.slice qa (N.tr k).post.length qc); (with_reducible refine (Weigh_calls _ (.slice qa (N.tr k).post.length qc) y (N.tr k).post _ (J0.gr (by (repeat (first | exact Gr.refl _ | assumption | apply Gr.alloc | apply Gr.drew | apply Gr.drewN | refine Gr.trans ?_ (by assumption))))) (hq.gr (by (repeat (first | exact Gr.refl _ | assumption | apply Gr.alloc | apply Gr.drew | apply Gr.drewN | refine Gr.trans ?_ (by assumption))))) wk2).mono ?_); rintro _ w6 ⟨rfl, g6⟩))
        all_goals go_wp2_with fail
        all_goals go_roundw
        all_goals first | exact ⟨k + 1, by omega, by go_num, hall.succ HW.out, by (repeat (first | exact Gr.refl _ | assumption | apply Gr.alloc | apply Gr.drew | apply Gr.drewN | refine Gr.trans ?_ (by assumption)))⟩ | (simp [intOf]; omega)
      · have q1 : (weighF y (N.tr k).pre != weighF y (N.tr k).post) = true := by simpa using hwt
        have HW := Lib.hid hwt
        clear hwt
        go_wp2_with fail
        have b0 : Blk (wr.alloc (.cells #[.int .i64 (N.tr k).label, .slice pa (N.tr k).pre.length pc, .slice qa (N.tr k).post.length qc] 54)) wr.heap.size 54 #[.int .i64 (N.tr k).label, .slice pa (N.tr k).pre.length pc, .slice qa (N.tr k).post.length qc] := Blk.new rfl
        have C1 := b0.cell (i := 1) rfl
        have C2 := b0.cell (i := 2) rfl
        clear b0
        have J0 : Ints wr (.slice ua y.length uc) y := hu.gr hgr
        go_region_held3 (fun w' => w'.cell? ⟨wr.heap.size, 1, none⟩ = some (.slice pa (N.tr k).pre.length pc) ∧ w'.cell? ⟨wr.heap.size, 2, none⟩ = some (.slice qa (N.tr k).post.length qc)) (first | go_keep | exact ⟨cell_gr C1 (by (repeat (first | exact Gr.refl _ | assumption | apply Gr.alloc | apply Gr.drew | apply Gr.drewN | refine Gr.trans ?_ (by assumption)))), cell_gr C2 (by (repeat (first | exact Gr.refl _ | assumption | apply Gr.alloc | apply Gr.drew | apply Gr.drewN | refine Gr.trans ?_ (by assumption))))⟩) (first | (go_at_call_of 40 (Value.slice pa (N.tr k).pre.length pc); (with_reducible refine (Weigh_calls _ (.slice pa (N.tr k).pre.length pc) y (N.tr k).pre _ (J0.gr (by (repeat (first | exact Gr.refl _ | assumption | apply Gr.alloc | apply Gr.drew | apply Gr.drewN | refine Gr.trans ?_ (by assumption))))) (hp.gr (by (repeat (first | exact Gr.refl _ | assumption | apply Gr.alloc | apply Gr.drew | apply Gr.drewN | refine Gr.trans ?_ (by assumption))))) wk1).mono ?_); rintro _ w5 ⟨rfl, g5⟩) | (go_at_call_of 40 (Value.slice qa (N.tr k).post.length qc); (with_reducible refine (Weigh_calls _ (.slice qa (N.tr k).post.length qc) y (N.tr k).post _ (J0.gr (by (repeat (first | exact Gr.refl _ | assumption | apply Gr.alloc | apply Gr.drew | apply Gr.drewN | refine Gr.trans ?_ (by assumption))))) (hq.gr (by (repeat (first | exact Gr.refl _ | assumption | apply Gr.alloc | apply Gr.drew | apply Gr.drewN | refine Gr.trans ?_ (by assumption))))) wk2).mono ?_); rintro _ w6 ⟨rfl, g6⟩))
        all_goals go_wp2_with fail
        all_goals go_ret
        all_goals exact ⟨ret_bool (keptB_no hlt HW.out).symm, by (repeat (first | exact Gr.refl _ | assumption | apply Gr.alloc | apply Gr.drew | apply Gr.drewN | refine Gr.trans ?_ (by assumption)))⟩
    · go_wp2_with fail
      go_ret
      exact ⟨ret_bool (hall.all (by omega) HOK.out HBD.out).symm, hgr⟩

theorem Round1_answers : Answers Try.prog 59 #[] nz := by
  intro W x hx
  go_enter Try.func59, Try.ntmps59
  go_wp2
  go_ret
  exact ⟨ret_bool (by rw [nz_def]; by_cases h : x = 0 <;> simp [h]), rfl⟩

set_option maxHeartbeats 1000000 in
theorem Round_calls (v u : Value) (N : NetD) (c : List Int) (w : World) (hN : NetR w v N) (hu : Ints w u c) :
    Calls Try.prog 42 #[v, u] w fun e w' => e = .returned (.bool (roundB N c)) ∧ Gr w w' := by
  have eg : ∀ args w, (callFunc 59 args).run Try.prog w = .ok (.enter 59 args) w := (Go.Proofs.enters_of Try.func59 (by kernel_rfl) rfl)
  have hc := Effect_calls v u N c
  obtain ⟨a, cap, rfl, hnl, hncap, hpl, hT⟩ := hN.open_
  have hpl1 := hpl.1
  have hpl2 := hpl.2
  obtain ⟨ua, uc, rfl, ul, ul'⟩ := hu.len
  cases hB : effectB N c
  · have hr : roundB N c = false := by rw [roundB_def, hB]; rfl
    have HR := Lib.hid hr
    have HE := Lib.hid (effectF_no hB)
    clear hr hB
    go_enter Try.func42, Try.ntmps42
    go_wp2_with fail
    refine (Effect_calls _ _ N c _ (hN.alloc _) (hu.alloc _)).mono ?_
    rw [HE.out]; rintro _ w1 ⟨v1, rfl, i1, g1⟩
    go_wp2_with fail
    go_ret
    exact ⟨ret_bool HR.out.symm, by (repeat (first | exact Gr.refl _ | assumption | apply Gr.alloc | apply Gr.drew | apply Gr.drewN | refine Gr.trans ?_ (by assumption)))⟩
  · have hr : roundB N c = !((effectL N c).any nz) := by rw [roundB_def, hB]; rfl
    have HR := Lib.hid hr
    have HE := Lib.hid (effectF_yes hB)
    clear hr hB
    go_enter Try.func42, Try.ntmps42
    go_wp2_with fail
    refine (Effect_calls _ _ N c _ (hN.alloc _) (hu.alloc _)).mono ?_
    rw [HE.out]; rintro _ w1 ⟨v1, rfl, i1, g1⟩
    go_wp2_with (go_at_call 34; refine (ContainsFunc_calls _ _ _ _ _ _ eg i1 Round1_answers).mono ?_; rintro e w' ⟨rfl, rfl⟩)
    go_ret
    exact ⟨ret_bool HR.out.symm, by (repeat (first | exact Gr.refl _ | assumption | apply Gr.alloc | apply Gr.drew | apply Gr.drewN | refine Gr.trans ?_ (by assumption)))⟩
end Go.Proofs.Ytkpbhkfpkoiilaa
