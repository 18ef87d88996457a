/- Contracts of the functions of package net: what each call answers at any net that reads as data; nothing that lay there turns. -/
import Derived.Test.YtiflolklgmmgeaaDoorGM
import Derived.Test.YtiflolklgmmgeaaDoorPA
namespace Go.Proofs.YtiflolklgmmgeaaDoor
open Go.RowKit Go.Tok
set_option linter.unusedVariables false

theorem Wrong1_answers : Answers Tryd.prog 26 #[] badW := by
  intro W x hx
  by_cases h : x < 0
  · go_enter Tryd.func26, Tryd.ntmps26
    go_wp2
    go_ret
    exact ⟨ret_bool (by rw [badW_def]; simp [h]), rfl⟩
  · have h : 0 ≤ x := by omega
    go_enter Tryd.func26, Tryd.ntmps26
    go_wp2
    all_goals go_ret
    all_goals exact ⟨ret_bool (by rw [badW_def, Bool.eq_iff_iff]; simp; omega), rfl⟩

set_option maxHeartbeats 4000000 in
theorem Wrong_calls (v : Value) (N : NetD) (w : World) (hN : NetR w v N) :
    Calls Tryd.prog 10 #[v] w fun e w' => e = .returned (.int .i64 (wrongC N)) ∧ Gr w w' := by
  obtain ⟨a, cap, rfl, hl, hcap, hpl, hT⟩ := hN.open_
  have hpl1 := hpl.1
  have hpl2 := hpl.2
  have eg : ∀ args w, (callFunc 26 args).run Tryd.prog w = .ok (.enter 26 args) w := (Go.Proofs.enters_of Tryd.func26 (by kernel_rfl) rfl)
  by_cases h0 : N.places < 0
  · go_enter Tryd.func10, Tryd.ntmps10
    go_wp2
    go_ret
    exact ⟨ret_i64 (wrong_head (.inl h0)).symm, by (repeat (first | exact Gr.refl _ | assumption | apply Gr.alloc | apply Gr.drew | apply Gr.drewN | refine Gr.trans ?_ (by assumption)))⟩
  by_cases h1 : 16 < N.places
  · have h0' : 0 ≤ N.places := by omega
    go_enter Tryd.func10, Tryd.ntmps10
    go_wp2
    go_ret
    exact ⟨ret_i64 (wrong_head (.inr (.inl h1))).symm, by (repeat (first | exact Gr.refl _ | assumption | apply Gr.alloc | apply Gr.drew | apply Gr.drewN | refine Gr.trans ?_ (by assumption)))⟩
  by_cases h2 : 24 < N.trans.length
  · have h0' : 0 ≤ N.places := by omega
    have h1' : N.places ≤ 16 := by omega
    go_enter Tryd.func10, Tryd.ntmps10
    go_wp2
    go_ret
    exact ⟨ret_i64 (wrong_head (.inr (.inr h2))).symm, by (repeat (first | exact Gr.refl _ | assumption | apply Gr.alloc | apply Gr.drew | apply Gr.drewN | refine Gr.trans ?_ (by assumption)))⟩
  have h0' : 0 ≤ N.places := by omega
  have h1' : N.places ≤ 16 := by omega
  have h2' : N.trans.length ≤ 24 := by omega
  clear h0 h1 h2
  go_enter Tryd.func10, Tryd.ntmps10
  go_wp2
  go_loopw [23] (fun i wr => ∃ k : Nat, k ≤ N.trans.length ∧ i = .int .i64 k ∧ TransOk N k ∧ Gr (w.alloc (.cells #[.int .i64 N.places, .slice a N.trans.length cap] 25)) wr) (fun i _ => N.trans.length - (intOf i).toNat)
  case atStart => exact ⟨0, Nat.zero_le _, rfl, TransOk.zero _, Gr.refl _⟩
  case round =>
    rename_i wr _
    obtain ⟨k, hk, rfl, hall, hgr⟩ := hrel
    have B0 := box_cell hgr (i := 0) rfl
    have B1 := box_cell hgr (i := 1) rfl
    have Bl := box_lt hgr
    have hgr0 := box_gr hgr
    by_cases hlt : k < N.trans.length
    · obtain ⟨b, o, vp, vq, rfl, c0, c1, c2, hlab, hp, hq⟩ := (hT.gr ((Gr.refl _).alloc _)).gr hgr |>.at_ hlt
      have hlab1 := hlab.1
      have hlab2 := hlab.2
      rcases tran_cases N.places (N.tr k) with ⟨hok, t1, t2, t3, t4, t5, t6⟩ | ⟨hbad, hh⟩
      · obtain ⟨pa, pc, rfl, pl, pl'⟩ := hp.len
        obtain ⟨qa, qc, rfl, ql, ql'⟩ := hq.len
        have m1 : (((N.tr k).pre.length : Int) != N.places) = false := by simp [t3]
        have m2 : (((N.tr k).post.length : Int) != N.places) = false := by simp [t4]
        clear t3 t4
        go_wp2_with (go_at_call 27; refine (ContainsFunc_calls _ _ _ _ _ _ eg (by first | exact hp.alloc _ | exact hq.alloc _) Wrong1_answers).mono ?_; rintro e w' ⟨rfl, rfl⟩)
        go_roundw
        case rel => exact ⟨k + 1, by omega, by go_num, hall.succ hok, by (repeat (first | exact Gr.refl _ | assumption | apply Gr.alloc | apply Gr.drew | apply Gr.drewN | refine Gr.trans ?_ (by assumption)))⟩
        case measure => simp [intOf]; omega
      · have hw := wrong_tran hlt hbad
        have HW := Lib.hid hw
        clear hw
        obtain ⟨pa, pc, rfl, pl, pl'⟩ := hp.len
        obtain ⟨qa, qc, rfl, ql, ql'⟩ := hq.len
        have m1 : ∀ h : ((N.tr k).pre.length : Int) = N.places, (((N.tr k).pre.length : Int) != N.places) = false := fun h => by simp [h]
        have m2 : ∀ h : ((N.tr k).post.length : Int) = N.places, (((N.tr k).post.length : Int) != N.places) = false := fun h => by simp [h]
        rcases hh with t1 | ⟨t1, t2⟩ | ⟨t1, t2, t3⟩ | ⟨t1, t2, t3, t4⟩ | ⟨t1, t2, t3, t4, t5⟩ | ⟨t1, t2, t3, t4, t5, t6⟩
        · go_wp2
          go_ret
          exact ⟨ret_i64 HW.out.symm, by (repeat (first | exact Gr.refl _ | assumption | apply Gr.alloc | apply Gr.drew | apply Gr.drewN | refine Gr.trans ?_ (by assumption)))⟩
        · go_wp2
          go_ret
          exact ⟨ret_i64 HW.out.symm, by (repeat (first | exact Gr.refl _ | assumption | apply Gr.alloc | apply Gr.drew | apply Gr.drewN | refine Gr.trans ?_ (by assumption)))⟩
        · clear m1 m2
          go_wp2
          go_ret
          exact ⟨ret_i64 HW.out.symm, by (repeat (first | exact Gr.refl _ | assumption | apply Gr.alloc | apply Gr.drew | apply Gr.drewN | refine Gr.trans ?_ (by assumption)))⟩
        · have m1 := m1 t3
          clear m2 t3
          go_wp2
          go_ret
          exact ⟨ret_i64 HW.out.symm, by (repeat (first | exact Gr.refl _ | assumption | apply Gr.alloc | apply Gr.drew | apply Gr.drewN | refine Gr.trans ?_ (by assumption)))⟩
        · have m1 := m1 t3
          have m2 := m2 t4
          clear t3 t4
          go_wp2_with (go_at_call 27; refine (ContainsFunc_calls _ _ _ _ _ _ eg (by first | exact hp.alloc _ | exact hq.alloc _) Wrong1_answers).mono ?_; rintro e w' ⟨rfl, rfl⟩)
          go_ret
          exact ⟨ret_i64 HW.out.symm, by (repeat (first | exact Gr.refl _ | assumption | apply Gr.alloc | apply Gr.drew | apply Gr.drewN | refine Gr.trans ?_ (by assumption)))⟩
        · have m1 := m1 t3
          have m2 := m2 t4
          clear t3 t4
          go_wp2_with (go_at_call 27; refine (ContainsFunc_calls _ _ _ _ _ _ eg (by first | exact hp.alloc _ | exact hq.alloc _) Wrong1_answers).mono ?_; rintro e w' ⟨rfl, rfl⟩)
          go_ret
          exact ⟨ret_i64 HW.out.symm, by (repeat (first | exact Gr.refl _ | assumption | apply Gr.alloc | apply Gr.drew | apply Gr.drewN | refine Gr.trans ?_ (by assumption)))⟩
    · have hw := hall.all (by omega) h0' h1' h2'
      have HW := Lib.hid hw
      clear hw
      go_wp2
      go_ret
      exact ⟨ret_i64 HW.out.symm, by (repeat (first | exact Gr.refl _ | assumption | apply Gr.alloc | apply Gr.drew | apply Gr.drewN | refine Gr.trans ?_ (by assumption)))⟩
end Go.Proofs.YtiflolklgmmgeaaDoor
