/- Contracts of siphon.whole, Siphon, Trap. -/
import Derived.Test.YtmigejcejnofiaaSiph
import Derived.Test.YtmigejcejnofiaaTranFn
import Derived.Test.YtmigejcejnofiaaFnAt
import Derived.Test.YtmigejcejnofiaaNet4
import Derived.Deep.RegionHeld3
namespace Go.Proofs.Ytmigejcejnofiaa
open Go.RowKit Go.Tok
set_option linter.unusedVariables false

theorem whole1_answers (W : World) (H : Nat) (n : Int) (hc : W.cell? ⟨H, 0, none⟩ = some (.int .i64 n)) (hn : I64 n) : AnswersAt Try.prog 102 #[.pointer (some ⟨H, 0, none⟩)] (outB n) W := by
  intro x hx
  have h1 := hx.1
  have h2 := hx.2
  have h3 := hn.1
  have h4 := hn.2
  by_cases h : x < 0
  · go_enter Try.func102, Try.ntmps102
    go_wp2
    go_ret
    exact ⟨ret_bool (by rw [outB_def]; simp [h]), rfl⟩
  · have h : 0 ≤ x := by omega
    go_enter Try.func102, Try.ntmps102
    go_wp2
    all_goals go_ret
    all_goals exact ⟨ret_bool (by rw [outB_def, Bool.eq_iff_iff]; simp; omega), rfl⟩

set_option maxHeartbeats 1000000 in
theorem whole_calls (v u : Value) (N : NetD) (l : List Int) (w : World) (hN : NetR w v N) (hu : Ints w u l) :
    Calls Try.prog 64 #[v, u] w fun e w' => e = .returned (.bool (wholeB N l)) ∧ Gr w w' := by
  have eg : ∀ args w, (callFunc 102 args).run Try.prog w = .ok (.enter 102 args) w := (Go.Proofs.enters_of Try.func102 (by kernel_rfl) rfl)
  obtain ⟨a, cap, rfl, hnl, hncap, hpl, hT⟩ := hN.open_
  have hpl1 := hpl.1
  have hpl2 := hpl.2
  obtain ⟨ua, uc, rfl, ul, ul'⟩ := hu.len
  cases h : netOkB N
  · have e1 := wrongC_no h
    have HC := Lib.hid (show wholeB N l = false by rw [wholeB_def, h]; rfl)
    clear h
    go_enter Try.func64, Try.ntmps64
    go_wp2_with fail
    refine (Wrong_calls _ N _ (hN.alloc _)).mono ?_
    rw [e1]; rintro _ w1 ⟨rfl, g1⟩
    go_wp2_with fail
    go_ret
    exact ⟨ret_bool HC.out.symm, by (repeat (first | exact Gr.refl _ | assumption | apply Gr.alloc | apply Gr.drew | apply Gr.drewN | refine Gr.trans ?_ (by assumption)))⟩
  · have e1 := wrongC_yes h
    have HC := Lib.hid (show wholeB N l = !(l.any (outB N.places)) by rw [wholeB_def, h]; rfl)
    clear h
    go_enter Try.func64, Try.ntmps64
    go_wp2_with fail
    refine (Wrong_calls _ N _ (hN.alloc _)).mono ?_
    rw [e1]; rintro _ w1 ⟨rfl, g1⟩
    have B0 := box_cell g1 (i := 0) rfl
    go_wp2_with fail
    refine (ContainsFuncAt_calls _ l _ _ _ _ eg (by (repeat (first | assumption | exact Ints.nil _ | (refine Ints.lit ?_ rfl rfl rfl ?_ ?_; ((focus (simp; done))); all_goals decide) | apply Ints.alloc | apply Ints.drew | refine Ints.gr ?_ (show Gr _ _ from by assumption)))) (whole1_answers _ _ N.places B0 hpl)).mono ?_
    rintro _ _ ⟨rfl, rfl⟩
    go_wp2_with fail
    go_ret
    exact ⟨ret_bool HC.out.symm, by (repeat (first | exact Gr.refl _ | assumption | apply Gr.alloc | apply Gr.drew | apply Gr.drewN | refine Gr.trans ?_ (by assumption)))⟩


set_option maxHeartbeats 1000000 in
theorem Siphon1_answers (w0 : World) (H s : Nat) (ts : List TranD) (hs : s < 65536) (hc : w0.cell? ⟨H, 0, none⟩ = some (.int .u32 (s : Int))) (hl : ∀ t ∈ ts, t.pre.length ≤ 16 ∧ t.post.length ≤ 16) :
    AnswersTr Try.prog 66 #[.pointer (some ⟨H, 0, none⟩)] ts (fun t => badT t s) w0 := by
  intro W vp vq t ht g hlab hp hq
  obtain ⟨l1, l2⟩ := hl t ht
  have o1 := ofN_lt l1
  have o2 := ofN_lt l2
  have e1 := u32_and_nat (ofN t.post) s (by omega) (by omega)
  have e2 := u32_and_nat (ofN t.pre) s (by omega) (by omega)
  have hC := cell_gr hc g
  obtain ⟨pa, pc, rfl, _, _⟩ := hp.len
  obtain ⟨qa, qc, rfl, _, _⟩ := hq.len
  have hb := badT_def t s
  cases h1 : (ofN t.post &&& s != 0)
  · have q1 : (((ofN t.post &&& s : Nat) : Int) != 0) = false := by
      rw [← h1, Bool.eq_iff_iff]; simp
    have HB := Lib.hid (show badT t s = false by rw [hb, h1]; rfl)
    clear hb h1
    go_enter Try.func66, Try.ntmps66
    go_wp2_with fail
    have hC2 : (W.alloc (.cells #[.int .i64 t.label, .slice pa t.pre.length pc, .slice qa t.post.length qc] 74)).cell? ⟨H, 0, none⟩ = some (.int .u32 (s : Int)) := cell_gr hC ((Gr.refl _).alloc _)
    go_quiet ((go_at_call 67; first | exact Calls.quiet_of_same (same_quiet (of_calls _ t.post _ (hq.gr (by (repeat (first | exact Gr.refl _ | assumption | apply Gr.alloc | apply Gr.drew | apply Gr.drewN | refine Gr.trans ?_ (by assumption))))) l2)) | exact Calls.quiet_of_same (same_quiet (of_calls _ t.pre _ (hp.gr (by (repeat (first | exact Gr.refl _ | assumption | apply Gr.alloc | apply Gr.drew | apply Gr.drewN | refine Gr.trans ?_ (by assumption))))) l1))))
    all_goals go_wp2_with fail
    all_goals go_ret
    all_goals exact ⟨ret_bool HB.out.symm, by (repeat (first | exact Gr.refl _ | assumption | apply Gr.alloc | apply Gr.drew | apply Gr.drewN | refine Gr.trans ?_ (by assumption)))⟩
  · have q1 : (((ofN t.post &&& s : Nat) : Int) != 0) = true := by
      rw [← h1, Bool.eq_iff_iff]; simp
    cases h2 : (ofN t.pre &&& s == 0)
    · have q2 : (((ofN t.pre &&& s : Nat) : Int) == 0) = false := by
        rw [← h2, Bool.eq_iff_iff]; simp
      have HB := Lib.hid (show badT t s = false by rw [hb, h1, h2]; rfl)
      clear hb h1 h2
      go_enter Try.func66, Try.ntmps66
      go_wp2_with fail
      have hC2 : (W.alloc (.cells #[.int .i64 t.label, .slice pa t.pre.length pc, .slice qa t.post.length qc] 74)).cell? ⟨H, 0, none⟩ = some (.int .u32 (s : Int)) := cell_gr hC ((Gr.refl _).alloc _)
      go_quiet ((go_at_call 67; first | exact Calls.quiet_of_same (same_quiet (of_calls _ t.post _ (hq.gr (by (repeat (first | exact Gr.refl _ | assumption | apply Gr.alloc | apply Gr.drew | apply Gr.drewN | refine Gr.trans ?_ (by assumption))))) l2)) | exact Calls.quiet_of_same (same_quiet (of_calls _ t.pre _ (hp.gr (by (repeat (first | exact Gr.refl _ | assumption | apply Gr.alloc | apply Gr.drew | apply Gr.drewN | refine Gr.trans ?_ (by assumption))))) l1))))
      all_goals go_wp2_with fail
      all_goals go_ret
      all_goals exact ⟨ret_bool HB.out.symm, by (repeat (first | exact Gr.refl _ | assumption | apply Gr.alloc | apply Gr.drew | apply Gr.drewN | refine Gr.trans ?_ (by assumption)))⟩
    · have q2 : (((ofN t.pre &&& s : Nat) : Int) == 0) = true := by
        rw [← h2, Bool.eq_iff_iff]; simp
      have HB := Lib.hid (show badT t s = true by rw [hb, h1, h2]; rfl)
      clear hb h1 h2
      go_enter Try.func66, Try.ntmps66
      go_wp2_with fail
      have hC2 : (W.alloc (.cells #[.int .i64 t.label, .slice pa t.pre.length pc, .slice qa t.post.length qc] 74)).cell? ⟨H, 0, none⟩ = some (.int .u32 (s : Int)) := cell_gr hC ((Gr.refl _).alloc _)
      go_quiet ((go_at_call 67; first | exact Calls.quiet_of_same (same_quiet (of_calls _ t.post _ (hq.gr (by (repeat (first | exact Gr.refl _ | assumption | apply Gr.alloc | apply Gr.drew | apply Gr.drewN | refine Gr.trans ?_ (by assumption))))) l2)) | exact Calls.quiet_of_same (same_quiet (of_calls _ t.pre _ (hp.gr (by (repeat (first | exact Gr.refl _ | assumption | apply Gr.alloc | apply Gr.drew | apply Gr.drewN | refine Gr.trans ?_ (by assumption))))) l1))))
      all_goals go_wp2_with fail
      all_goals go_ret
      all_goals exact ⟨ret_bool HB.out.symm, by (repeat (first | exact Gr.refl _ | assumption | apply Gr.alloc | apply Gr.drew | apply Gr.drewN | refine Gr.trans ?_ (by assumption)))⟩
end Go.Proofs.Ytmigejcejnofiaa
