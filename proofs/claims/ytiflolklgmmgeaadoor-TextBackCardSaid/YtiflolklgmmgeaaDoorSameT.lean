/- Contracts of tokenhallref.SameNet and what it calls: whether two nets are the same. -/
import Derived.Test.YtiflolklgmmgeaaDoorGM
import Derived.Test.YtiflolklgmmgeaaDoorPA
import Derived.Test.YtiflolklgmmgeaaDoorGN
namespace Go.Tok
open Go.RowKit
set_option linter.unusedVariables false
def sameT (t u : TranD) : Bool := decide (t.label = u.label) && eqB t.pre u.pre && eqB t.post u.post
theorem sameT_iff {t u : TranD} : sameT t u = true ↔ t = u := by
  cases t; cases u
  simp [sameT, eqB_iff, and_assoc]
theorem sameT_lab {t u : TranD} (h : t.label ≠ u.label) : sameT t u = false := by simp [sameT, h]
theorem sameT_pre {t u : TranD} (h : eqB t.pre u.pre = false) : sameT t u = false := by simp [sameT, h]
theorem sameT_post {t u : TranD} (h : eqB t.post u.post = false) : sameT t u = false := by simp [sameT, h]
theorem sameT_yes {t u : TranD} (h : t.label = u.label) (h1 : eqB t.pre u.pre = true) (h2 : eqB t.post u.post = true) : sameT t u = true := by simp [sameT, h, h1, h2]
def EqT (ts us : List TranD) (k : Nat) : Prop := ∀ i, i < k → ix ts i = ix us i
theorem EqT.zero (ts us : List TranD) : EqT ts us 0 := fun i hi => by omega
theorem EqT.succ {ts us : List TranD} {k : Nat} (h : EqT ts us k) (hk : sameT (ix ts k) (ix us k) = true) : EqT ts us (k + 1) := fun p hp => by
  rcases Nat.lt_or_ge p k with h1 | h1
  · exact h p h1
  · obtain rfl : p = k := by omega
    exact sameT_iff.1 hk
def eqTs (ts us : List TranD) : Bool := decide (ts = us)
theorem eqTs_iff {ts us : List TranD} : eqTs ts us = true ↔ ts = us := by simp [eqTs]
theorem EqT.all {ts us : List TranD} {k : Nat} (h : EqT ts us k) (hl : ts.length = us.length) (hk : ts.length ≤ k) : eqTs ts us = true := eqTs_iff.2 (ext_ix hl fun i hi => h i (by omega))
theorem eqTs_len {ts us : List TranD} (h : ts.length ≠ us.length) : eqTs ts us = false := by
  rw [Bool.eq_false_iff]; intro e; rw [eqTs_iff.1 e] at h; exact h rfl
theorem eqTs_no {ts us : List TranD} {k : Nat} (h : sameT (ix ts k) (ix us k) = false) : eqTs ts us = false := by
  rw [Bool.eq_false_iff]; intro e; rw [eqTs_iff.1 e, sameT_iff.2 rfl] at h; cases h
def sameN (N M : NetD) : Bool := decide (N.places = M.places) && eqTs N.trans M.trans
theorem sameN_iff {N M : NetD} : sameN N M = true ↔ N = M := by
  cases N; cases M
  simp [sameN, eqTs_iff]
theorem sameN_places {N M : NetD} (h : N.places ≠ M.places) : sameN N M = false := by simp [sameN, h]
theorem sameN_trans {N M : NetD} (h : N.places = M.places) : sameN N M = eqTs N.trans M.trans := by simp [sameN, h]
theorem TransR.take {w : World} {a : Option Addr} {n cap m : Nat} {ts : List TranD} (h : TransR w (.slice a n cap) ts) (hm : m ≤ ts.length) : TransR w (.slice a m cap) (ts.take m) := by
  unfold TransR at h ⊢
  obtain ⟨a', cap', h1, h2, h3, h4⟩ := h
  cases h1
  have hl : (ts.take m).length = m := by rw [List.length_take]; omega
  refine ⟨a, cap, by rw [hl], by omega, h3, fun i hi => ?_⟩
  rw [hl] at hi
  have e : (ts.take m).getD i default = ts.getD i default := by simp [List.getD, hi]
  rw [e]
  exact h4 i (by omega)
attribute [irreducible] sameT EqT eqTs sameN
end Go.Tok
namespace Go.Proofs.YtiflolklgmmgeaaDoor
open Go.RowKit Go.Tok
set_option linter.unusedVariables false

set_option maxHeartbeats 1000000 in
set_option maxRecDepth 100000 in
theorem SameNet1_calls (t u : TranD) (p q p' q' : Value) (w : World) (h1 : I64 t.label) (h2 : Ints w p t.pre) (h3 : Ints w q t.post) (k1 : I64 u.label) (k2 : Ints w p' u.pre) (k3 : Ints w q' u.post) :
    Calls Tryd.prog 29 #[.agg #[.int .i64 t.label, p, q], .agg #[.int .i64 u.label, p', q']] w fun e w' => e = .returned (.bool (sameT t u)) ∧ Gr w w' := by
  obtain ⟨pa, pc, rfl, _, _⟩ := h2.len
  obtain ⟨qa, qc, rfl, _, _⟩ := h3.len
  obtain ⟨pa', pc', rfl, _, _⟩ := k2.len
  obtain ⟨qa', qc', rfl, _, _⟩ := k3.len
  by_cases hl : t.label = u.label
  case neg =>
    have HS := Lib.hid (sameT_lab hl)
    have q1 : (t.label == u.label) = false := by simpa using hl
    clear hl
    go_enter Tryd.func29, Tryd.ntmps29
    go_wp2_with fail
    go_ret
    exact ⟨ret_bool HS.out.symm, by (repeat (first | exact Gr.refl _ | assumption | apply Gr.alloc | apply Gr.drew | apply Gr.drewN | refine Gr.trans ?_ (by assumption)))⟩
  have q1 : (t.label == u.label) = true := by simpa using hl
  cases e1 : eqB t.pre u.pre
  case false =>
    have HS := Lib.hid (sameT_pre e1)
    clear hl
    go_enter Tryd.func29, Tryd.ntmps29
    go_wp2_with fail
    refine (Equal_calls _ _ t.pre u.pre _ (by (repeat (first | assumption | exact Ints.nil _ | (refine Ints.lit ?_ rfl rfl rfl ?_ ?_; ((focus (simp; done))); all_goals decide) | apply Ints.alloc | apply Ints.drew | refine Ints.gr ?_ (show Gr _ _ from by assumption)))) (by (repeat (first | assumption | exact Ints.nil _ | (refine Ints.lit ?_ rfl rfl rfl ?_ ?_; ((focus (simp; done))); all_goals decide) | apply Ints.alloc | apply Ints.drew | refine Ints.gr ?_ (show Gr _ _ from by assumption))))).mono ?_
    rw [e1]; rintro _ w1 ⟨rfl, g1⟩
    go_wp2_with fail
    go_ret
    exact ⟨ret_bool HS.out.symm, by (repeat (first | exact Gr.refl _ | assumption | apply Gr.alloc | apply Gr.drew | apply Gr.drewN | refine Gr.trans ?_ (by assumption)))⟩
  cases e2 : eqB t.post u.post
  case false =>
    have HS := Lib.hid (sameT_post e2)
    clear hl
    go_enter Tryd.func29, Tryd.ntmps29
    go_wp2_with fail
    refine (Equal_calls _ _ t.pre u.pre _ (by (repeat (first | assumption | exact Ints.nil _ | (refine Ints.lit ?_ rfl rfl rfl ?_ ?_; ((focus (simp; done))); all_goals decide) | apply Ints.alloc | apply Ints.drew | refine Ints.gr ?_ (show Gr _ _ from by assumption)))) (by (repeat (first | assumption | exact Ints.nil _ | (refine Ints.lit ?_ rfl rfl rfl ?_ ?_; ((focus (simp; done))); all_goals decide) | apply Ints.alloc | apply Ints.drew | refine Ints.gr ?_ (show Gr _ _ from by assumption))))).mono ?_
    rw [e1]; rintro _ w1 ⟨rfl, g1⟩
    have C0 : w1.cell? ⟨w.heap.size, 2, none⟩ = some (.slice qa t.post.length qc) := cell_gr (box_cell ((Gr.refl _).alloc _) (i := 2) rfl) g1
    have C1 : w1.cell? ⟨w.heap.size + 1, 2, none⟩ = some (.slice qa' u.post.length qc') := cell_gr (lit_at (by simp) rfl) g1
    go_wp2_with fail
    refine (Equal_calls _ _ t.post u.post _ (by (repeat (first | assumption | exact Ints.nil _ | (refine Ints.lit ?_ rfl rfl rfl ?_ ?_; ((focus (simp; done))); all_goals decide) | apply Ints.alloc | apply Ints.drew | refine Ints.gr ?_ (show Gr _ _ from by assumption)))) (by (repeat (first | assumption | exact Ints.nil _ | (refine Ints.lit ?_ rfl rfl rfl ?_ ?_; ((focus (simp; done))); all_goals decide) | apply Ints.alloc | apply Ints.drew | refine Ints.gr ?_ (show Gr _ _ from by assumption))))).mono ?_
    rw [e2]; rintro _ w2 ⟨rfl, g2⟩
    go_wp2_with fail
    go_ret
    exact ⟨ret_bool HS.out.symm, by (repeat (first | exact Gr.refl _ | assumption | apply Gr.alloc | apply Gr.drew | apply Gr.drewN | refine Gr.trans ?_ (by assumption)))⟩
  have HS := Lib.hid (sameT_yes hl e1 e2)
  clear hl
  go_enter Tryd.func29, Tryd.ntmps29
  go_wp2_with fail
  refine (Equal_calls _ _ t.pre u.pre _ (by (repeat (first | assumption | exact Ints.nil _ | (refine Ints.lit ?_ rfl rfl rfl ?_ ?_; ((focus (simp; done))); all_goals decide) | apply Ints.alloc | apply Ints.drew | refine Ints.gr ?_ (show Gr _ _ from by assumption)))) (by (repeat (first | assumption | exact Ints.nil _ | (refine Ints.lit ?_ rfl rfl rfl ?_ ?_; ((focus (simp; done))); all_goals decide) | apply Ints.alloc | apply Ints.drew | refine Ints.gr ?_ (show Gr _ _ from by assumption))))).mono ?_
  rw [e1]; rintro _ w1 ⟨rfl, g1⟩
  have C0 : w1.cell? ⟨w.heap.size, 2, none⟩ = some (.slice qa t.post.length qc) := cell_gr (box_cell ((Gr.refl _).alloc _) (i := 2) rfl) g1
  have C1 : w1.cell? ⟨w.heap.size + 1, 2, none⟩ = some (.slice qa' u.post.length qc') := cell_gr (lit_at (by simp) rfl) g1
  go_wp2_with fail
  refine (Equal_calls _ _ t.post u.post _ (by (repeat (first | assumption | exact Ints.nil _ | (refine Ints.lit ?_ rfl rfl rfl ?_ ?_; ((focus (simp; done))); all_goals decide) | apply Ints.alloc | apply Ints.drew | refine Ints.gr ?_ (show Gr _ _ from by assumption)))) (by (repeat (first | assumption | exact Ints.nil _ | (refine Ints.lit ?_ rfl rfl rfl ?_ ?_; ((focus (simp; done))); all_goals decide) | apply Ints.alloc | apply Ints.drew | refine Ints.gr ?_ (show Gr _ _ from by assumption))))).mono ?_
  rw [e2]; rintro _ w2 ⟨rfl, g2⟩
  go_wp2_with fail
  go_ret
  exact ⟨ret_bool HS.out.symm, by (repeat (first | exact Gr.refl _ | assumption | apply Gr.alloc | apply Gr.drew | apply Gr.drewN | refine Gr.trans ?_ (by assumption)))⟩

set_option maxHeartbeats 1000000 in
set_option maxRecDepth 100000 in
theorem EqualFuncTr_calls (v v' : Value) (ts us : List TranD) (w : World) (hv : TransR w v ts) (hu : TransR w v' us) :
    Calls Tryd.prog 28 #[v, v', .func (.func 29) #[] #[]] w fun e w' => e = .returned (.bool (eqTs ts us)) ∧ Gr w w' := by
  have eg : ∀ args w, (callFunc 29 args).run Tryd.prog w = .ok (.enter 29 args) w := (Go.Proofs.enters_of Tryd.func29 (by kernel_rfl) rfl)
  obtain ⟨a, cap, rfl, hlc, hcap⟩ := hv.len
  obtain ⟨a', cap', rfl, hlc', hcap'⟩ := hu.len
  by_cases hl : ts.length = us.length
  case neg =>
    have HS := Lib.hid (eqTs_len hl)
    have q1 : ((ts.length : Int) != (us.length : Int)) = true := by simp; omega
    clear hl
    go_enter Tryd.func28, Tryd.ntmps28
    go_wp2_with fail
    go_ret
    exact ⟨ret_bool HS.out.symm, by (repeat (first | exact Gr.refl _ | assumption | apply Gr.alloc | apply Gr.drew | apply Gr.drewN | refine Gr.trans ?_ (by assumption)))⟩
  have HL := Lib.hid hl
  have q1 : ((ts.length : Int) != (us.length : Int)) = false := by simp; omega
  have q2 : us.length ≤ ts.length := by omega
  clear hl
  go_enter Tryd.func28, Tryd.ntmps28
  go_wp2_with fail
  go_loopw [17] (fun i wr => ∃ k : Nat, k ≤ ts.length ∧ i = .int .i64 k ∧ EqT ts us k ∧ Gr w wr) (fun i _ => ts.length - (intOf i).toNat)
  case atStart => exact ⟨0, Nat.zero_le _, rfl, EqT.zero _ _, Gr.refl _⟩
  case round =>
    rename_i wr _
    obtain ⟨k, hk, rfl, hall, hgr⟩ := hrel
    by_cases hlt : k < ts.length
    · have hlt' : k < us.length := by have := HL.out; omega
      obtain ⟨b, o, vp, vq, rfl, c0, c1, c2, hlab, hp, hq⟩ := (hv.gr hgr).at_ix hlt
      obtain ⟨b', o', vp', vq', rfl, c0', c1', c2', hlab', hp', hq'⟩ := (hu.gr hgr).at_ix hlt'
      obtain ⟨pa, pc, rfl, _, _⟩ := hp.len
      obtain ⟨qa, qc, rfl, _, _⟩ := hq.len
      obtain ⟨pa', pc', rfl, _, _⟩ := hp'.len
      obtain ⟨qa', qc', rfl, _, _⟩ := hq'.len
      have G1 : ∀ cs t, Gr wr (wr.alloc (.cells cs t)) := fun cs t => (Gr.refl _).alloc _
      have d0 := fun cs t => cell_gr c0' (G1 cs t)
      have d1 := fun cs t => cell_gr c1' (G1 cs t)
      have d2 := fun cs t => cell_gr c2' (G1 cs t)
      have hcall := fun W (g : Gr wr W) => SameNet1_calls (ix ts k) (ix us k) _ _ _ _ W hlab (hp.gr g) (hq.gr g) hlab' (hp'.gr g) (hq'.gr g)
      have HC := Lib.hid hcall
      clear hcall hlab hlab' c0' c1' c2'
      cases hb : sameT (ix ts k) (ix us k)
      · have HS := Lib.hid (eqTs_no hb)
        go_wp2_with (go_at_fn 29; refine (HC.out _ (by (repeat (first | exact Gr.refl _ | assumption | apply Gr.alloc | apply Gr.drew | apply Gr.drewN | refine Gr.trans ?_ (by assumption))))).mono ?_; rw [hb]; rintro e w' ⟨rfl, g2⟩)
        go_ret
        exact ⟨ret_bool HS.out.symm, by (repeat (first | exact Gr.refl _ | assumption | apply Gr.alloc | apply Gr.drew | apply Gr.drewN | refine Gr.trans ?_ (by assumption)))⟩
      · have HS := Lib.hid (hall.succ hb)
        go_wp2_with (go_at_fn 29; refine (HC.out _ (by (repeat (first | exact Gr.refl _ | assumption | apply Gr.alloc | apply Gr.drew | apply Gr.drewN | refine Gr.trans ?_ (by assumption))))).mono ?_; rw [hb]; rintro e w' ⟨rfl, g2⟩)
        go_roundw
        case rel => exact ⟨k + 1, by omega, by go_num, HS.out, by (repeat (first | exact Gr.refl _ | assumption | apply Gr.alloc | apply Gr.drew | apply Gr.drewN | refine Gr.trans ?_ (by assumption)))⟩
        case measure => simp [intOf]; omega
    · have HS := Lib.hid (hall.all HL.out (by omega))
      obtain rfl : k = ts.length := by omega
      go_wp2_with fail
      go_ret
      exact ⟨ret_bool HS.out.symm, hgr⟩

set_option maxHeartbeats 1000000 in
set_option maxRecDepth 100000 in
theorem SameNet_calls (v v' : Value) (N M : NetD) (w : World) (hv : NetR w v N) (hu : NetR w v' M) :
    Calls Tryd.prog 11 #[v, v'] w fun e w' => e = .returned (.bool (sameN N M)) ∧ Gr w w' := by
  obtain ⟨a, cap, rfl, hlc, hcap, hp, hT⟩ := hv.open_
  obtain ⟨a', cap', rfl, hlc', hcap', hp', hT'⟩ := hu.open_
  by_cases hl : N.places = M.places
  case neg =>
    have HS := Lib.hid (sameN_places hl)
    have q1 : (N.places == M.places) = false := by simpa using hl
    clear hl
    go_enter Tryd.func11, Tryd.ntmps11
    go_wp2_with fail
    go_ret
    exact ⟨ret_bool HS.out.symm, by (repeat (first | exact Gr.refl _ | assumption | apply Gr.alloc | apply Gr.drew | apply Gr.drewN | refine Gr.trans ?_ (by assumption)))⟩
  have HS := Lib.hid (sameN_trans hl)
  have q1 : (N.places == M.places) = true := by simpa using hl
  clear hl
  go_enter Tryd.func11, Tryd.ntmps11
  go_wp2_with fail
  refine (EqualFuncTr_calls _ _ N.trans M.trans _ (by (repeat (first | assumption | exact TransR.nil _ | (refine TransR.lit2 ?_ ?_ ?_ ?_ ?_ ?_ ?_; ((focus (simp; done))); (focus (repeat (first | assumption | exact Ints.nil _ | (refine Ints.lit ?_ rfl rfl rfl ?_ ?_; ((focus (simp; done))); all_goals decide) | apply Ints.alloc | apply Ints.drew | refine Ints.gr ?_ (show Gr _ _ from by assumption)))); (focus (repeat (first | assumption | exact Ints.nil _ | (refine Ints.lit ?_ rfl rfl rfl ?_ ?_; ((focus (simp; done))); all_goals decide) | apply Ints.alloc | apply Ints.drew | refine Ints.gr ?_ (show Gr _ _ from by assumption)))); (focus (repeat (first | assumption | exact Ints.nil _ | (refine Ints.lit ?_ rfl rfl rfl ?_ ?_; ((focus (simp; done))); all_goals decide) | apply Ints.alloc | apply Ints.drew | refine Ints.gr ?_ (show Gr _ _ from by assumption)))); (focus (repeat (first | assumption | exact Ints.nil _ | (refine Ints.lit ?_ rfl rfl rfl ?_ ?_; ((focus (simp; done))); all_goals decide) | apply Ints.alloc | apply Ints.drew | refine Ints.gr ?_ (show Gr _ _ from by assumption)))); all_goals decide) | (refine TransR.lit1 ?_ ?_ ?_ ?_; ((focus (simp; done))); (focus (repeat (first | assumption | exact Ints.nil _ | (refine Ints.lit ?_ rfl rfl rfl ?_ ?_; ((focus (simp; done))); all_goals decide) | apply Ints.alloc | apply Ints.drew | refine Ints.gr ?_ (show Gr _ _ from by assumption)))); (focus (repeat (first | assumption | exact Ints.nil _ | (refine Ints.lit ?_ rfl rfl rfl ?_ ?_; ((focus (simp; done))); all_goals decide) | apply Ints.alloc | apply Ints.drew | refine Ints.gr ?_ (show Gr _ _ from by assumption)))); all_goals decide) | refine TransR.gr ?_ (show Gr _ _ from by assumption) | refine TransR.gr ?_ ((Gr.refl _).alloc _)))) (by (repeat (first | assumption | exact TransR.nil _ | (refine TransR.lit2 ?_ ?_ ?_ ?_ ?_ ?_ ?_; ((focus (simp; done))); (focus (repeat (first | assumption | exact Ints.nil _ | (refine Ints.lit ?_ rfl rfl rfl ?_ ?_; ((focus (simp; done))); all_goals decide) | apply Ints.alloc | apply Ints.drew | refine Ints.gr ?_ (show Gr _ _ from by assumption)))); (focus (repeat (first | assumption | exact Ints.nil _ | (refine Ints.lit ?_ rfl rfl rfl ?_ ?_; ((focus (simp; done))); all_goals decide) | apply Ints.alloc | apply Ints.drew | refine Ints.gr ?_ (show Gr _ _ from by assumption)))); (focus (repeat (first | assumption | exact Ints.nil _ | (refine Ints.lit ?_ rfl rfl rfl ?_ ?_; ((focus (simp; done))); all_goals decide) | apply Ints.alloc | apply Ints.drew | refine Ints.gr ?_ (show Gr _ _ from by assumption)))); (focus (repeat (first | assumption | exact Ints.nil _ | (refine Ints.lit ?_ rfl rfl rfl ?_ ?_; ((focus (simp; done))); all_goals decide) | apply Ints.alloc | apply Ints.drew | refine Ints.gr ?_ (show Gr _ _ from by assumption)))); all_goals decide) | (refine TransR.lit1 ?_ ?_ ?_ ?_; ((focus (simp; done))); (focus (repeat (first | assumption | exact Ints.nil _ | (refine Ints.lit ?_ rfl rfl rfl ?_ ?_; ((focus (simp; done))); all_goals decide) | apply Ints.alloc | apply Ints.drew | refine Ints.gr ?_ (show Gr _ _ from by assumption)))); (focus (repeat (first | assumption | exact Ints.nil _ | (refine Ints.lit ?_ rfl rfl rfl ?_ ?_; ((focus (simp; done))); all_goals decide) | apply Ints.alloc | apply Ints.drew | refine Ints.gr ?_ (show Gr _ _ from by assumption)))); all_goals decide) | refine TransR.gr ?_ (show Gr _ _ from by assumption) | refine TransR.gr ?_ ((Gr.refl _).alloc _))))).mono ?_
  rintro _ w1 ⟨rfl, g1⟩
  go_wp2_with fail
  go_ret
  exact ⟨ret_bool HS.out.symm, by (repeat (first | exact Gr.refl _ | assumption | apply Gr.alloc | apply Gr.drew | apply Gr.drewN | refine Gr.trans ?_ (by assumption)))⟩
end Go.Proofs.YtiflolklgmmgeaaDoor
