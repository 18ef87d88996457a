/- The closure of choice.Clusters: does a transition share a place with transition j? -/
import Derived.Test.YtajmccjnoejmfaaChoice2
import Derived.Test.YtajmccjnoejmfaaFnInt
import Derived.Deep.RegionHeld3
namespace Go.Proofs.Ytajmccjnoejmfaa
open Go.RowKit Go.Tok
set_option linter.unusedVariables false
set_option maxHeartbeats 4000000 in
set_option maxRecDepth 100000 in
theorem Clusters1_answers {w0 : World} {tb nb : Nat} {a : Option Addr} {cap : Nat} {vp vq : Value} {N : NetD} {t : Nat} {xs : List Int} (hok : netOkB N = true) (ht : t < N.trans.length)
    (c0 : w0.cell? ⟨tb, 0, none⟩ = some (.int .i64 (N.tr t).label)) (c1 : w0.cell? ⟨tb, 1, none⟩ = some vp) (c2 : w0.cell? ⟨tb, 2, none⟩ = some vq) (hp : Ints w0 vp (N.tr t).pre) (hq : Ints w0 vq (N.tr t).post)
    (d1 : w0.cell? ⟨nb, 1, none⟩ = some (.slice a N.trans.length cap)) (hT : TransR w0 (.slice a N.trans.length cap) N.trans) (hx : ∀ x ∈ xs, ∃ j : Nat, x = j ∧ j < N.trans.length) :
    AnswersI Try.prog 100 #[.pointer (some ⟨tb, 0, none⟩), .pointer (some ⟨nb, 0, none⟩)] xs (fun j => sharesB (N.tr t) (N.tr j.toNat)) w0 := by
  intro w x hxm hg _
  obtain ⟨j, rfl, hj⟩ := hx x hxm
  have h1 := (netOk_tr hok ht).pre
  have h2 := (netOk_tr hok hj).pre
  have hle : (N.tr t).pre.length ≤ (N.tr j).pre.length := by omega
  clear h1 h2 hok
  replace hp := hp.gr hg
  replace hq := hq.gr hg
  replace c0 := cell_gr c0 hg
  replace c1 := cell_gr c1 hg
  replace c2 := cell_gr c2 hg
  replace d1 := cell_gr d1 hg
  obtain ⟨pa, pc, rfl, pl, pl'⟩ := hp.len
  obtain ⟨qa, qc, rfl, ql, ql'⟩ := hq.len
  obtain ⟨b, o, vp', vq', rfl, e0, e1, e2, hlab, hp', hq'⟩ := (hT.gr hg).at_ hj
  obtain ⟨pa', pc', rfl, pl2, pl2'⟩ := hp'.len
  obtain ⟨qa', qc', rfl, ql2, ql2'⟩ := hq'.len
  have hjI : (j : Int) < (N.trans.length : Int) := by omega
  have hres : (fun j : Int => sharesB (N.tr t) (N.tr j.toNat)) (j : Int) = sharesB (N.tr t) (N.tr j) := by simp
  rw [hres]
  obtain ⟨R, hR⟩ : ∃ R, R = sharesB (N.tr t) (N.tr j) := ⟨_, rfl⟩
  rw [← hR]
  have HR := Lib.hid hR
  clear hR hres hxm hx
  go_enter Try.func100, Try.ntmps100
  go_wp2_with fail
  go_region_held3 (fun w' => w'.cell? ⟨tb, 0, none⟩ = some (.int .i64 (N.tr t).label) ∧ w'.cell? ⟨tb, 1, none⟩ = some (.slice pa (N.tr t).pre.length pc) ∧ w'.cell? ⟨tb, 2, none⟩ = some (.slice qa (N.tr t).post.length qc) ∧ w'.cell? ⟨nb, 1, none⟩ = some (.slice (some ⟨b, o, none⟩) N.trans.length cap) ∧ w'.cell? ⟨b, o + j * 3, none⟩ = some (.int .i64 (N.tr j).label) ∧ w'.cell? ⟨b, o + j * 3 + 1, none⟩ = some (.slice pa' (N.tr j).pre.length pc') ∧ w'.cell? ⟨b, o + j * 3 + 2, none⟩ = some (.slice qa' (N.tr j).post.length qc')) (first | go_keep | ((refine ⟨cell_gr c0 ?_, cell_gr c1 ?_, cell_gr c2 ?_, cell_gr d1 ?_, cell_gr e0 ?_, cell_gr e1 ?_, cell_gr e2 ?_⟩); (all_goals (focus ((repeat (first | exact Gr.refl _ | assumption | apply Gr.alloc | apply Gr.drew | apply Gr.drewN | refine Gr.trans ?_ (by assumption))); done))))) (first | (go_at_call 63; (with_reducible refine (shares_calls _ _ _ _ (N.tr t) (N.tr j) _ (hp.gr ?_) (hq.gr ?_) (hp'.gr ?_) (hq'.gr ?_) hle).mono ?_); ((focus ((repeat (first | exact Gr.refl _ | assumption | apply Gr.alloc | apply Gr.drew | apply Gr.drewN | refine Gr.trans ?_ (by assumption))); done))); ((focus ((repeat (first | exact Gr.refl _ | assumption | apply Gr.alloc | apply Gr.drew | apply Gr.drewN | refine Gr.trans ?_ (by assumption))); done))); ((focus ((repeat (first | exact Gr.refl _ | assumption | apply Gr.alloc | apply Gr.drew | apply Gr.drewN | refine Gr.trans ?_ (by assumption))); done))); ((focus ((repeat (first | exact Gr.refl _ | assumption | apply Gr.alloc | apply Gr.drew | apply Gr.drewN | refine Gr.trans ?_ (by assumption))); done))); rw [← HR.out]; rintro _ w4 ⟨rfl, g4⟩))
  all_goals go_wp2_with fail
  all_goals go_ret
  all_goals exact ⟨rfl, by (repeat (first | exact Gr.refl _ | assumption | apply Gr.alloc | apply Gr.drew | apply Gr.drewN | refine Gr.trans ?_ (by assumption)))⟩
end Go.Proofs.Ytajmccjnoejmfaa
