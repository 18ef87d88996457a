/- Contract of the library's Clone at '[]api.Tran'. Condition: at most 1000000 transitions. -/
import Derived.Test.YtmigejcejnofiaaSl
import Derived.Test.YtmigejcejnofiaaTrGen
import Derived.Test.YtmigejcejnofiaaFind
namespace Go.Proofs.Ytmigejcejnofiaa
open Go.RowKit Go.Tok
set_option linter.unusedVariables false

theorem trKTy : KTy Try.prog 22 74 trK 56 (.agg #[.int .i64 0, .slice none 0 0, .slice none 0 0]) := ⟨Try.underlying22, by kernel_rfl, rfl, by decide⟩

set_option maxHeartbeats 1000000 in
set_option maxRecDepth 100000 in
theorem CloneTr_calls (v : Value) (ts : List TranD) (w0 w : World) (hv : TransR w0 v ts) (g : Gr w0 w) (hl : ts.length ≤ 1000000) :
    Calls Try.prog 88 #[v] w fun e w' => ∃ v', e = .returned v' ∧ OwnR trK 74 w.heap.size (fun b => b < w0.heap.size) w' v' ts ∧ Gr w w' := by
  obtain ⟨a, cap, rfl, h1, h2⟩ := hv.len
  cases a with
  | none =>
    obtain ⟨rfl, -⟩ := trans_none hv
    have he := fun w n c n' c' => Lib.run_eql_slice_nil (P := Try.prog) w 22 74 none n c n' c' Try.underlying22
    go_enter Try.func88, Try.ntmps88
    go_wp2
    go_ret
    exact ⟨_, rfl, OwnR.nil _ _ _ _, Gr.refl _⟩
  | some ad =>
    have he := fun w n c n' c' => Lib.run_eql_slice_nil (P := Try.prog) w 22 74 (some ad) n c n' c' Try.underlying22
    have hr := rd_of_trans hv
    obtain ⟨vss, l1, l2, l3⟩ := hr.cells (by decide)
    have hy : ∀ i, i < ts.length → On (fun b => b < w0.heap.size ∧ (Value.slice (some ⟨w.heap.size, 0, none⟩) 0 0).ownBlock ≠ some b) (fun w => trK.R w (vss.getD i []) (ix ts i)) (w.alloc (.cells #[] 74)) := fun i hi =>
      (on_old (fun _ _ k h => trK.mono k h) (l2 i hi) (g.alloc _).kp).mono fun b _ hb => ⟨hb, fun e => by have e2 : w.heap.size = b := Option.some.inj e; have := g.le; omega⟩
    have hown : OwnR trK 74 w.heap.size (fun b => b < w0.heap.size) (w.alloc (.cells #[] 74)) (.slice (some ⟨w.heap.size, 0, none⟩) 0 0) [] := OwnR.lit [] rfl rfl rfl rfl rfl (by simp) (Nat.le_refl _) (by simp)
    have HY := Lib.hid hy
    have L3 := Lib.hid l3
    clear hy l2 l3
    go_enter Try.func88, Try.ntmps88
    go_wp2_with (at_builtin; refine app_many trKTy _ _ w.heap.size (fun b => b < w0.heap.size) (.slice (some ⟨w.heap.size, 0, none⟩) 0 0) (.slice (some ad) ts.length cap) [] ts vss rfl rfl rfl rfl hown ((hr.gr g).alloc _) l1 (fun ad' n c e j x hj => by cases e; exact cell_gr (L3.out j x hj) (g.alloc _)) HY.out (by simp only [List.length_nil]; omega) (by simp only [List.length_nil]; unfold maxLen; omega) (by simp) ?_; intro v' w' ho hgr _ _)
    go_ret
    exact ⟨_, rfl, ho, hgr w (Nat.le_refl _) (by (repeat (first | exact Gr.refl _ | assumption | apply Gr.alloc | apply Gr.drew | apply Gr.drewN | refine Gr.trans ?_ (by assumption))))⟩
end Go.Proofs.Ytmigejcejnofiaa
