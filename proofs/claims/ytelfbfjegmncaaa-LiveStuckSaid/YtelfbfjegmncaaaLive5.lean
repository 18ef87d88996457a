/- Contracts of live.Stuck (at a right space), Dead, Bound, and of the library's Clone at '[]api.Arc', DeleteFunc where nothing is to go. -/
import Derived.Test.YtelfbfjegmncaaaLive4
import Derived.Test.YtelfbfjegmncaaaMaxF
import Derived.Test.YtelfbfjegmncaaaMapE
import Derived.Lib.Hide
namespace Go.Tok
open Go.RowKit
set_option linter.unusedVariables false
theorem srcOk_all {S : SpaceD} (h : sRightB S = true) : S.arcs.filter (srcOk S.marks.length) = S.arcs := by
  rw [List.filter_eq_self]
  intro a ha
  obtain ⟨i, j, h1, h2, h3, h4⟩ := sRight_arc h ha
  unfold srcOk
  simp; omega
theorem onL_right {S : SpaceD} (h : sRightB S = true) : onL S = linksF S.marks.length (edgesF S.arcs false) := by unfold onL; rw [srcOk_all h]
theorem on_edges {S : SpaceD} (h : sRightB S = true) : ∀ k, k < S.arcs.length → ∃ (f : Nat) (t : Int), ix (edgesF S.arcs false) k = ((f : Int), t) ∧ f < S.marks.length := by
  intro k hk
  obtain ⟨i, j, h1, h2, h3, h4⟩ := sRight_arc h (ix_mem hk)
  exact ⟨i, _, by rw [edges_ix hk, if_neg (by decide), h1], h3⟩
def srcBad (n : Nat) (a : ArcD) : Bool := decide (a.src < 0) || decide ((n : Int) ≤ a.src)
theorem srcBad_none {S : SpaceD} (h : sRightB S = true) : firstI (srcBad S.marks.length) S.arcs = -1 := by
  refine firstI_miss (NoneI.intro fun i hi => ?_)
  obtain ⟨i', j, h1, h2, h3, h4⟩ := sRight_arc h (ix_mem hi)
  unfold srcBad; simp; omega
def stuckP (S : SpaceD) (k : Nat) : Bool := (ix (onL S) k).isEmpty
theorem stuck_pick (S : SpaceD) : stuckF S = pickTo (stuckP S) S.marks.length := rfl
end Go.Tok
namespace Go.Proofs.Ytelfbfjegmncaaa
open Go.RowKit Go.Tok
set_option linter.unusedVariables false
set_option maxHeartbeats 1000000 in
set_option maxRecDepth 100000 in
theorem CloneArc_calls (v : Value) (xs : List ArcD) (w : World) (hv : Rd arcK w v xs) (hl : xs.length ≤ 5864062014805) :
    Calls Try.prog 70 #[v] w fun e w' => ∃ v', e = .returned v' ∧ OwnR arcK 56 w.heap.size (fun _ => False) w' v' xs ∧ Gr w w' := by
  have T := arcTy
  rcases hv.form with ⟨rfl, rfl⟩ | ⟨ad, cap, rfl, h1, h2⟩
  · have he := fun w n c n' c' => Lib.run_eql_slice_nil (P := Try.prog) w 38 56 none n c n' c' Try.underlying38
    go_enter Try.func70, Try.ntmps70
    go_wp2
    go_ret
    exact ⟨_, rfl, OwnR.nil _ _ _ _, Gr.refl _⟩
  · have he := fun w n c n' c' => Lib.run_eql_slice_nil (P := Try.prog) w 38 56 (some ad) n c n' c' Try.underlying38
    have hown : OwnR arcK 56 w.heap.size (fun _ => False) (w.alloc (.cells #[] 56)) (.slice (some ⟨w.heap.size, 0, none⟩) 0 0) [] := OwnR.lit [] rfl rfl rfl rfl rfl (by simp) (Nat.le_refl _) (by simp)
    have hI : ∀ y ∈ xs, arcI y := by
      intro y hy
      obtain ⟨i, hi, rfl⟩ := List.getElem_of_mem hy
      obtain ⟨_, _, _, _, _, _, h⟩ := hv.arc hi
      rwa [ix_lt hi] at h
    go_enter Try.func70, Try.ntmps70
    go_wp2_with (at_builtin; go_loud (refine app_flat T _ _ w.heap.size (fun _ => False) _ _ [] xs (by rfl) (by rfl) (by rfl) (by rfl) hown (hv.alloc _) hI (by simp only [List.length_nil]; omega) (by simp only [List.length_nil]; unfold maxLen; omega) (by simp) ?_; intro v' w' ho hgr _ _))
    go_ret
    exact ⟨_, rfl, ho, hgr w (Nat.le_refl _) ((Gr.refl _).alloc _)⟩
set_option maxHeartbeats 1000000 in
set_option maxRecDepth 100000 in
/-- nothing is to go -/
theorem DeleteFuncArc_none (v : Value) (xs : List ArcD) (g : Nat) (lb : Array Value) (p : ArcD → Bool) (w : World) (eg : ∀ args w, (callFunc g args).run Try.prog w = .ok (.enter g args) w)
    (hv : Rd arcK w v xs) (hg : AnswersArc Try.prog g lb xs p w) (hp : firstI p xs = -1) :
    Calls Try.prog 69 #[v, .func (.func g) #[] lb] w fun e w' => e = .returned v ∧ Gr w w' := by
  obtain ⟨a, cap, rfl, hlc, hcap⟩ := hv.len
  have HP := Lib.hid hp
  clear hp
  go_enter Try.func69, Try.ntmps69
  go_wp2_with fail
  refine (IndexFuncArc_calls _ xs g lb p _ eg hv hg).mono ?_
  rw [HP.out]; rintro _ w1 ⟨rfl, g1⟩
  go_wp2_with fail
  go_ret
  exact ⟨rfl, g1⟩
set_option maxHeartbeats 1000000 in
set_option maxRecDepth 100000 in
theorem Stuck1_answers (w0 : World) (sb n : Nat) (sa : Option Addr) (sc : Nat) (xs : List ArcD) (hn : n ≤ sc) (hsc : sc ≤ 9223372036854775807) (hc : w0.cell? ⟨sb, 0, none⟩ = some (.slice sa n sc)) :
    AnswersArc Try.prog 71 #[.pointer (some ⟨sb, 0, none⟩)] xs (srcBad n) w0 := by
  intro W x hx g hI
  have GA : Gr W (W.alloc (.cells #[.int .i64 x.src, .int .i64 x.tran, .int .i64 x.dst] 56)) := (Gr.refl _).alloc _
  have c := cell_gr (cell_gr hc g) GA
  have A0 : (W.alloc (.cells #[.int .i64 x.src, .int .i64 x.tran, .int .i64 x.dst] 56)).cell? ⟨W.heap.size, 0, none⟩ = some (.int .i64 x.src) := box_cell (Gr.refl _) (i := 0) rfl
  go_enter Try.func71, Try.ntmps71
  go_wp2_with fail
  all_goals go_ret
  all_goals exact ⟨ret_bool (by unfold srcBad; first | rfl | (rw [Bool.eq_iff_iff]; (first | (simp; done) | (simp; omega))) | (simp [*]; done)), GA⟩
end Go.Proofs.Ytelfbfjegmncaaa
