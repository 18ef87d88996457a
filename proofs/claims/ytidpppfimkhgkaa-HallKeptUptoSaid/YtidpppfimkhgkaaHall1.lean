/- The library's Clone at '[]byte' and '[]api.HallOp'. -/
import Derived.Test.YtidpppfimkhgkaaHallOwn
import Derived.Test.YtidpppfimkhgkaaDesk6
import Derived.Test.YtidpppfimkhgkaaJour3
import Derived.Lib.Hide
namespace Go.Proofs.Ytidpppfimkhgkaa
open Go.RowKit Go.Tok
set_option linter.unusedVariables false
theorem hopTy : KTy Try.prog 56 61 hopK 56 (.agg #[.int .i64 0, .int .i64 0, .int .i64 0, .int .i64 0, .int .i64 0, .int .i64 0, .int .i64 0]) := ⟨Try.underlying56, by kernel_rfl, rfl, by decide⟩
theorem hop_okI {w : World} {v : Value} {xs : List HopD} (hv : Rd hopK w v xs) : ∀ y ∈ xs, hopI y := by
  intro y hy
  obtain ⟨a, c, rfl, _, _⟩ := hv.len
  obtain ⟨i, hi, rfl⟩ := List.getElem_of_mem hy
  obtain ⟨_, _, _, _, _, _, _, _, _, _, h⟩ := hv.hop hi
  rwa [ix_lt hi] at h
theorem op_okI {w : World} {v : Value} {xs : List OpD} (hv : Rd opK w v xs) : ∀ y ∈ xs, opI y := by
  intro y hy
  obtain ⟨a, c, rfl, _, _⟩ := hv.len
  obtain ⟨i, hi, rfl⟩ := List.getElem_of_mem hy
  obtain ⟨_, _, _, _, _, _, _, _, h⟩ := hv.op hi
  rwa [ix_lt hi] at h
set_option maxHeartbeats 1000000 in
set_option maxRecDepth 100000 in
theorem CloneByte_calls (v : Value) (xs : List Nat) (w : World) (hv : Rd byteK w v xs) (hl : xs.length ≤ 140737488355328) :
    Calls Try.prog 129 #[v] w fun e w' => ∃ v', e = .returned v' ∧ OwnR byteK 5 w.heap.size NoB w' v' xs ∧ Gr w w' := by
  have T := byteTy
  rcases hv.form with ⟨rfl, rfl⟩ | ⟨ad, cap, rfl, h1, h2⟩
  · have he := fun w n c n' c' => Lib.run_eql_slice_nil (P := Try.prog) w 158 5 none n c n' c' Try.underlying158
    go_enter Try.func129, Try.ntmps129
    go_wp2
    go_ret
    exact ⟨_, rfl, OwnR.nil _ _ _ _, Gr.refl _⟩
  · have he := fun w n c n' c' => Lib.run_eql_slice_nil (P := Try.prog) w 158 5 (some ad) n c n' c' Try.underlying158
    have hown : OwnR byteK 5 w.heap.size NoB (w.alloc (.cells #[] 5)) (.slice (some ⟨w.heap.size, 0, none⟩) 0 0) [] := OwnR.lit [] rfl rfl rfl rfl rfl (by simp) (Nat.le_refl _) (by simp)
    have hI := hv.bytes
    go_enter Try.func129, Try.ntmps129
    go_wp2_with (at_builtin; go_loud (refine app_flat T _ _ w.heap.size NoB _ _ [] xs (by rfl) (by rfl) (by rfl) (by rfl) hown (hv.alloc _) hI (by simp only [List.length_nil]; omega) (by simp only [List.length_nil]; unfold maxLen; omega) (by simp) ?_; intro v' w' ho hgr _ _))
    go_ret
    exact ⟨_, rfl, ho, hgr w (Nat.le_refl _) ((Gr.refl _).alloc _)⟩
set_option maxHeartbeats 1000000 in
set_option maxRecDepth 100000 in
theorem CloneHop_calls (v : Value) (xs : List HopD) (w : World) (hv : Rd hopK w v xs) (hl : xs.length ≤ 2513169434916) :
    Calls Try.prog 30 #[v] w fun e w' => ∃ v', e = .returned v' ∧ OwnR hopK 61 w.heap.size NoB w' v' xs ∧ Gr w w' := by
  have T := hopTy
  rcases hv.form with ⟨rfl, rfl⟩ | ⟨ad, cap, rfl, h1, h2⟩
  · have he := fun w n c n' c' => Lib.run_eql_slice_nil (P := Try.prog) w 56 61 none n c n' c' Try.underlying56
    go_enter Try.func30, Try.ntmps30
    go_wp2
    go_ret
    exact ⟨_, rfl, OwnR.nil _ _ _ _, Gr.refl _⟩
  · have he := fun w n c n' c' => Lib.run_eql_slice_nil (P := Try.prog) w 56 61 (some ad) n c n' c' Try.underlying56
    have hown : OwnR hopK 61 w.heap.size NoB (w.alloc (.cells #[] 61)) (.slice (some ⟨w.heap.size, 0, none⟩) 0 0) [] := OwnR.lit [] rfl rfl rfl rfl rfl (by simp) (Nat.le_refl _) (by simp)
    have hI := hop_okI hv
    go_enter Try.func30, Try.ntmps30
    go_wp2_with (at_builtin; go_loud (refine app_flat T _ _ w.heap.size NoB _ _ [] xs (by rfl) (by rfl) (by rfl) (by rfl) hown (hv.alloc _) hI (by simp only [List.length_nil]; omega) (by simp only [List.length_nil]; unfold maxLen; omega) (by simp) ?_; intro v' w' ho hgr _ _))
    go_ret
    exact ⟨_, rfl, ho, hgr w (Nat.le_refl _) ((Gr.refl _).alloc _)⟩
end Go.Proofs.Ytidpppfimkhgkaa
