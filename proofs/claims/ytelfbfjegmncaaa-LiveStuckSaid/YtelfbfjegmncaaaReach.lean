/- Contract of reach.name: a mark as a text. -/
import Derived.Test.YtelfbfjegmncaaaNameLaw
import Derived.Test.YtelfbfjegmncaaaNet
import Derived.OwnWalk
namespace Go.Proofs.Ytelfbfjegmncaaa
open Go.RowKit Go.Tok
set_option linter.unusedVariables false
theorem nbyteTy : KTy Try.prog 188 5 byteK 1 (.int .u8 0) := ⟨Try.underlying188, by kernel_rfl, rfl, by decide⟩
set_option maxHeartbeats 4000000 in
theorem name_calls (v : Value) (m : List Int) (w : World) (hv : Ints w v m) (hm : ∀ x ∈ m, 0 ≤ x ∧ x ≤ 1000000) (hl : m.length ≤ 100) :
    Calls Try.prog 125 #[v] w fun e w' => e = .returned (.string (nameS m)) ∧ Gr w w' := by
  have T := nbyteTy
  obtain ⟨a, cap, rfl, hlc, hcap⟩ := hv.len
  obtain ⟨i, hi, hz, hsz, hb⟩ := info_parts T.info
  go_enter Try.func125, Try.ntmps125
  go_wp2_with (at_make; refine wpList_make_own w rfl _ _ _ rfl w.heap.size 5 i _ 1 Try.underlying188 hi hz hsz .i64 .i64 _ (3 * m.length) rfl rfl (by go_num) (by rw [hb]; omega) (by unfold maxLen; omega) (Nat.le_refl _) ?_; intro w1 ho1 hg1)
  have own1 : OwnR byteK 5 w.heap.size All w1 (.slice (some ⟨w.heap.size, 0, none⟩) 0 (3 * m.length)) (nameTo m 0) := by rw [nameTo_zero]; exact OwnR.empty ho1
  have G1 : Gr w w1 := (Gr.refl w).grown hg1 (by simp)
  clear ho1 hg1
  go_wp2_with fail
  go_loopw [3, 12] (fun b i wr => ∃ k : Nat, k ≤ m.length ∧ i = .int .i64 k ∧ OwnR byteK 5 w.heap.size All wr b (nameTo m k) ∧ Gr w wr) (fun _ i _ => m.length - (intOf i).toNat)
  case atStart => exact ⟨0, Nat.zero_le _, rfl, own1, G1⟩
  case round =>
    rename_i wr
    obtain ⟨k, hk, rfl, hown, hgr⟩ := hrel
    by_cases hlt : k < m.length
    · obtain ⟨b', o, rfl, hcell⟩ := (hv.gr hgr).cell hlt
      have hb2 : 0 ≤ nth m k ∧ nth m k ≤ 1000000 := hm _ (by rw [nth_lt hlt]; exact List.getElem_mem hlt)
      have h0 : 0 ≤ nth m k := hb2.1
      have h1 : nth m k ≤ 1000000 := hb2.2
      have hll := nameTo_len hk
      have HS := Lib.hid (nameTo_succ hlt)
      clear hb2
      go_wp2_with (at_builtin; refine app_flat T _ _ w.heap.size All _ _ (nameTo m k) (bytes3 (nth m k)) (by rfl) (by rfl) (by rfl) (by rfl) (hown.alloc _) ((own_bytes (base := 0) (S := All) (xs := bytes3 (nth m k)) rfl rfl rfl (by simp [bytes3]; omega) (bytes3_lt _) (by simp [bytes3]) (Nat.zero_le _)).rd) (bytes3_lt _) (by simp [bytes3]; omega) (by simp [bytes3]; unfold maxLen; omega) (by have := hgr.le; simp; omega) ?_; intro v' w' ho hgs hgb hat)
      rw [← HS.out] at ho
      go_roundw
      case rel => exact ⟨k + 1, by omega, by go_num, ho, hgs w (Nat.le_refl _) (hgr.alloc _)⟩
      case measure => simp [intOf]; omega
    · obtain rfl : k = m.length := by omega
      rw [nameTo_all] at hown
      obtain ⟨ra, rc, rfl, _, _⟩ := hown.len
      have rs := hown.rd.str Try.underlying188 Try.underlying5 Try.underlying9
      rw [← nameS_def] at rs
      go_wp2_with fail
      go_ret
      exact ⟨rfl, hgr⟩
end Go.Proofs.Ytelfbfjegmncaaa
