/- Contracts of the library's slices.Grow (at nil) and slices.Concat at '[]api.HallOp' and '[]api.DeskOp'. -/
import Derived.Test.YtidpppfimkhgkaaMatK
import Derived.Test.YtidpppfimkhgkaaHall1
namespace Go.Proofs.Ytidpppfimkhgkaa
open Go.RowKit Go.Tok
set_option linter.unusedVariables false
set_option maxHeartbeats 1000000 in
theorem GrowHop_calls (n : Nat) (w : World) (hn : n * 56 ≤ 140737488355328) (hn' : n ≤ 2513169434916) :
    Calls Try.prog 93 #[.slice none 0 0, .int .i64 n] w fun e w' => ∃ v', e = .returned v' ∧ OwnR hopK 61 w.heap.size NoB w' v' [] ∧ Gr w w' := by
  have T := hopTy
  by_cases h0 : n = 0
  · subst h0
    go_enter Try.func93, Try.ntmps93
    go_wp2
    go_ret
    exact ⟨_, rfl, OwnR.nil _ _ _ _, Gr.refl _⟩
  · obtain ⟨cap, w', hr, h1, h2, ho, g⟩ := own_roomK (w := w) (tn := 3) T Try.underlying3 (show 0 < n by omega) (by omega) (by unfold maxLen; omega)
    have HR := Lib.hid hr
    clear hr
    have hn0 : 0 < n := by omega
    have q : ((n : Int) > 0) := by omega
    go_enter Try.func93, Try.ntmps93
    go_wp2_with (at_builtin; refine Lib.wpList_append_run _ rfl _ _ _ _ rfl _ _ (by rfl) (by rfl) _ _ (HR.out _) ?_)
    go_ret
    exact ⟨_, rfl, ho _, g⟩
set_option maxHeartbeats 2000000 in
theorem ConcatHop_calls (v : Value) (l : List (List HopD)) (w : World) (hv : MatK hopK w v l) (hl : l.flatten.length ≤ 2513169434916) :
    Calls Try.prog 40 #[v] w fun e w' => ∃ v', e = .returned v' ∧ OwnR hopK 61 w.heap.size NoB w' v' l.flatten ∧ Gr w w' := by
  have T := hopTy
  obtain ⟨a, cap, rfl, hlc, hcap⟩ := hv.len
  have hsum := sumK_all l
  have hle : ∀ k, sumK l k ≤ 2513169434916 := fun k => by have := sumK_le l k; omega
  have HLE := Lib.hid hle
  have HSUM := Lib.hid hsum
  clear hsum hle
  go_enter Try.func40, Try.ntmps40
  go_wp2
  go_loop [3, 11] (fun s i => ∃ k : Nat, k ≤ l.length ∧ i = .int .i64 k ∧ s = .int .i64 (sumK l k)) (fun _ i => l.length - (intOf i).toNat)
  case atStart => exact ⟨0, Nat.zero_le _, rfl, by rw [sumK_zero]; rfl⟩
  case round =>
    obtain ⟨k, hk, rfl, rfl⟩ := hrel
    have b1 := HLE.out k
    by_cases hlt : k < l.length
    · obtain ⟨b, o, u, rfl, hc, hu⟩ := hv.at_ hlt
      obtain ⟨ua, uc, rfl, ul, ul'⟩ := hu.len
      have b2 := HLE.out (k + 1)
      have hs := sumK_succ hlt
      have b3 : sumK l k + (ix l k).length ≤ 2513169434916 := by rw [← hs]; exact b2
      have HS := Lib.hid hs
      clear hs
      go_wp2
      go_round
      case rel => exact ⟨k + 1, by omega, by go_num, by rw [HS.out]; go_num⟩
      case measure => simp [intOf]; omega
    · obtain rfl : k = l.length := by omega
      go_wp2_with fail
      refine (GrowHop_calls _ _ (by omega) b1).mono ?_
      rintro _ w1 ⟨v1, rfl, o1, g1⟩
      go_wp2_with fail
      go_loopw [6, 27] (fun out i wr => ∃ k : Nat, k ≤ l.length ∧ i = .int .i64 k ∧ OwnR hopK 61 w.heap.size NoB wr out (flatK l k) ∧ Gr w wr) (fun _ i _ => l.length - (intOf i).toNat)
      case atStart => exact ⟨0, Nat.zero_le _, rfl, by rw [flatK_zero]; exact o1, g1⟩
      case round =>
        rename_i wr _
        obtain ⟨k, hk, rfl, ho, hgr⟩ := hrel
        have hv2 := hv.gr hgr
        by_cases hlt : k < l.length
        · obtain ⟨b, o, u, rfl, hc, hu⟩ := hv2.at_ hlt
          have b2 := HLE.out (k + 1)
          have hs := sumK_succ hlt
          have b3 : (flatK l k).length + (ix l k).length ≤ 2513169434916 := by rw [flatK_len, ← hs]; exact b2
          have HF := Lib.hid (flatK_succ hlt)
          have HY := hop_okI hu
          clear hs
          go_wp2_with (at_builtin; go_loud (refine app_flat T _ _ w.heap.size NoB _ u (flatK l k) (ix l k) (by rfl) (by rfl) (by rfl) (by rfl) ho hu HY (by omega) (by unfold maxLen; omega) hgr.le ?_; intro v' w' ho' hg' _ _))
          go_roundw
          case rel => exact ⟨k + 1, by omega, by go_num, by rw [HF.out]; exact ho', hg' w (Nat.le_refl _) hgr⟩
          case measure => simp [intOf]; omega
        · obtain rfl : k = l.length := by omega
          have HA := Lib.hid (flatK_all l)
          go_wp2_with fail
          go_ret
          exact ⟨_, rfl, by rw [← HA.out]; exact ho, hgr⟩
set_option maxHeartbeats 1000000 in
theorem GrowOp_calls (n : Nat) (w : World) (hn : n * 40 ≤ 140737488355328) (hn' : n ≤ 2513169434916) :
    Calls Try.prog 94 #[.slice none 0 0, .int .i64 n] w fun e w' => ∃ v', e = .returned v' ∧ OwnR opK 59 w.heap.size NoB w' v' [] ∧ Gr w w' := by
  have T := opTy
  by_cases h0 : n = 0
  · subst h0
    go_enter Try.func94, Try.ntmps94
    go_wp2
    go_ret
    exact ⟨_, rfl, OwnR.nil _ _ _ _, Gr.refl _⟩
  · obtain ⟨cap, w', hr, h1, h2, ho, g⟩ := own_roomK (w := w) (tn := 3) T Try.underlying3 (show 0 < n by omega) (by omega) (by unfold maxLen; omega)
    have HR := Lib.hid hr
    clear hr
    have hn0 : 0 < n := by omega
    have q : ((n : Int) > 0) := by omega
    go_enter Try.func94, Try.ntmps94
    go_wp2_with (at_builtin; refine Lib.wpList_append_run _ rfl _ _ _ _ rfl _ _ (by rfl) (by rfl) _ _ (HR.out _) ?_)
    go_ret
    exact ⟨_, rfl, ho _, g⟩
set_option maxHeartbeats 2000000 in
theorem ConcatOp_calls (v : Value) (l : List (List OpD)) (w : World) (hv : MatK opK w v l) (hl : l.flatten.length ≤ 2513169434916) :
    Calls Try.prog 42 #[v] w fun e w' => ∃ v', e = .returned v' ∧ OwnR opK 59 w.heap.size NoB w' v' l.flatten ∧ Gr w w' := by
  have T := opTy
  obtain ⟨a, cap, rfl, hlc, hcap⟩ := hv.len
  have hsum := sumK_all l
  have hle : ∀ k, sumK l k ≤ 2513169434916 := fun k => by have := sumK_le l k; omega
  have HLE := Lib.hid hle
  have HSUM := Lib.hid hsum
  clear hsum hle
  go_enter Try.func42, Try.ntmps42
  go_wp2
  go_loop [3, 11] (fun s i => ∃ k : Nat, k ≤ l.length ∧ i = .int .i64 k ∧ s = .int .i64 (sumK l k)) (fun _ i => l.length - (intOf i).toNat)
  case atStart => exact ⟨0, Nat.zero_le _, rfl, by rw [sumK_zero]; rfl⟩
  case round =>
    obtain ⟨k, hk, rfl, rfl⟩ := hrel
    have b1 := HLE.out k
    by_cases hlt : k < l.length
    · obtain ⟨b, o, u, rfl, hc, hu⟩ := hv.at_ hlt
      obtain ⟨ua, uc, rfl, ul, ul'⟩ := hu.len
      have b2 := HLE.out (k + 1)
      have hs := sumK_succ hlt
      have b3 : sumK l k + (ix l k).length ≤ 2513169434916 := by rw [← hs]; exact b2
      have HS := Lib.hid hs
      clear hs
      go_wp2
      go_round
      case rel => exact ⟨k + 1, by omega, by go_num, by rw [HS.out]; go_num⟩
      case measure => simp [intOf]; omega
    · obtain rfl : k = l.length := by omega
      go_wp2_with fail
      refine (GrowOp_calls _ _ (by omega) b1).mono ?_
      rintro _ w1 ⟨v1, rfl, o1, g1⟩
      go_wp2_with fail
      go_loopw [6, 27] (fun out i wr => ∃ k : Nat, k ≤ l.length ∧ i = .int .i64 k ∧ OwnR opK 59 w.heap.size NoB wr out (flatK l k) ∧ Gr w wr) (fun _ i _ => l.length - (intOf i).toNat)
      case atStart => exact ⟨0, Nat.zero_le _, rfl, by rw [flatK_zero]; exact o1, g1⟩
      case round =>
        rename_i wr _
        obtain ⟨k, hk, rfl, ho, hgr⟩ := hrel
        have hv2 := hv.gr hgr
        by_cases hlt : k < l.length
        · obtain ⟨b, o, u, rfl, hc, hu⟩ := hv2.at_ hlt
          have b2 := HLE.out (k + 1)
          have hs := sumK_succ hlt
          have b3 : (flatK l k).length + (ix l k).length ≤ 2513169434916 := by rw [flatK_len, ← hs]; exact b2
          have HF := Lib.hid (flatK_succ hlt)
          have HY := op_okI hu
          clear hs
          go_wp2_with (at_builtin; go_loud (refine app_flat T _ _ w.heap.size NoB _ u (flatK l k) (ix l k) (by rfl) (by rfl) (by rfl) (by rfl) ho hu HY (by omega) (by unfold maxLen; omega) hgr.le ?_; intro v' w' ho' hg' _ _))
          go_roundw
          case rel => exact ⟨k + 1, by omega, by go_num, by rw [HF.out]; exact ho', hg' w (Nat.le_refl _) hgr⟩
          case measure => simp [intOf]; omega
        · obtain rfl : k = l.length := by omega
          have HA := Lib.hid (flatK_all l)
          go_wp2_with fail
          go_ret
          exact ⟨_, rfl, by rw [← HA.out]; exact ho, hgr⟩
end Go.Proofs.Ytidpppfimkhgkaa
