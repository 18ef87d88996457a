/- Contracts of the library's slices.Grow (at nil) and slices.Concat at pairs of ints. -/
import Derived.Test.YtkanaoebpajbfaaMatK
import Derived.Test.YtkanaoebpajbfaaTrk6
namespace Go.Proofs.Ytkanaoebpajbfaa
open Go.RowKit Go.Tok
set_option linter.unusedVariables false
theorem pair_okI {w : World} {v : Value} {xs : List (Int × Int)} (hv : Rd pairK w v xs) : ∀ y ∈ xs, pairI y := by
  intro y hy
  obtain ⟨a, c, rfl, _, _⟩ := hv.len
  obtain ⟨i, hi, rfl⟩ := List.getElem_of_mem hy
  obtain ⟨b, o, vs, _, ⟨_, hI⟩, _⟩ := hv.at_ hi
  rw [ix_lt hi] at hI
  exact hI
set_option maxHeartbeats 1000000 in
theorem GrowP_calls (n : Nat) (w : World) (hn : n * 16 ≤ 140737488355328) (hn' : n ≤ 2513169434916) :
    Calls Try.prog 87 #[.slice none 0 0, .int .i64 n] w fun e w' => ∃ v', e = .returned v' ∧ OwnR pairK 71 w.heap.size NoS w' v' [] ∧ Gr w w' := by
  have T := pairTy
  by_cases h0 : n = 0
  · subst h0
    go_enter Try.func87, Try.ntmps87
    go_wp2
    go_ret
    exact ⟨_, rfl, OwnR.nil _ _ _ _, Gr.refl _⟩
  · obtain ⟨cap, w', hr, h1, h2, ho, g⟩ := own_roomK (w := w) (tn := 3) T Try.underlying3 (show 0 < n by omega) (by omega) (by unfold maxLen; omega)
    have HR := Lib.hid hr
    clear hr
    have hn0 : 0 < n := by omega
    have q : ((n : Int) > 0) := by omega
    go_enter Try.func87, Try.ntmps87
    go_wp2_with (at_builtin; refine Lib.wpList_append_run _ rfl _ _ _ _ rfl _ _ (by rfl) (by rfl) _ _ (HR.out _) ?_)
    go_ret
    exact ⟨_, rfl, ho _, g⟩
set_option maxHeartbeats 2000000 in
theorem ConcatP_calls (v : Value) (l : List (List (Int × Int))) (w : World) (hv : MatK pairK w v l) (hl : l.flatten.length ≤ 2513169434916) :
    Calls Try.prog 31 #[v] w fun e w' => ∃ v', e = .returned v' ∧ OwnR pairK 71 w.heap.size NoS w' v' l.flatten ∧ Gr w w' := by
  have T := pairTy
  obtain ⟨a, cap, rfl, hlc, hcap⟩ := hv.len
  have hsum := sumK_all l
  have hle : ∀ k, sumK l k ≤ 2513169434916 := fun k => by have := sumK_le l k; omega
  have HLE := Lib.hid hle
  have HSUM := Lib.hid hsum
  clear hsum hle
  go_enter Try.func31, Try.ntmps31
  go_wp2
  go_loop [3, 11] (fun s i => ∃ k : Nat, k ≤ l.length ∧ i = .int .i64 k ∧ s = .int .i64 (sumK l k)) (fun _ i => l.length - (intOf i).toNat)
  case atStart => exact ⟨0, Nat.zero_le _, rfl, by rw [sumK_zero]; rfl⟩
  case round =>
    obtain ⟨k, hk, rfl, rfl⟩ := hrel
    have b1 := HLE.out k
    by_cases hlt : k < l.length
    · obtain ⟨b, o, u, rfl, hc, hu⟩ := hv.at_ hlt
      obtain ⟨ua, uc, rfl, ul, ul'⟩ := hu.len
      have b2 := HLE.out (k + 1)
      have hs := sumK_succ hlt
      have b3 : sumK l k + (ix l k).length ≤ 2513169434916 := by rw [← hs]; exact b2
      have HS := Lib.hid hs
      clear hs
      go_wp2
      go_round
      case rel => exact ⟨k + 1, by omega, by go_num, by rw [HS.out]; go_num⟩
      case measure => simp [intOf]; omega
    · obtain rfl : k = l.length := by omega
      go_wp2_with fail
      refine (GrowP_calls _ _ (by omega) b1).mono ?_
      rintro _ w1 ⟨v1, rfl, o1, g1⟩
      go_wp2_with fail
      go_loopw [6, 27] (fun out i wr => ∃ k : Nat, k ≤ l.length ∧ i = .int .i64 k ∧ OwnR pairK 71 w.heap.size NoS wr out (flatK l k) ∧ Gr w wr) (fun _ i _ => l.length - (intOf i).toNat)
      case atStart => exact ⟨0, Nat.zero_le _, rfl, by rw [flatK_zero]; exact o1, g1⟩
      case round =>
        rename_i wr _
        obtain ⟨k, hk, rfl, ho, hgr⟩ := hrel
        have hv2 := hv.gr hgr
        by_cases hlt : k < l.length
        · obtain ⟨b, o, u, rfl, hc, hu⟩ := hv2.at_ hlt
          have b2 := HLE.out (k + 1)
          have hs := sumK_succ hlt
          have b3 : (flatK l k).length + (ix l k).length ≤ 2513169434916 := by rw [flatK_len, ← hs]; exact b2
          have HF := Lib.hid (flatK_succ hlt)
          have HY := pair_okI hu
          clear hs
          go_wp2_with (at_builtin; go_loud (refine app_flat T _ _ w.heap.size NoS _ u (flatK l k) (ix l k) (by rfl) (by rfl) (by rfl) (by rfl) ho hu HY (by omega) (by unfold maxLen; omega) hgr.le ?_; intro v' w' ho' hg' _ _))
          go_roundw
          case rel => exact ⟨k + 1, by omega, by go_num, by rw [HF.out]; exact ho', hg' w (Nat.le_refl _) hgr⟩
          case measure => simp [intOf]; omega
        · obtain rfl : k = l.length := by omega
          have HA := Lib.hid (flatK_all l)
          go_wp2_with fail
          go_ret
          exact ⟨_, rfl, by rw [← HA.out]; exact ho, hgr⟩
end Go.Proofs.Ytkanaoebpajbfaa
