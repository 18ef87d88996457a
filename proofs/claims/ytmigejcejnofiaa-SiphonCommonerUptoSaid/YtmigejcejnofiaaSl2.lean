/- Contracts of the library's slices.Grow (at nil) and slices.Concat at '[]int'. Condition: the lengths add up to at most 17592186044416. -/
import Derived.Test.YtmigejcejnofiaaMark
import Derived.Test.YtmigejcejnofiaaMat
namespace Go.Proofs.Ytmigejcejnofiaa
open Go.RowKit Go.Tok
set_option linter.unusedVariables false

set_option maxHeartbeats 1000000 in
theorem Grow_calls (n : Nat) (w : World) (hn : n ≤ 17592186044416) :
    Calls Try.prog 68 #[.slice none 0 0, .int .i64 n] w fun e w' => ∃ v', e = .returned v' ∧ OwnI 3 w.heap.size w' v' [] ∧ Gr w w' := by
  have T := intTy
  by_cases h0 : n = 0
  · subst h0
    go_enter Try.func68, Try.ntmps68
    go_wp2
    go_ret
    exact ⟨_, rfl, OwnI.nil _ _ _, Gr.refl _⟩
  · obtain ⟨cap, w', hr, h1, h2, ho, g⟩ := own_room (w := w) (tn := 3) T Try.underlying3 (show 0 < n by omega) hn
    have HR := Lib.hid hr
    clear hr
    have hn0 : 0 < n := by omega
    have q : ((n : Int) > 0) := by omega
    go_enter Try.func68, Try.ntmps68
    go_wp2_with (at_builtin; refine Lib.wpList_append_run _ rfl _ _ _ _ rfl _ _ (by rfl) (by rfl) _ _ (HR.out _) ?_)
    go_ret
    exact ⟨_, rfl, ho, g⟩

set_option maxHeartbeats 2000000 in
theorem Concat_calls (v : Value) (l : List (List Int)) (w : World) (hv : Mat w v l) (hl : l.flatten.length ≤ 17592186044416) :
    Calls Try.prog 24 #[v] w fun e w' => ∃ v', e = .returned v' ∧ OwnI 3 w.heap.size w' v' l.flatten ∧ Gr w w' := by
  have T := intTy
  obtain ⟨a, cap, rfl, hlc, hcap⟩ := hv.len
  have hsum := sumTo_all l
  have hle : ∀ k, sumTo l k ≤ 17592186044416 := fun k => by have := sumTo_le l k; omega
  have HLE := Lib.hid hle
  have HSUM := Lib.hid hsum
  clear hsum hle
  go_enter Try.func24, Try.ntmps24
  go_wp2
  go_loop [3, 11] (fun s i => ∃ k : Nat, k ≤ l.length ∧ i = .int .i64 k ∧ s = .int .i64 (sumTo l k)) (fun _ i => l.length - (intOf i).toNat)
  case atStart => exact ⟨0, Nat.zero_le _, rfl, by rw [sumTo_zero]; rfl⟩
  case round =>
    obtain ⟨k, hk, rfl, rfl⟩ := hrel
    have b1 := HLE.out k
    by_cases hlt : k < l.length
    · obtain ⟨b, o, u, rfl, hc, hu⟩ := hv.at_ hlt
      obtain ⟨ua, uc, rfl, ul, ul'⟩ := hu.len
      have b2 := HLE.out (k + 1)
      have hs := sumTo_succ hlt
      have b3 : sumTo l k + (lrow l k).length ≤ 17592186044416 := by rw [← hs]; exact b2
      have HS := Lib.hid hs
      clear hs
      go_wp2
      go_round
      case rel => exact ⟨k + 1, by omega, by go_num, by rw [HS.out]; go_num⟩
      case measure => simp [intOf]; omega
    · obtain rfl : k = l.length := by omega
      go_wp2_with fail
      refine (Grow_calls _ _ b1).mono ?_
      rintro _ w1 ⟨v1, rfl, o1, g1⟩
      go_wp2_with fail
      go_loopw [6, 27] (fun out i wr => ∃ k : Nat, k ≤ l.length ∧ i = .int .i64 k ∧ OwnI 3 w.heap.size wr out (flatTo l k) ∧ Gr w wr) (fun _ i _ => l.length - (intOf i).toNat)
      case atStart => exact ⟨0, Nat.zero_le _, rfl, by rw [flatTo_zero]; exact o1, g1⟩
      case round =>
        rename_i wr _
        obtain ⟨k, hk, rfl, ho, hgr⟩ := hrel
        have hv2 := hv.gr hgr
        by_cases hlt : k < l.length
        · obtain ⟨b, o, u, rfl, hc, hu⟩ := hv2.at_ hlt
          have b2 := HLE.out (k + 1)
          have hs := sumTo_succ hlt
          have b3 : (flatTo l k).length + (lrow l k).length ≤ 17592186044416 := by rw [flatTo_len, ← hs]; exact b2
          have HF := Lib.hid (flatTo_succ hlt)
          clear hs
          go_wp2_with (at_builtin; refine app_ints T _ _ w.heap.size _ u (flatTo l k) (lrow l k) rfl rfl (by rfl) (by rfl) ho hu b3 hgr.le ?_; intro v' w' ho' hg' _ _)
          go_roundw
          case rel => exact ⟨k + 1, by omega, by go_num, by rw [HF.out]; exact ho', hg' w (Nat.le_refl _) hgr⟩
          case measure => simp [intOf]; omega
        · obtain rfl : k = l.length := by omega
          have HA := Lib.hid (flatTo_all l)
          go_wp2_with fail
          go_ret
          exact ⟨_, rfl, by rw [← HA.out]; exact ho, hgr⟩
end Go.Proofs.Ytmigejcejnofiaa
