/- Contracts of flow.Weigh, Effect, Kept, Round. -/
import Derived.Test.YtkpbhkfpkoiilaaFlow
import Derived.Test.YtkpbhkfpkoiilaaFlowLaw2
import Derived.Test.YtkpbhkfpkoiilaaNet
import Derived.Deep.RegionHeld3
namespace Go.Proofs.Ytkpbhkfpkoiilaa
open Go.RowKit Go.Tok
set_option linter.unusedVariables false

set_option maxHeartbeats 1000000 in
theorem Weigh_calls (v u : Value) (y m : List Int) (w : World) (hv : Ints w v y) (hu : Ints w u m) (hw : WOk y m) :
    Calls Try.prog 40 #[v, u] w fun e w' => e = .returned (.int .i64 (weighF y m)) ∧ Gr w w' := by
  obtain ⟨a, cap, rfl, hlc, hcap⟩ := hv.len
  obtain ⟨a', cap', rfl, hlc', hcap'⟩ := hu.len
  have h16 := hw.min
  obtain ⟨n, hn⟩ : ∃ n, n = min y.length m.length := ⟨_, rfl⟩
  rw [← hn] at h16
  have HN := Lib.hid hn
  rcases Nat.lt_trichotomy y.length m.length with hle | hle | hle
  all_goals
    have hn1 : n ≤ y.length := by omega
    have hn2 : n ≤ m.length := by omega
    clear hn
    go_enter Try.func40, Try.ntmps40
    go_wp2_with fail
    go_loopw [5, 12] (fun s i wr => ∃ k : Nat, k ≤ n ∧ i = .int .i64 k ∧ s = .int .i64 (weighTo y m k) ∧ Gr w wr) (fun _ i _ => n - (intOf i).toNat)
    case atStart => exact ⟨0, Nat.zero_le _, rfl, by rw [weighTo_zero], Gr.refl _⟩
    case round =>
      rename_i wr
      obtain ⟨k, hk, rfl, rfl, hgr⟩ := hrel
      have hN := HN.out
      by_cases hlt : k < n
      · obtain ⟨b, o, rfl, c1⟩ := (hv.gr hgr).cell (show k < y.length by omega)
        obtain ⟨b', o', rfl, c2⟩ := (hu.gr hgr).cell (show k < m.length by omega)
        have t := hw.term k
        have t1 := t.1
        have t2 := t.2
        have s := hw.le k (by omega)
        have s1 := s.1
        have s2 := s.2
        have i1 : (0 : Int) ≤ (k : Int) := by omega
        have i2 : (k : Int) < (y.length : Int) := by omega
        have i3 : (k : Int) < (m.length : Int) := by omega
        clear t s hN
        go_wp2_with fail
        go_quiet (fail)
        go_wp2_with fail
        go_roundw
        case rel => exact ⟨k + 1, by omega, by go_num, by rw [weighTo_succ], hgr.drewN _⟩
        case measure => simp [intOf]; omega
      · have hkn : k = n := by omega
        first | (have g : y.length ≤ k := by omega) | (have g : m.length ≤ k := by omega)
        clear hN
        go_wp2_with fail
        go_ret
        exact ⟨ret_i64 (by rw [weighF_def, ← HN.out, hkn]), hgr⟩
end Go.Proofs.Ytkpbhkfpkoiilaa
