/- Contracts of tokenhallref.SameLists and what it calls, at two that are the same: they answer true. -/
import Derived.Test.YtkanaoebpajbfaaGM
namespace Go.Proofs.Ytkanaoebpajbfaa
open Go.RowKit Go.Tok
set_option linter.unusedVariables false
theorem SameLists1_self (v u : Value) (x : List Int) (w : World) (hv : Ints w v x) (hu : Ints w u x) :
    Calls Try.prog 134 #[v, u] w fun e w' => e = .returned (.bool true) ∧ Gr w w' := by
  have e1 := eqB_yes (rfl : x = x)
  obtain ⟨a, cap, rfl, _, _⟩ := hv.len
  obtain ⟨a', cap', rfl, _, _⟩ := hu.len
  go_enter Try.func134, Try.ntmps134
  go_wp2_with fail
  refine (Equal_calls _ _ x x _ hv hu).mono ?_
  rw [e1]; rintro _ w1 ⟨rfl, g1⟩
  go_wp2_with fail
  go_ret
  exact ⟨rfl, g1⟩
set_option maxHeartbeats 1000000 in
set_option maxRecDepth 100000 in
theorem EqualFuncRow_self (v u : Value) (xs : List (List Int)) (w : World) (hv : Rd rowK w v xs) (hu : Rd rowK w u xs) :
    Calls Try.prog 133 #[v, u, .func (.func 134) #[] #[]] w fun e w' => e = .returned (.bool true) ∧ Gr w w' := by
  obtain ⟨a, cap, rfl, hlc, hcap⟩ := hv.len
  obtain ⟨a', cap', rfl, hlc', hcap'⟩ := hu.len
  have q0 : ((xs.length : Int) != (xs.length : Int)) = false := by simp
  have eg : ∀ args w, (callFunc 134 args).run Try.prog w = .ok (.enter 134 args) w := (Go.Proofs.enters_of Try.func134 (by kernel_rfl) rfl)
  go_enter Try.func133, Try.ntmps133
  go_wp2_with fail
  go_loopw [17] (fun i wr => ∃ k : Nat, k ≤ xs.length ∧ i = .int .i64 k ∧ Gr w wr) (fun i _ => xs.length - (intOf i).toNat)
  case atStart => exact ⟨0, Nat.zero_le _, rfl, Gr.refl _⟩
  case round =>
    rename_i wr _
    obtain ⟨k, hk, rfl, hgr⟩ := hrel
    by_cases hlt : k < xs.length
    · obtain ⟨b, o, z, rfl, c0, hI⟩ := (hv.gr hgr).row hlt
      obtain ⟨b', o', z', rfl, d0, hJ⟩ := (hu.gr hgr).row hlt
      obtain ⟨za, zc, rfl, _, _⟩ := hI.len
      obtain ⟨za', zc', rfl, _, _⟩ := hJ.len
      have hkI : (k : Int) < (xs.length : Int) := by omega
      have hcall := SameLists1_self _ _ _ wr hI hJ
      go_wp2_with (go_at_fn 134; refine hcall.mono ?_; rintro e w' ⟨rfl, g2⟩)
      go_roundw
      case rel => exact ⟨k + 1, by omega, by go_num, hgr.trans g2⟩
      case measure => simp [intOf]; omega
    · go_wp2_with fail
      go_ret
      exact ⟨rfl, hgr⟩
theorem SameLists_self (v u : Value) (xs : List (List Int)) (w : World) (hv : Rd rowK w v xs) (hu : Rd rowK w u xs) :
    Calls Try.prog 77 #[v, u] w fun e w' => e = .returned (.bool true) ∧ Gr w w' := by
  obtain ⟨a, cap, rfl, hlc, hcap⟩ := hv.len
  obtain ⟨a', cap', rfl, hlc', hcap'⟩ := hu.len
  go_enter Try.func77, Try.ntmps77
  go_wp2_with fail
  refine (EqualFuncRow_self _ _ xs _ hv hu).mono ?_
  rintro _ w1 ⟨rfl, g1⟩
  go_wp2_with fail
  go_ret
  exact ⟨rfl, g1⟩
end Go.Proofs.Ytkanaoebpajbfaa
