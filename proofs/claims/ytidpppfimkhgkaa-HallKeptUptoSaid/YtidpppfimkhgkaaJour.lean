/- Contracts of the journal's small functions: RotateLeft8, sum, small. -/
import Derived.Test.YtidpppfimkhgkaaGM
import Derived.Test.YtidpppfimkhgkaaPB
import Derived.Laws.BitsAllLaws
import Derived.BigQuiet
import Derived.Deep.QuietTactic
namespace Go.Proofs.Ytidpppfimkhgkaa
open Go.RowKit Go.Tok
set_option linter.unusedVariables false

theorem ret_u8 {a b : Int} (h : a = b) : Ending.returned (.int .u8 a) = .returned (.int .u8 b) := by rw [h]
theorem rot_out {c k : Nat} {A B : Int} (hc : c < 256) (hk : k < 8) (hA : A = ((c * 2 ^ k % 256 : Nat) : Int)) (hB : B = ((c / 2 ^ (8 - k) : Nat) : Int)) : bits .or .u8 A B = ((rotN c k : Nat) : Int) := by
  subst hA hB
  rw [u8_or_nat _ _ (by omega) (Nat.lt_of_le_of_lt (Nat.div_le_self _ _) hc), rotN_def]

set_option maxHeartbeats 1000000 in
theorem RotateLeft8_calls (c k : Nat) (w : World) (hc : c < 256) (hk : k < 8) :
    Calls Try.prog 171 #[.int .u8 (c : Int), .int .i64 (k : Int)] w fun e w' => e = .returned (.int .u8 ((rotN c k : Nat) : Int)) ∧ w = w' := by
  have h8 : k = 0 ∨ k = 1 ∨ k = 2 ∨ k = 3 ∨ k = 4 ∨ k = 5 ∨ k = 6 ∨ k = 7 := by omega
  rcases h8 with rfl | rfl | rfl | rfl | rfl | rfl | rfl | rfl
  all_goals
    have e0 : bits .and .u64 0 7 = 0 := by decide +kernel
    have e1 : bits .and .u64 1 7 = 1 := by decide +kernel
    have e2 : bits .and .u64 2 7 = 2 := by decide +kernel
    have e3 : bits .and .u64 3 7 = 3 := by decide +kernel
    have e4 : bits .and .u64 4 7 = 4 := by decide +kernel
    have e5 : bits .and .u64 5 7 = 5 := by decide +kernel
    have e6 : bits .and .u64 6 7 = 6 := by decide +kernel
    have e7 : bits .and .u64 7 7 = 7 := by decide +kernel
    go_enter Try.func171, Try.ntmps171
    go_wp2
    go_ret
    exact ⟨ret_u8 (rot_out hc (by omega) (by first | (simp; done) | (simp; omega)) (by first | (simp; done) | (simp; omega))), rfl⟩

set_option maxHeartbeats 1000000 in
theorem sum_calls (v : Value) (b : List Nat) (w : World) (hv : Rd byteK w v b) (hl : b.length ≤ 8) :
    Calls Try.prog 160 #[v] w fun e w' => e = .returned (.int .u8 ((sumN b : Nat) : Int)) ∧ w = w' := by
  have hb : Bytes b := bytes_mk hv.bytes
  obtain ⟨a, cap, rfl, hlc, hcap⟩ := hv.len
  go_enter Try.func160, Try.ntmps160
  go_wp2
  go_loop [3, 8] (fun x i => ∃ k : Nat, k ≤ b.length ∧ i = .int .i64 k ∧ x = .int .u8 ((sumTo8 b k : Nat) : Int)) (fun _ i => b.length - (intOf i).toNat)
  case atStart => exact ⟨0, Nat.zero_le _, rfl, by rw [sumTo8_zero]; rfl⟩
  case round =>
    obtain ⟨k, hk, rfl, rfl⟩ := hrel
    by_cases hlt : k < b.length
    · obtain ⟨b', o, rfl, hcell, h256⟩ := hv.byte hlt
      have s1 := sumTo8_lt hb k (by omega)
      have e1 := u8_xor_nat (sumTo8 b k) (rotN (ix b k) k) s1 (rot_lt (by omega) h256)
      go_wp2_with (go_at_call 171; refine (RotateLeft8_calls _ _ _ h256 (by omega)).mono ?_; rintro e w' ⟨rfl, rfl⟩)
      go_round
      case rel => exact ⟨k + 1, by omega, by go_num, by rw [sumTo8_succ]⟩
      case measure => simp [intOf]; omega
    · obtain rfl : k = b.length := by omega
      go_wp2
      go_ret
      exact ⟨ret_u8 (by rw [sumN_def]), rfl⟩

theorem small_calls (n : Int) (w : World) (hn : I64 n) :
    Calls Try.prog 159 #[.int .i64 n] w fun e w' => e = .returned (.bool (smallB n)) ∧ w = w' := by
  have h1 := hn.1
  have h2 := hn.2
  by_cases h : 0 ≤ n
  · go_enter Try.func159, Try.ntmps159
    go_wp2
    all_goals go_ret
    all_goals exact ⟨ret_bool (by rw [smallB_def, Bool.eq_iff_iff]; simp; omega), rfl⟩
  · have h' : n < 0 := by omega
    go_enter Try.func159, Try.ntmps159
    go_wp2
    go_ret
    exact ⟨ret_bool (by rw [smallB_def, Bool.eq_iff_iff]; simp; omega), rfl⟩
end Go.Proofs.Ytidpppfimkhgkaa
