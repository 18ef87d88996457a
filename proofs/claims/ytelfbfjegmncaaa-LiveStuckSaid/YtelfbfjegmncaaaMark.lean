/- Contracts, for every input that reads as data, of the marking functions at, Covers, Same, Right and of the library's IndexFunc, ContainsFunc at '[]int': what each call answers, the world left as it was. Conditions: none beyond how the arguments read. -/
import Derived.Test.YtelfbfjegmncaaaProg
import Derived.Test.YtelfbfjegmncaaaCore
namespace Go.Proofs.Ytelfbfjegmncaaa
open Go.RowKit Go.Tok
set_option linter.unusedVariables false

set_option maxHeartbeats 400000 in
theorem at_calls (v : Value) (xs : List Int) (p : Int) (w : World) (h0 : 0 ≤ p) (h : Ints w v xs) :
    Calls Try.prog 126 #[v, .int .i64 p] w fun e w' => e = .returned (.int .i64 (nth xs p.toNat)) ∧ w = w' := by
  obtain ⟨a, cap, rfl, hlc, hcap⟩ := h.len
  obtain ⟨k, rfl⟩ := Int.eq_ofNat_of_zero_le h0
  by_cases hk : k < xs.length
  · obtain ⟨b, o, rfl, hcell⟩ := h.cell hk
    go_enter Try.func126, Try.ntmps126
    go_wp2
    go_ret
    exact ⟨rfl, rfl⟩
  · go_enter Try.func126, Try.ntmps126
    go_wp2
    go_ret
    exact ⟨ret_i64 (nth_ge (by simpa using hk)).symm, rfl⟩

set_option maxHeartbeats 400000 in
theorem Covers_calls (v u : Value) (xs ys : List Int) (w : World) (hv : Ints w v xs) (hu : Ints w u ys) :
    Calls Try.prog 116 #[v, u] w fun e w' => e = .returned (.bool (coversB xs ys)) ∧ w = w' := by
  obtain ⟨a, cap, rfl, hlc, hcap⟩ := hv.len
  obtain ⟨a', cap', rfl, hlc', hcap'⟩ := hu.len
  rcases Nat.lt_or_ge xs.length ys.length with hle | hle
  all_goals
    go_enter Try.func116, Try.ntmps116
    go_wp2
    go_loop [11] (fun i => ∃ k : Nat, k ≤ max xs.length ys.length ∧ i = .int .i64 k ∧ CovUpto xs ys k) (fun i => max xs.length ys.length - (intOf i).toNat)
    case atStart => exact ⟨0, Nat.zero_le _, rfl, CovUpto.zero _ _⟩
    case round =>
      obtain ⟨k, hk, rfl, hall⟩ := hrel
      go_wp2_with (go_at_call 126; refine (at_calls _ _ _ _ (by omega) (by assumption)).mono ?_; rintro e w' ⟨rfl, rfl⟩)
      · go_ret
        exact ⟨ret_bool (coversB_no (k := k) (by assumption)).symm, rfl⟩
      · go_round
        case rel => exact ⟨k + 1, by omega, by go_num, hall.succ (by assumption)⟩
        case measure => simp [intOf]; omega
      · go_ret
        exact ⟨ret_bool (hall.all (by omega)).symm, rfl⟩

set_option maxHeartbeats 400000 in
theorem IndexFunc_calls (v : Value) (xs : List Int) (g : Nat) (lb : Array Value) (p : Int → Bool) (w : World) (eg : ∀ args w, (callFunc g args).run Try.prog w = .ok (.enter g args) w)
    (hv : Ints w v xs) (hg : Answers Try.prog g lb p) :
    Calls Try.prog 84 #[v, .func (.func g) #[] lb] w fun e w' => e = .returned (.int .i64 (firstOf p xs)) ∧ w = w' := by
  obtain ⟨a, cap, rfl, hlc, hcap⟩ := hv.len
  go_enter Try.func84, Try.ntmps84
  go_wp2
  go_loop [8] (fun i => ∃ k : Nat, k ≤ xs.length ∧ i = .int .i64 k ∧ NoneUpto p xs k) (fun i => xs.length - (intOf i).toNat)
  case atStart => exact ⟨0, Nat.zero_le _, rfl, NoneUpto.zero _ _⟩
  case round =>
    obtain ⟨k, hk, rfl, hall⟩ := hrel
    by_cases hlt : k < xs.length
    · obtain ⟨b, o, rfl, hcell⟩ := hv.cell hlt
      have hr := hv.range k
      cases hp : p (nth xs k)
      · have hcall := hg w (nth xs k) hr
        rw [hp] at hcall
        go_wp2_with (go_at_fn g; refine hcall.mono ?_; rintro e w' ⟨rfl, rfl⟩)
        go_round
        case rel => exact ⟨k + 1, by omega, by go_num, hall.succ hp⟩
        case measure => simp [intOf]; omega
      · have hcall := hg w (nth xs k) hr
        rw [hp] at hcall
        go_wp2_with (go_at_fn g; refine hcall.mono ?_; rintro e w' ⟨rfl, rfl⟩)
        go_ret
        exact ⟨ret_i64 (firstOf_hit hall hlt hp).symm, rfl⟩
    · obtain rfl : k = xs.length := by omega
      go_wp2
      go_ret
      exact ⟨ret_i64 (firstOf_miss hall).symm, rfl⟩

set_option maxHeartbeats 400000 in
theorem ContainsFunc_calls (v : Value) (xs : List Int) (g : Nat) (lb : Array Value) (p : Int → Bool) (w : World) (eg : ∀ args w, (callFunc g args).run Try.prog w = .ok (.enter g args) w)
    (hv : Ints w v xs) (hg : Answers Try.prog g lb p) :
    Calls Try.prog 35 #[v, .func (.func g) #[] lb] w fun e w' => e = .returned (.bool (xs.any p)) ∧ w = w' := by
  go_enter Try.func35, Try.ntmps35
  go_wp2_with (go_at_call 84; refine (IndexFunc_calls _ _ _ _ _ _ eg hv hg).mono ?_; rintro e w' ⟨rfl, rfl⟩)
  go_ret
  exact ⟨ret_bool (firstOf_any p xs), rfl⟩

theorem Right1_answers : Answers Try.prog 124 #[] (fun n => decide (n < 0) || decide (n > 1000000)) := by
  intro W x hx
  by_cases h : x < 0
  · go_enter Try.func124, Try.ntmps124
    go_wp2
    go_ret
    exact ⟨ret_bool (by simp [h]), rfl⟩
  · have h : 0 ≤ x := by omega
    go_enter Try.func124, Try.ntmps124
    go_wp2
    all_goals go_ret
    all_goals exact ⟨ret_bool (by rw [Bool.eq_iff_iff]; simp; omega), rfl⟩

set_option maxHeartbeats 400000 in
theorem Right_calls (v : Value) (xs : List Int) (w : World) (hv : Ints w v xs) :
    Calls Try.prog 105 #[v] w fun e w' => e = .returned (.bool (rightB xs)) ∧ w = w' := by
  have eg : ∀ args w, (callFunc 124 args).run Try.prog w = .ok (.enter 124 args) w := (Go.Proofs.enters_of Try.func124 (by kernel_rfl) rfl)
  go_enter Try.func105, Try.ntmps105
  go_wp2_with (go_at_call 35; refine (ContainsFunc_calls _ _ _ _ _ _ eg hv Right1_answers).mono ?_; rintro e w' ⟨rfl, rfl⟩)
  go_ret
  exact ⟨ret_bool (rightB_def xs).symm, rfl⟩


theorem intTy : IntTy Try.prog 32 3 := ⟨Try.underlying32, by kernel_rfl⟩


end Go.Proofs.Ytelfbfjegmncaaa
