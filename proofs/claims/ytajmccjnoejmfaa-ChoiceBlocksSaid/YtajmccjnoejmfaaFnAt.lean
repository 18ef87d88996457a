/- Contracts of the library's IndexFunc, ContainsFunc at '[]int' where the function that is handed over answers in the world at hand. -/
import Derived.Test.YtajmccjnoejmfaaGM
namespace Go.Proofs.Ytajmccjnoejmfaa
open Go.RowKit Go.Tok
set_option linter.unusedVariables false

/-- the function g, at the world w, answers p -/
def AnswersAt (P : Program) (g : Nat) (lb : Array Value) (p : Int → Bool) (W : World) : Prop :=
  ∀ (x : Int), I64 x → Calls P g (#[.int .i64 x] ++ lb) W fun e w' => e = .returned (.bool (p x)) ∧ W = w'

set_option maxHeartbeats 400000 in
theorem IndexFuncAt_calls (v : Value) (xs : List Int) (g : Nat) (lb : Array Value) (p : Int → Bool) (w : World) (eg : ∀ args w, (callFunc g args).run Try.prog w = .ok (.enter g args) w)
    (hv : Ints w v xs) (hg : AnswersAt Try.prog g lb p w) :
    Calls Try.prog 41 #[v, .func (.func g) #[] lb] w fun e w' => e = .returned (.int .i64 (firstOf p xs)) ∧ w = w' := by
  obtain ⟨a, cap, rfl, hlc, hcap⟩ := hv.len
  go_enter Try.func41, Try.ntmps41
  go_wp2
  go_loop [8] (fun i => ∃ k : Nat, k ≤ xs.length ∧ i = .int .i64 k ∧ NoneUpto p xs k) (fun i => xs.length - (intOf i).toNat)
  case atStart => exact ⟨0, Nat.zero_le _, rfl, NoneUpto.zero _ _⟩
  case round =>
    obtain ⟨k, hk, rfl, hall⟩ := hrel
    by_cases hlt : k < xs.length
    · obtain ⟨b, o, rfl, hcell⟩ := hv.cell hlt
      have hr := hv.range k
      cases hp : p (nth xs k)
      · have hcall := hg (nth xs k) hr
        rw [hp] at hcall
        go_wp2_with (go_at_fn g; refine hcall.mono ?_; rintro e w' ⟨rfl, rfl⟩)
        go_round
        case rel => exact ⟨k + 1, by omega, by go_num, hall.succ hp⟩
        case measure => simp [intOf]; omega
      · have hcall := hg (nth xs k) hr
        rw [hp] at hcall
        go_wp2_with (go_at_fn g; refine hcall.mono ?_; rintro e w' ⟨rfl, rfl⟩)
        go_ret
        exact ⟨ret_i64 (firstOf_hit hall hlt hp).symm, rfl⟩
    · obtain rfl : k = xs.length := by omega
      go_wp2
      go_ret
      exact ⟨ret_i64 (firstOf_miss hall).symm, rfl⟩

set_option maxHeartbeats 400000 in
theorem ContainsFuncAt_calls (v : Value) (xs : List Int) (g : Nat) (lb : Array Value) (p : Int → Bool) (w : World) (eg : ∀ args w, (callFunc g args).run Try.prog w = .ok (.enter g args) w)
    (hv : Ints w v xs) (hg : AnswersAt Try.prog g lb p w) :
    Calls Try.prog 17 #[v, .func (.func g) #[] lb] w fun e w' => e = .returned (.bool (xs.any p)) ∧ w = w' := by
  go_enter Try.func17, Try.ntmps17
  go_wp2_with (go_at_call 41; refine (IndexFuncAt_calls _ _ _ _ _ _ eg hv hg).mono ?_; rintro e w' ⟨rfl, rfl⟩)
  go_ret
  exact ⟨ret_bool (firstOf_any p xs), rfl⟩


end Go.Proofs.Ytajmccjnoejmfaa
