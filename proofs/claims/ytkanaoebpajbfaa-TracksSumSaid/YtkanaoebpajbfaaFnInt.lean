/- Contracts of the library's IndexFunc, ContainsFunc at '[]int', where the function that is handed over answers at each of the numbers, and may grow the world. -/
import Derived.Test.YtkanaoebpajbfaaPA
import Derived.Test.YtkanaoebpajbfaaGM
namespace Go.Proofs.Ytkanaoebpajbfaa
open Go.RowKit Go.Tok
set_option linter.unusedVariables false
/-- the function g, bound to lb, answers p at each number of xs, in w0 and in every later world -/
def AnswersI (P : Program) (g : Nat) (lb : Array Value) (xs : List Int) (p : Int → Bool) (w0 : World) : Prop :=
  ∀ (W : World) (x : Int), x ∈ xs → Gr w0 W → I64 x → Calls P g (#[.int .i64 x] ++ lb) W fun e w' => e = .returned (.bool (p x)) ∧ Gr W w'
theorem nth_mem {xs : List Int} {k : Nat} (h : k < xs.length) : nth xs k ∈ xs := by rw [nth_lt h]; exact List.getElem_mem h
set_option maxHeartbeats 400000 in
theorem IndexFuncI_calls (v : Value) (xs : List Int) (g : Nat) (lb : Array Value) (p : Int → Bool) (w : World) (eg : ∀ args w, (callFunc g args).run Try.prog w = .ok (.enter g args) w)
    (hv : Ints w v xs) (hg : AnswersI Try.prog g lb xs p w) :
    Calls Try.prog 162 #[v, .func (.func g) #[] lb] w fun e w' => e = .returned (.int .i64 (firstOf p xs)) ∧ Gr w w' := by
  obtain ⟨a, cap, rfl, hlc, hcap⟩ := hv.len
  go_enter Try.func162, Try.ntmps162
  go_wp2
  go_loopw [8] (fun i wr => ∃ k : Nat, k ≤ xs.length ∧ i = .int .i64 k ∧ NoneUpto p xs k ∧ Gr w wr) (fun i _ => xs.length - (intOf i).toNat)
  case atStart => exact ⟨0, Nat.zero_le _, rfl, NoneUpto.zero _ _, Gr.refl _⟩
  case round =>
    rename_i wr _
    obtain ⟨k, hk, rfl, hall, hgr⟩ := hrel
    by_cases hlt : k < xs.length
    · obtain ⟨b, o, rfl, hcell⟩ := (hv.gr hgr).cell hlt
      have hr := hv.range k
      have hcall := hg wr (nth xs k) (nth_mem hlt) hgr hr
      cases hp : p (nth xs k)
      · rw [hp] at hcall
        go_wp2_with (go_at_fn g; refine hcall.mono ?_; rintro e w' ⟨rfl, g2⟩)
        go_roundw
        case rel => exact ⟨k + 1, by omega, by go_num, hall.succ hp, hgr.trans g2⟩
        case measure => simp [intOf]; omega
      · rw [hp] at hcall
        go_wp2_with (go_at_fn g; refine hcall.mono ?_; rintro e w' ⟨rfl, g2⟩)
        go_ret
        exact ⟨ret_i64 (firstOf_hit hall hlt hp).symm, hgr.trans g2⟩
    · obtain rfl : k = xs.length := by omega
      go_wp2
      go_ret
      exact ⟨ret_i64 (firstOf_miss hall).symm, hgr⟩
set_option maxHeartbeats 400000 in
theorem ContainsFuncI_calls (v : Value) (xs : List Int) (g : Nat) (lb : Array Value) (p : Int → Bool) (w : World) (eg : ∀ args w, (callFunc g args).run Try.prog w = .ok (.enter g args) w)
    (hv : Ints w v xs) (hg : AnswersI Try.prog g lb xs p w) :
    Calls Try.prog 126 #[v, .func (.func g) #[] lb] w fun e w' => e = .returned (.bool (xs.any p)) ∧ Gr w w' := by
  go_enter Try.func126, Try.ntmps126
  go_wp2_with (go_at_call 162; refine (IndexFuncI_calls _ _ _ _ _ _ eg hv hg).mono ?_; rintro e w' ⟨rfl, g1⟩)
  go_ret
  exact ⟨ret_bool (firstOf_any p xs), g1⟩
end Go.Proofs.Ytkanaoebpajbfaa
