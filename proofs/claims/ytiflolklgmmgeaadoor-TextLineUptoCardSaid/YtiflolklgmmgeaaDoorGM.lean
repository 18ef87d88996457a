/- Contracts, for every input that reads as data, of the marking functions at, Covers, Same, Right and of the library's IndexFunc, ContainsFunc at '[]int': what each call answers, the world left as it was. Conditions: none beyond how the arguments read. -/
import Derived.Test.YtiflolklgmmgeaaDoorProg
import Derived.Test.YtiflolklgmmgeaaDoorPA
namespace Go.Proofs.YtiflolklgmmgeaaDoor
open Go.RowKit Go.Tok
set_option linter.unusedVariables false

set_option maxHeartbeats 400000 in
theorem IndexFunc_calls (v : Value) (xs : List Int) (g : Nat) (lb : Array Value) (p : Int → Bool) (w : World) (eg : ∀ args w, (callFunc g args).run Tryd.prog w = .ok (.enter g args) w)
    (hv : Ints w v xs) (hg : Answers Tryd.prog g lb p) :
    Calls Tryd.prog 44 #[v, .func (.func g) #[] lb] w fun e w' => e = .returned (.int .i64 (firstOf p xs)) ∧ w = w' := by
  obtain ⟨a, cap, rfl, hlc, hcap⟩ := hv.len
  go_enter Tryd.func44, Tryd.ntmps44
  go_wp2
  go_loop [8] (fun i => ∃ k : Nat, k ≤ xs.length ∧ i = .int .i64 k ∧ NoneUpto p xs k) (fun i => xs.length - (intOf i).toNat)
  case atStart => exact ⟨0, Nat.zero_le _, rfl, NoneUpto.zero _ _⟩
  case round =>
    obtain ⟨k, hk, rfl, hall⟩ := hrel
    by_cases hlt : k < xs.length
    · obtain ⟨b, o, rfl, hcell⟩ := hv.cell hlt
      have hr := hv.range k
      cases hp : p (nth xs k)
      · have hcall := hg w (nth xs k) hr
        rw [hp] at hcall
        go_wp2_with (go_at_fn g; refine hcall.mono ?_; rintro e w' ⟨rfl, rfl⟩)
        go_round
        case rel => exact ⟨k + 1, by omega, by go_num, hall.succ hp⟩
        case measure => simp [intOf]; omega
      · have hcall := hg w (nth xs k) hr
        rw [hp] at hcall
        go_wp2_with (go_at_fn g; refine hcall.mono ?_; rintro e w' ⟨rfl, rfl⟩)
        go_ret
        exact ⟨ret_i64 (firstOf_hit hall hlt hp).symm, rfl⟩
    · obtain rfl : k = xs.length := by omega
      go_wp2
      go_ret
      exact ⟨ret_i64 (firstOf_miss hall).symm, rfl⟩

set_option maxHeartbeats 400000 in
theorem ContainsFunc_calls (v : Value) (xs : List Int) (g : Nat) (lb : Array Value) (p : Int → Bool) (w : World) (eg : ∀ args w, (callFunc g args).run Tryd.prog w = .ok (.enter g args) w)
    (hv : Ints w v xs) (hg : Answers Tryd.prog g lb p) :
    Calls Tryd.prog 27 #[v, .func (.func g) #[] lb] w fun e w' => e = .returned (.bool (xs.any p)) ∧ w = w' := by
  go_enter Tryd.func27, Tryd.ntmps27
  go_wp2_with (go_at_call 44; refine (IndexFunc_calls _ _ _ _ _ _ eg hv hg).mono ?_; rintro e w' ⟨rfl, rfl⟩)
  go_ret
  exact ⟨ret_bool (firstOf_any p xs), rfl⟩

theorem intTy : IntTy Tryd.prog 39 3 := ⟨Tryd.underlying39, by kernel_rfl⟩


end Go.Proofs.YtiflolklgmmgeaaDoor

/- Contracts of the marking functions zip, Plus and Minus: the call answers the plain function's list and error, in new memory. Condition: lists of at most 17592186044416 elements. -/
namespace Go.Proofs.YtiflolklgmmgeaaDoor
open Go.RowKit Go.Tok
set_option linter.unusedVariables false

theorem ret_ie {a b c d : Int} {r : Int × Int} (h : r = (c, d)) (ha : a = c) (hb : b = d) : Ending.returned (.tuple #[.int .i64 a, .int .i64 b]) = .returned (.tuple #[.int .i64 r.1, .int .i64 r.2]) := by rw [h, ha, hb]

theorem plusf_I64 (x y : Int) (h1 : 0 ≤ x) (h2 : x ≤ 1000000) (h3 : 0 ≤ y) (h4 : y ≤ 1000000) : I64 (plusf x y).1 := by
  unfold plusf I64; split <;> simp only [] <;> omega
theorem minusf_I64 (x y : Int) (h1 : 0 ≤ x) (h2 : x ≤ 1000000) (h3 : 0 ≤ y) (h4 : y ≤ 1000000) : I64 (minusf x y).1 := by
  unfold minusf I64; split <;> simp only [] <;> omega

end Go.Proofs.YtiflolklgmmgeaaDoor

/- Contracts of the library's IndexFunc, ContainsFunc at '[][]int', where the function that is handed over answers at each of the rows. -/
namespace Go.Tok
open Go.RowKit
theorem Rd.row {w : World} {a : Option Addr} {n cap : Nat} {xs : List (List Int)} (h : Rd rowK w (.slice a n cap) xs) {i : Nat} (hi : i < xs.length) :
    ∃ b o u, a = some ⟨b, o, none⟩ ∧ w.cell? ⟨b, o + i, none⟩ = some u ∧ Ints w u (ix xs i) := by
  obtain ⟨b, o, vs, ha, ⟨u, rfl, hu⟩, hc⟩ := h.at_ hi
  refine ⟨b, o, u, ha, ?_, hu⟩
  have := hc 0 u rfl
  rwa [show o + i * rowK.size + 0 = o + i by show o + i * 1 + 0 = _; omega] at this
end Go.Tok
namespace Go.Proofs.YtiflolklgmmgeaaDoor
open Go.RowKit Go.Tok
set_option linter.unusedVariables false

/-- the function g, bound to lb, answers p at each row of xs, in w0 and in every later world -/
def AnswersRow (P : Program) (g : Nat) (lb : Array Value) (xs : List (List Int)) (p : List Int → Bool) (w0 : World) : Prop :=
  ∀ (W : World) (u : Value) (x : List Int), x ∈ xs → Gr w0 W → Ints W u x → Calls P g (#[u] ++ lb) W fun e w' => e = .returned (.bool (p x)) ∧ Gr W w'

end Go.Proofs.YtiflolklgmmgeaaDoor
