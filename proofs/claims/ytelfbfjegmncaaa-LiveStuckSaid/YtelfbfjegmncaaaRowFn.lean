/- Contracts of the library's IndexFunc, ContainsFunc at '[][]int', where the function that is handed over answers at each of the rows. -/
import Derived.Test.YtelfbfjegmncaaaFind
import Derived.Test.YtelfbfjegmncaaaMark
import Derived.Test.YtelfbfjegmncaaaGen
namespace Go.Tok
open Go.RowKit
theorem Rd.row {w : World} {a : Option Addr} {n cap : Nat} {xs : List (List Int)} (h : Rd rowK w (.slice a n cap) xs) {i : Nat} (hi : i < xs.length) :
    ∃ b o u, a = some ⟨b, o, none⟩ ∧ w.cell? ⟨b, o + i, none⟩ = some u ∧ Ints w u (ix xs i) := by
  obtain ⟨b, o, vs, ha, ⟨u, rfl, hu⟩, hc⟩ := h.at_ hi
  refine ⟨b, o, u, ha, ?_, hu⟩
  have := hc 0 u rfl
  rwa [show o + i * rowK.size + 0 = o + i by show o + i * 1 + 0 = _; omega] at this
end Go.Tok
namespace Go.Proofs.Ytelfbfjegmncaaa
open Go.RowKit Go.Tok
set_option linter.unusedVariables false

/-- the function g, bound to lb, answers p at each row of xs, in w0 and in every later world -/
def AnswersRow (P : Program) (g : Nat) (lb : Array Value) (xs : List (List Int)) (p : List Int → Bool) (w0 : World) : Prop :=
  ∀ (W : World) (u : Value) (x : List Int), x ∈ xs → Gr w0 W → Ints W u x → Calls P g (#[u] ++ lb) W fun e w' => e = .returned (.bool (p x)) ∧ Gr W w'

set_option maxHeartbeats 1000000 in
theorem IndexFuncRow_calls (v : Value) (xs : List (List Int)) (g : Nat) (lb : Array Value) (p : List Int → Bool) (w : World) (eg : ∀ args w, (callFunc g args).run Try.prog w = .ok (.enter g args) w)
    (hv : Rd rowK w v xs) (hg : AnswersRow Try.prog g lb xs p w) :
    Calls Try.prog 78 #[v, .func (.func g) #[] lb] w fun e w' => e = .returned (.int .i64 (firstI p xs)) ∧ Gr w w' := by
  obtain ⟨a, cap, rfl, hlc, hcap⟩ := hv.len
  go_enter Try.func78, Try.ntmps78
  go_wp2
  go_loopw [8] (fun i wr => ∃ k : Nat, k ≤ xs.length ∧ i = .int .i64 k ∧ NoneI p xs k ∧ Gr w wr) (fun i _ => xs.length - (intOf i).toNat)
  case atStart => exact ⟨0, Nat.zero_le _, rfl, NoneI.zero _ _, Gr.refl _⟩
  case round =>
    rename_i wr _
    obtain ⟨k, hk, rfl, hall, hgr⟩ := hrel
    by_cases hlt : k < xs.length
    · obtain ⟨b, o, u, rfl, c0, hI⟩ := (hv.gr hgr).row hlt
      have hcall := hg wr u (ix xs k) (ix_mem hlt) hgr hI
      obtain ⟨ua, uc, rfl, _, _⟩ := hI.len
      cases hb : p (ix xs k)
      · rw [hb] at hcall
        go_wp2_with (go_at_fn g; refine hcall.mono ?_; rintro e w' ⟨rfl, g2⟩)
        go_roundw
        case rel => exact ⟨k + 1, by omega, by go_num, hall.succ hb, by (repeat (first | exact Gr.refl _ | assumption | apply Gr.alloc | apply Gr.drew | apply Gr.drewN | refine Gr.trans ?_ (by assumption)))⟩
        case measure => simp [intOf]; omega
      · rw [hb] at hcall
        go_wp2_with (go_at_fn g; refine hcall.mono ?_; rintro e w' ⟨rfl, g2⟩)
        go_ret
        exact ⟨ret_i64 (firstI_hit hall hlt hb).symm, by (repeat (first | exact Gr.refl _ | assumption | apply Gr.alloc | apply Gr.drew | apply Gr.drewN | refine Gr.trans ?_ (by assumption)))⟩
    · obtain rfl : k = xs.length := by omega
      go_wp2
      go_ret
      exact ⟨ret_i64 (firstI_miss hall).symm, hgr⟩
set_option maxHeartbeats 400000 in
theorem ContainsFuncRow_calls (v : Value) (xs : List (List Int)) (g : Nat) (lb : Array Value) (p : List Int → Bool) (w : World) (eg : ∀ args w, (callFunc g args).run Try.prog w = .ok (.enter g args) w)
    (hv : Rd rowK w v xs) (hg : AnswersRow Try.prog g lb xs p w) :
    Calls Try.prog 30 #[v, .func (.func g) #[] lb] w fun e w' => e = .returned (.bool (xs.any p)) ∧ Gr w w' := by
  go_enter Try.func30, Try.ntmps30
  go_wp2_with (go_at_call 78; refine (IndexFuncRow_calls _ _ _ _ _ _ eg hv hg).mono ?_; rintro e w' ⟨rfl, g1⟩)
  go_ret
  exact ⟨ret_bool (firstI_any p xs), g1⟩
end Go.Proofs.Ytelfbfjegmncaaa
