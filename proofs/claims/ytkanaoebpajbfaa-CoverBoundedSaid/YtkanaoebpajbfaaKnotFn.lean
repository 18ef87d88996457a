/- Contracts of the library's IndexFunc, ContainsFunc at '[]api.Knot', where the function that is handed over answers at each of the knots; the contract of tokenhallkeep.covers. -/
import Derived.Test.YtkanaoebpajbfaaPA
import Derived.Test.YtkanaoebpajbfaaGM
import Derived.Test.YtkanaoebpajbfaaKnot
import Derived.BigQuiet
import Derived.Deep.QuietTactic
namespace Go.Tok
open Go.RowKit
def covKB (b a : List Int) : Bool := decide (a.length = b.length) && ((List.range a.length).all fun p => decide (nth b p = -1) || decide (nth a p ≤ nth b p))
def CovTo (b a : List Int) (k : Nat) : Prop := ∀ p, p < k → nth b p = -1 ∨ nth a p ≤ nth b p
theorem covers_len {b a : List Int} (h : ¬ a.length = b.length) : covKB b a = false := by simp [covKB, h]
theorem covers_no {b a : List Int} {p : Nat} (hp : p < a.length) (h1 : nth b p ≠ -1) (h2 : nth b p < nth a p) : covKB b a = false := by
  unfold covKB
  rw [Bool.and_eq_false_iff]
  right
  rw [List.all_eq_false]
  exact ⟨p, by simpa using hp, by simp [h1]; omega⟩
theorem covers_all {b a : List Int} (hl : a.length = b.length) (h : CovTo b a a.length) : covKB b a = true := by
  unfold covKB
  rw [Bool.and_eq_true]
  refine ⟨by simpa using hl, List.all_eq_true.2 fun p hp => ?_⟩
  rcases h p (by simpa using hp) with e | e
  · simp [e]
  · simp [e]
theorem covers_iff {b a : List Int} : covKB b a = true ↔ coversK b a := by
  constructor
  · intro h
    unfold covKB at h
    rw [Bool.and_eq_true, List.all_eq_true] at h
    refine ⟨by simpa using h.1, fun p hp => ?_⟩
    have := h.2 p (by simpa using hp)
    simpa using this
  · rintro ⟨hl, h⟩
    exact covers_all hl h
end Go.Tok
namespace Go.Proofs.Ytkanaoebpajbfaa
open Go.RowKit Go.Tok
set_option linter.unusedVariables false
/-- the function g, bound to lb, answers p at each knot of ks, in w0 and in every later world -/
def AnswersKn (P : Program) (g : Nat) (lb : Array Value) (ks : List KnotD) (p : KnotD → Bool) (w0 : World) : Prop :=
  ∀ (W : World) (u : Value) (x : KnotD), x ∈ ks → Gr w0 W → Ints W u x.mark → Calls P g (#[.agg #[.int .i64 x.up, .int .i64 x.tran, u]] ++ lb) W fun e w' => e = .returned (.bool (p x)) ∧ Gr W w'
set_option maxHeartbeats 2000000 in
theorem IndexFuncKn_calls (v : Value) (ks : List KnotD) (g : Nat) (lb : Array Value) (p : KnotD → Bool) (w : World) (eg : ∀ args w, (callFunc g args).run Try.prog w = .ok (.enter g args) w)
    (hv : Rd knK w v ks) (hg : AnswersKn Try.prog g lb ks p w) :
    Calls Try.prog 49 #[v, .func (.func g) #[] lb] w fun e w' => e = .returned (.int .i64 (firstI p ks)) ∧ Gr w w' := by
  obtain ⟨a, cap, rfl, hlc, hcap⟩ := hv.len
  go_enter Try.func49, Try.ntmps49
  go_wp2
  go_loopw [8] (fun i wr => ∃ k : Nat, k ≤ ks.length ∧ i = .int .i64 k ∧ NoneI p ks k ∧ Gr w wr) (fun i _ => ks.length - (intOf i).toNat)
  case atStart => exact ⟨0, Nat.zero_le _, rfl, NoneI.zero _ _, Gr.refl _⟩
  case round =>
    rename_i wr _
    obtain ⟨k, hk, rfl, hall, hgr⟩ := hrel
    by_cases hlt : k < ks.length
    · obtain ⟨b, o, u, rfl, c0, c1, c2, hI⟩ := (hv.gr hgr).knot hlt
      have hcall := hg wr u (ix ks k) (ix_mem hlt) hgr hI
      obtain ⟨ua, uc, rfl, _, _⟩ := hI.len
      cases hb : p (ix ks k)
      · rw [hb] at hcall
        go_wp2_with (go_at_fn g; refine hcall.mono ?_; rintro e w' ⟨rfl, g2⟩)
        go_roundw
        case rel => exact ⟨k + 1, by omega, by go_num, hall.succ hb, by (repeat (first | exact Gr.refl _ | assumption | apply Gr.alloc | apply Gr.drew | apply Gr.drewN | refine Gr.trans ?_ (by assumption)))⟩
        case measure => simp [intOf]; omega
      · rw [hb] at hcall
        go_wp2_with (go_at_fn g; refine hcall.mono ?_; rintro e w' ⟨rfl, g2⟩)
        go_ret
        exact ⟨ret_i64 (firstI_hit hall hlt hb).symm, by (repeat (first | exact Gr.refl _ | assumption | apply Gr.alloc | apply Gr.drew | apply Gr.drewN | refine Gr.trans ?_ (by assumption)))⟩
    · obtain rfl : k = ks.length := by omega
      go_wp2
      go_ret
      exact ⟨ret_i64 (firstI_miss hall).symm, hgr⟩
set_option maxHeartbeats 2000000 in
theorem ContainsFuncKn_calls (v : Value) (ks : List KnotD) (g : Nat) (lb : Array Value) (p : KnotD → Bool) (w : World) (eg : ∀ args w, (callFunc g args).run Try.prog w = .ok (.enter g args) w)
    (hv : Rd knK w v ks) (hg : AnswersKn Try.prog g lb ks p w) :
    Calls Try.prog 11 #[v, .func (.func g) #[] lb] w fun e w' => e = .returned (.bool (ks.any p)) ∧ Gr w w' := by
  go_enter Try.func11, Try.ntmps11
  go_wp2_with (go_at_call 49; refine (IndexFuncKn_calls _ _ _ _ _ _ eg hv hg).mono ?_; rintro e w' ⟨rfl, g1⟩)
  go_ret
  exact ⟨ret_bool (firstI_any p ks), g1⟩
end Go.Proofs.Ytkanaoebpajbfaa
