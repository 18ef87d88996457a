/- Contracts of the library's IndexFunc, ContainsFunc at '[]api.CaseOp', where the function that is handed over answers at each of the operations. -/
import Derived.Test.YtelfbfjegmncaaaFind
import Derived.Test.YtelfbfjegmncaaaMark
import Derived.Test.YtelfbfjegmncaaaCases6
namespace Go.Proofs.Ytelfbfjegmncaaa
open Go.RowKit Go.Tok
set_option linter.unusedVariables false

/-- the function g, bound to lb, answers p at each transition of ts, in w0 and in every later world -/
def AnswersCop (P : Program) (g : Nat) (lb : Array Value) (ts : List CopD) (p : CopD → Bool) (w0 : World) : Prop :=
  ∀ (W : World) (t : CopD), t ∈ ts → Gr w0 W → copI t → Calls P g (#[.agg #[.int .i64 t.kind, .int .i64 t.tran]] ++ lb) W fun e w' => e = .returned (.bool (p t)) ∧ Gr W w'

set_option maxHeartbeats 400000 in
theorem IndexFuncCop_calls (v : Value) (ts : List CopD) (g : Nat) (lb : Array Value) (p : CopD → Bool) (w : World) (eg : ∀ args w, (callFunc g args).run Try.prog w = .ok (.enter g args) w)
    (hv : Rd copK w v ts) (hg : AnswersCop Try.prog g lb ts p w) :
    Calls Try.prog 96 #[v, .func (.func g) #[] lb] w fun e w' => e = .returned (.int .i64 (firstI p ts)) ∧ Gr w w' := by
  obtain ⟨a, cap, rfl, hlc, hcap⟩ := hv.len
  go_enter Try.func96, Try.ntmps96
  go_wp2
  go_loopw [8] (fun i wr => ∃ k : Nat, k ≤ ts.length ∧ i = .int .i64 k ∧ NoneI p ts k ∧ Gr w wr) (fun i _ => ts.length - (intOf i).toNat)
  case atStart => exact ⟨0, Nat.zero_le _, rfl, NoneI.zero _ _, Gr.refl _⟩
  case round =>
    rename_i wr _
    obtain ⟨k, hk, rfl, hall, hgr⟩ := hrel
    by_cases hlt : k < ts.length
    · obtain ⟨b, o, rfl, c0, c1, hI⟩ := (hv.gr hgr).cop hlt
      have hcall := hg wr (ix ts k) (ix_mem hlt) hgr hI
      cases hb : p (ix ts k)
      · rw [hb] at hcall
        go_wp2_with (go_at_fn g; refine hcall.mono ?_; rintro e w' ⟨rfl, g2⟩)
        go_roundw
        case rel => exact ⟨k + 1, by omega, by go_num, hall.succ hb, by (repeat (first | exact Gr.refl _ | assumption | apply Gr.alloc | apply Gr.drew | apply Gr.drewN | refine Gr.trans ?_ (by assumption)))⟩
        case measure => simp [intOf]; omega
      · rw [hb] at hcall
        go_wp2_with (go_at_fn g; refine hcall.mono ?_; rintro e w' ⟨rfl, g2⟩)
        go_ret
        exact ⟨ret_i64 (firstI_hit hall hlt hb).symm, by (repeat (first | exact Gr.refl _ | assumption | apply Gr.alloc | apply Gr.drew | apply Gr.drewN | refine Gr.trans ?_ (by assumption)))⟩
    · obtain rfl : k = ts.length := by omega
      go_wp2
      go_ret
      exact ⟨ret_i64 (firstI_miss hall).symm, hgr⟩
set_option maxHeartbeats 400000 in
theorem ContainsFuncCop_calls (v : Value) (ts : List CopD) (g : Nat) (lb : Array Value) (p : CopD → Bool) (w : World) (eg : ∀ args w, (callFunc g args).run Try.prog w = .ok (.enter g args) w)
    (hv : Rd copK w v ts) (hg : AnswersCop Try.prog g lb ts p w) :
    Calls Try.prog 46 #[v, .func (.func g) #[] lb] w fun e w' => e = .returned (.bool (ts.any p)) ∧ Gr w w' := by
  go_enter Try.func46, Try.ntmps46
  go_wp2_with (go_at_call 96; refine (IndexFuncCop_calls _ _ _ _ _ _ eg hv hg).mono ?_; rintro e w' ⟨rfl, g1⟩)
  go_ret
  exact ⟨ret_bool (firstI_any p ts), g1⟩
end Go.Proofs.Ytelfbfjegmncaaa
