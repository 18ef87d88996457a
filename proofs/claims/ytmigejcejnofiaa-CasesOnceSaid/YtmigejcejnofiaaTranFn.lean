/- Contracts of the library's IndexFunc, ContainsFunc at '[]api.Tran', where the function that is handed over answers at each of the transitions. -/
import Derived.Test.YtmigejcejnofiaaFind
import Derived.Test.YtmigejcejnofiaaMark
namespace Go.Proofs.Ytmigejcejnofiaa
open Go.RowKit Go.Tok
set_option linter.unusedVariables false

/-- the function g, bound to lb, answers p at each transition of ts, in w0 and in every later world -/
def AnswersTr (P : Program) (g : Nat) (lb : Array Value) (ts : List TranD) (p : TranD → Bool) (w0 : World) : Prop :=
  ∀ (W : World) (vp vq : Value) (t : TranD), t ∈ ts → Gr w0 W → I64 t.label → Ints W vp t.pre → Ints W vq t.post → Calls P g (#[.agg #[.int .i64 t.label, vp, vq]] ++ lb) W fun e w' => e = .returned (.bool (p t)) ∧ Gr W w'

set_option maxHeartbeats 400000 in
theorem IndexFuncTr_calls (v : Value) (ts : List TranD) (g : Nat) (lb : Array Value) (p : TranD → Bool) (w : World) (eg : ∀ args w, (callFunc g args).run Try.prog w = .ok (.enter g args) w)
    (hv : TransR w v ts) (hg : AnswersTr Try.prog g lb ts p w) :
    Calls Try.prog 49 #[v, .func (.func g) #[] lb] w fun e w' => e = .returned (.int .i64 (firstI p ts)) ∧ Gr w w' := by
  obtain ⟨a, cap, rfl, hlc, hcap⟩ := hv.len
  go_enter Try.func49, Try.ntmps49
  go_wp2
  go_loopw [8] (fun i wr => ∃ k : Nat, k ≤ ts.length ∧ i = .int .i64 k ∧ NoneI p ts k ∧ Gr w wr) (fun i _ => ts.length - (intOf i).toNat)
  case atStart => exact ⟨0, Nat.zero_le _, rfl, NoneI.zero _ _, Gr.refl _⟩
  case round =>
    rename_i wr _
    obtain ⟨k, hk, rfl, hall, hgr⟩ := hrel
    by_cases hlt : k < ts.length
    · obtain ⟨b, o, vp, vq, rfl, c0, c1, c2, hlab, hp, hq⟩ := (hv.gr hgr).at_ix hlt
      have hcall := hg wr vp vq (ix ts k) (ix_mem hlt) hgr hlab hp hq
      cases hb : p (ix ts k)
      · rw [hb] at hcall
        go_wp2_with (go_at_fn g; refine hcall.mono ?_; rintro e w' ⟨rfl, g2⟩)
        go_roundw
        case rel => exact ⟨k + 1, by omega, by go_num, hall.succ hb, by (repeat (first | exact Gr.refl _ | assumption | apply Gr.alloc | apply Gr.drew | apply Gr.drewN | refine Gr.trans ?_ (by assumption)))⟩
        case measure => simp [intOf]; omega
      · rw [hb] at hcall
        go_wp2_with (go_at_fn g; refine hcall.mono ?_; rintro e w' ⟨rfl, g2⟩)
        go_ret
        exact ⟨ret_i64 (firstI_hit hall hlt hb).symm, by (repeat (first | exact Gr.refl _ | assumption | apply Gr.alloc | apply Gr.drew | apply Gr.drewN | refine Gr.trans ?_ (by assumption)))⟩
    · obtain rfl : k = ts.length := by omega
      go_wp2
      go_ret
      exact ⟨ret_i64 (firstI_miss hall).symm, hgr⟩
set_option maxHeartbeats 400000 in
theorem ContainsFuncTr_calls (v : Value) (ts : List TranD) (g : Nat) (lb : Array Value) (p : TranD → Bool) (w : World) (eg : ∀ args w, (callFunc g args).run Try.prog w = .ok (.enter g args) w)
    (hv : TransR w v ts) (hg : AnswersTr Try.prog g lb ts p w) :
    Calls Try.prog 56 #[v, .func (.func g) #[] lb] w fun e w' => e = .returned (.bool (ts.any p)) ∧ Gr w w' := by
  go_enter Try.func56, Try.ntmps56
  go_wp2_with (go_at_call 49; refine (IndexFuncTr_calls _ _ _ _ _ _ eg hv hg).mono ?_; rintro e w' ⟨rfl, g1⟩)
  go_ret
  exact ⟨ret_bool (firstI_any p ts), g1⟩
end Go.Proofs.Ytmigejcejnofiaa
