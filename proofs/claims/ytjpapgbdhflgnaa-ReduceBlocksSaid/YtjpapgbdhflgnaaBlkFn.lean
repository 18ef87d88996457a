/- Contracts of the library's IndexFunc, ContainsFunc at '[]api.Block', where the function that is handed over answers at each of the blocks, and may grow the world. -/
import Derived.Test.YtjpapgbdhflgnaaPA
import Derived.Test.YtjpapgbdhflgnaaGM
import Derived.Test.YtjpapgbdhflgnaaBlockLaw
namespace Go.Proofs.Ytjpapgbdhflgnaa
open Go.RowKit Go.Tok
set_option linter.unusedVariables false
/-- the function g, bound to lb, answers p at each block of ks, in w0 and in every later world -/
def AnswersB (P : Program) (g : Nat) (lb : Array Value) (n : Nat) (ks : List BlockD) (p : BlockD → Bool) (w0 : World) : Prop :=
  ∀ (W : World) (v : Value) (b : BlockD) (m : Nat), b ∈ ks → n = m + 1 → Gr w0 W → BlockR m W v b → Calls P g (#[v] ++ lb) W fun e w' => e = .returned (.bool (p b)) ∧ Gr W w'
set_option maxHeartbeats 400000 in
theorem IndexFuncB_calls (v : Value) (n : Nat) (ks : List BlockD) (g : Nat) (lb : Array Value) (p : BlockD → Bool) (w : World) (eg : ∀ args w, (callFunc g args).run Try.prog w = .ok (.enter g args) w)
    (hv : Rd (blkK n) w v ks) (hg : AnswersB Try.prog g lb n ks p w) :
    Calls Try.prog 43 #[v, .func (.func g) #[] lb] w fun e w' => e = .returned (.int .i64 (firstI p ks)) ∧ Gr w w' := by
  obtain ⟨a, cap, rfl, hlc, hcap⟩ := hv.len
  go_enter Try.func43, Try.ntmps43
  go_wp2
  go_loopw [8] (fun i wr => ∃ k : Nat, k ≤ ks.length ∧ i = .int .i64 k ∧ NoneI p ks k ∧ Gr w wr) (fun i _ => ks.length - (intOf i).toNat)
  case atStart => exact ⟨0, Nat.zero_le _, rfl, NoneI.zero _ _, Gr.refl _⟩
  case round =>
    rename_i wr _
    obtain ⟨k, hk, rfl, hall, hgr⟩ := hrel
    by_cases hlt : k < ks.length
    · obtain ⟨m, b, o, s, hn, rfl, c0, c1, c2, hI⟩ := kid_at (hv.gr hgr) hlt
      obtain ⟨_, _, sa, sc, he, _⟩ := hI.open_
      have hs : s = .slice sa (ix ks k).kids.length sc := by
        injection he with h1
        have := congrArg (fun x : Array Value => x[2]?) h1
        simpa using this
      subst hs
      have hcall := hg wr _ (ix ks k) m (ix_mem hlt) hn hgr hI
      cases hb : p (ix ks k)
      · rw [hb] at hcall
        go_wp2_with (go_at_fn g; refine hcall.mono ?_; rintro e w' ⟨rfl, g2⟩)
        go_roundw
        case rel => exact ⟨k + 1, by omega, by go_num, hall.succ hb, by (repeat (first | exact Gr.refl _ | assumption | apply Gr.alloc | apply Gr.drew | apply Gr.drewN | refine Gr.trans ?_ (by assumption)))⟩
        case measure => simp [intOf]; omega
      · rw [hb] at hcall
        go_wp2_with (go_at_fn g; refine hcall.mono ?_; rintro e w' ⟨rfl, g2⟩)
        go_ret
        exact ⟨ret_i64 (firstI_hit hall hlt hb).symm, by (repeat (first | exact Gr.refl _ | assumption | apply Gr.alloc | apply Gr.drew | apply Gr.drewN | refine Gr.trans ?_ (by assumption)))⟩
    · obtain rfl : k = ks.length := by omega
      go_wp2
      go_ret
      exact ⟨ret_i64 (firstI_miss hall).symm, hgr⟩
set_option maxHeartbeats 400000 in
theorem ContainsFuncB_calls (v : Value) (n : Nat) (ks : List BlockD) (g : Nat) (lb : Array Value) (p : BlockD → Bool) (w : World) (eg : ∀ args w, (callFunc g args).run Try.prog w = .ok (.enter g args) w)
    (hv : Rd (blkK n) w v ks) (hg : AnswersB Try.prog g lb n ks p w) :
    Calls Try.prog 19 #[v, .func (.func g) #[] lb] w fun e w' => e = .returned (.bool (ks.any p)) ∧ Gr w w' := by
  go_enter Try.func19, Try.ntmps19
  go_wp2_with (go_at_call 43; refine (IndexFuncB_calls _ _ _ _ _ _ _ eg hv hg).mono ?_; rintro e w' ⟨rfl, g1⟩)
  go_ret
  exact ⟨ret_bool (firstI_any p ks), g1⟩
end Go.Proofs.Ytjpapgbdhflgnaa
