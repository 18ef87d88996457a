/- Contracts of the library's IndexFunc, ContainsFunc at '[]api.HallOp', where the function that is handed over answers at each of the operations. -/
import Derived.Test.YtidpppfimkhgkaaPA
import Derived.Test.YtidpppfimkhgkaaGM
import Derived.Test.YtidpppfimkhgkaaHall1
namespace Go.Proofs.Ytidpppfimkhgkaa
open Go.RowKit Go.Tok
set_option linter.unusedVariables false

/-- the function g, bound to lb, answers p at each transition of ts, in w0 and in every later world -/
def AnswersHop (P : Program) (g : Nat) (lb : Array Value) (ts : List HopD) (p : HopD → Bool) (w0 : World) : Prop :=
  ∀ (W : World) (t : HopD), t ∈ ts → Gr w0 W → hopI t → Calls P g (#[.agg #[.int .i64 t.kind, .int .i64 t.keep, .int .i64 t.op.kind, .int .i64 t.op.user, .int .i64 t.op.tran, .int .i64 t.op.item, .int .i64 t.op.to]] ++ lb) W fun e w' => e = .returned (.bool (p t)) ∧ Gr W w'

set_option maxHeartbeats 2000000 in
theorem IndexFuncHop_calls (v : Value) (ts : List HopD) (g : Nat) (lb : Array Value) (p : HopD → Bool) (w : World) (eg : ∀ args w, (callFunc g args).run Try.prog w = .ok (.enter g args) w)
    (hv : Rd hopK w v ts) (hg : AnswersHop Try.prog g lb ts p w) :
    Calls Try.prog 92 #[v, .func (.func g) #[] lb] w fun e w' => e = .returned (.int .i64 (firstI p ts)) ∧ Gr w w' := by
  obtain ⟨a, cap, rfl, hlc, hcap⟩ := hv.len
  go_enter Try.func92, Try.ntmps92
  go_wp2
  go_loopw [8] (fun i wr => ∃ k : Nat, k ≤ ts.length ∧ i = .int .i64 k ∧ NoneI p ts k ∧ Gr w wr) (fun i _ => ts.length - (intOf i).toNat)
  case atStart => exact ⟨0, Nat.zero_le _, rfl, NoneI.zero _ _, Gr.refl _⟩
  case round =>
    rename_i wr _
    obtain ⟨k, hk, rfl, hall, hgr⟩ := hrel
    by_cases hlt : k < ts.length
    · obtain ⟨b, o, rfl, c0, c1, c2, c3, c4, c5, c6, hI⟩ := (hv.gr hgr).hop hlt
      have hcall := hg wr (ix ts k) (ix_mem hlt) hgr hI
      cases hb : p (ix ts k)
      · rw [hb] at hcall
        go_wp2_with (go_at_fn g; refine hcall.mono ?_; rintro e w' ⟨rfl, g2⟩)
        go_roundw
        case rel => exact ⟨k + 1, by omega, by go_num, hall.succ hb, by (repeat (first | exact Gr.refl _ | assumption | apply Gr.alloc | apply Gr.drew | apply Gr.drewN | refine Gr.trans ?_ (by assumption)))⟩
        case measure => simp [intOf]; omega
      · rw [hb] at hcall
        go_wp2_with (go_at_fn g; refine hcall.mono ?_; rintro e w' ⟨rfl, g2⟩)
        go_ret
        exact ⟨ret_i64 (firstI_hit hall hlt hb).symm, by (repeat (first | exact Gr.refl _ | assumption | apply Gr.alloc | apply Gr.drew | apply Gr.drewN | refine Gr.trans ?_ (by assumption)))⟩
    · obtain rfl : k = ts.length := by omega
      go_wp2
      go_ret
      exact ⟨ret_i64 (firstI_miss hall).symm, hgr⟩
set_option maxHeartbeats 2000000 in
theorem ContainsFuncHop_calls (v : Value) (ts : List HopD) (g : Nat) (lb : Array Value) (p : HopD → Bool) (w : World) (eg : ∀ args w, (callFunc g args).run Try.prog w = .ok (.enter g args) w)
    (hv : Rd hopK w v ts) (hg : AnswersHop Try.prog g lb ts p w) :
    Calls Try.prog 38 #[v, .func (.func g) #[] lb] w fun e w' => e = .returned (.bool (ts.any p)) ∧ Gr w w' := by
  go_enter Try.func38, Try.ntmps38
  go_wp2_with (go_at_call 92; refine (IndexFuncHop_calls _ _ _ _ _ _ eg hv hg).mono ?_; rintro e w' ⟨rfl, g1⟩)
  go_ret
  exact ⟨ret_bool (firstI_any p ts), g1⟩
theorem HallKept11_answers (ts : List HopD) (w : World) : AnswersHop Try.prog 39 #[] ts (fun t => !decide (t.kind = 1)) w := by
  intro W t ht g hI
  have GA : Gr W (W.alloc (.cells #[.int .i64 t.kind, .int .i64 t.keep, .int .i64 t.op.kind, .int .i64 t.op.user, .int .i64 t.op.tran, .int .i64 t.op.item, .int .i64 t.op.to] 61)) := (Gr.refl _).alloc _
  have O0 : (W.alloc (.cells #[.int .i64 t.kind, .int .i64 t.keep, .int .i64 t.op.kind, .int .i64 t.op.user, .int .i64 t.op.tran, .int .i64 t.op.item, .int .i64 t.op.to] 61)).cell? ⟨W.heap.size, 0, none⟩ = some (.int .i64 t.kind) := box_cell (Gr.refl _) (i := 0) rfl
  go_enter Try.func39, Try.ntmps39
  go_wp2_with fail
  go_ret
  exact ⟨ret_bool (by rw [Bool.eq_iff_iff]; simp), by (repeat (first | exact Gr.refl _ | assumption | apply Gr.alloc | apply Gr.drew | apply Gr.drewN | refine Gr.trans ?_ (by assumption)))⟩
theorem HallKept1_calls (v : Value) (ts : List HopD) (w : World) (hv : Rd hopK w v ts) :
    Calls Try.prog 37 #[v] w fun e w' => e = .returned (.bool (ts.any fun t => !decide (t.kind = 1))) ∧ Gr w w' := by
  have eg : ∀ args w, (callFunc 39 args).run Try.prog w = .ok (.enter 39 args) w := (Go.Proofs.enters_of Try.func39 (by kernel_rfl) rfl)
  go_enter Try.func37, Try.ntmps37
  go_wp2_with fail
  refine (ContainsFuncHop_calls _ ts _ _ (fun t => !decide (t.kind = 1)) _ eg hv (HallKept11_answers _ _)).mono ?_
  rintro _ w1 ⟨rfl, g1⟩
  go_wp2_with fail
  go_ret
  exact ⟨rfl, g1⟩
end Go.Proofs.Ytidpppfimkhgkaa
