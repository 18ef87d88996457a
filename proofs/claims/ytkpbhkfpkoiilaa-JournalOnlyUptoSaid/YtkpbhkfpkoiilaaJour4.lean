/- Contracts of written (all operations, one behind the other) and of the library's Equal at '[]api.DeskOp'. -/
import Derived.Test.YtkpbhkfpkoiilaaJour3
namespace Go.Proofs.Ytkpbhkfpkoiilaa
open Go.RowKit Go.Tok
set_option linter.unusedVariables false

/-- what 'written' hands back -/
def RetWr (l : List OpD) (w : World) (e : Ending) (w' : World) : Prop :=
  (allOk l = true ∧ ∃ v, e = .returned (.tuple #[v, .bool true]) ∧ OwnR byteK 5 w.heap.size All w' v (wrL l) ∧ Gr w w') ∨
  (allOk l = false ∧ e = .returned (.tuple #[.slice none 0 0, .bool false]) ∧ Gr w w')
theorem RetWr.good {l : List OpD} {w w' : World} {v : Value} (h : allOk l = true) (ho : OwnR byteK 5 w.heap.size All w' v (wrL l)) (g : Gr w w') : RetWr l w (.returned (.tuple #[v, .bool true])) w' := .inl ⟨h, v, rfl, ho, g⟩
theorem RetWr.bad {l : List OpD} {w w' : World} (h : allOk l = false) (g : Gr w w') : RetWr l w (.returned (.tuple #[.slice none 0 0, .bool false])) w' := .inr ⟨h, rfl, g⟩

set_option maxHeartbeats 4000000 in
theorem written_calls (v : Value) (l : List OpD) (w : World) (hv : Rd opK w v l) (hl : l.length * 7 ≤ 140737488355328) :
    Calls Try.prog 19 #[v] w (RetWr l w) := by
  obtain ⟨a, cap, rfl, hlc, hcap⟩ := hv.len
  go_enter Try.func19, Try.ntmps19
  go_wp2_with fail
  go_loopw [4, 11] (fun out i wr => ∃ k : Nat, k ≤ l.length ∧ i = .int .i64 k ∧ OkTo l k ∧ OwnR byteK 5 w.heap.size All wr out (wrTo l k) ∧ Gr w wr) (fun _ i _ => l.length - (intOf i).toNat)
  case atStart => exact ⟨0, Nat.zero_le _, rfl, OkTo.zero l, by rw [wrTo_zero]; exact OwnR.nil _ _ _ _, Gr.refl _⟩
  case round =>
    rename_i wr
    obtain ⟨k, hk, rfl, hok, ho, hgr⟩ := hrel
    by_cases hlt : k < l.length
    · obtain ⟨b, o, rfl, c0, c1, c2, c3, c4, hI⟩ := (hv.gr hgr).op hlt
      cases hq : opOkB (ix l k)
      · have HC := Lib.hid (allOk_no hlt hq)
        go_wp2_with fail
        refine (Write_bad (ix l k) _ hI hq).mono ?_
        rintro _ w1 ⟨rfl, g1⟩
        go_wp2_with fail
        go_ret2
        exact RetWr.bad HC.out (by (repeat (first | exact Gr.refl _ | assumption | apply Gr.alloc | apply Gr.drew | apply Gr.drewN | refine Gr.trans ?_ (by assumption))))
      · have HQ := Lib.hid hq
        have hwl := wrTo_len (l := l) (k := k) hk
        have hs := seven_bytes hq
        have HS := Lib.hid hs.mem
        clear hs
        go_wp2_with fail
        refine (Write_ok (ix l k) _ hI hq).mono ?_
        rintro _ w1 ⟨v1, rfl, o1, g1⟩
        obtain ⟨a1, cp1, rfl, q1, q2⟩ := o1.len
        rw [seven_len] at o1 q1 ⊢
        have hn1 : ((wrTo l k).length + (seven (ix l k)).length) * 1 ≤ 140737488355328 := by rw [hwl, seven_len]; omega
        have hn2 : (wrTo l k).length + (seven (ix l k)).length ≤ maxLen := by rw [hwl, seven_len]; unfold maxLen; omega
        clear hwl
        go_wp2_with (at_builtin; refine app_flat byteTy _ _ w.heap.size All _ _ (wrTo l k) (seven (ix l k)) rfl rfl (by rfl) (by rfl) (ho.gr (by (repeat (first | exact Gr.refl _ | assumption | apply Gr.alloc | apply Gr.drew | apply Gr.drewN | refine Gr.trans ?_ (by assumption))))) o1.rd HS.out hn1 hn2 (Gr.le (by (repeat (first | exact Gr.refl _ | assumption | apply Gr.alloc | apply Gr.drew | apply Gr.drewN | refine Gr.trans ?_ (by assumption))))) ?_; intro v' w' ho' hg' _ _)
        go_roundw
        case rel => exact ⟨k + 1, by omega, by go_num, hok.succ HQ.out, by rw [wrTo_succ hlt]; exact ho', hg' w (Nat.le_refl _) (by (repeat (first | exact Gr.refl _ | assumption | apply Gr.alloc | apply Gr.drew | apply Gr.drewN | refine Gr.trans ?_ (by assumption))))⟩
        case measure => simp [intOf]; omega
    · obtain rfl : k = l.length := by omega
      rw [← wrL_def] at ho
      go_wp2_with fail
      go_ret2
      exact RetWr.good hok.all ho hgr

set_option maxHeartbeats 4000000 in
theorem EqualOps_calls (v u : Value) (xs : List OpD) (w : World) (hv : Rd opK w v xs) (hu : Rd opK w u xs) :
    Calls Try.prog 20 #[v, u] w fun e w' => e = .returned (.bool true) ∧ Gr w w' := by
  obtain ⟨a, cap, rfl, hlc, hcap⟩ := hv.len
  obtain ⟨a', cap', rfl, hlc', hcap'⟩ := hu.len
  go_enter Try.func20, Try.ntmps20
  go_wp2_with fail
  go_loopw [13] (fun i wr => ∃ k : Nat, k ≤ xs.length ∧ i = .int .i64 k ∧ Gr w wr) (fun i _ => xs.length - (intOf i).toNat)
  case atStart => exact ⟨0, Nat.zero_le _, rfl, Gr.refl _⟩
  case round =>
    rename_i wr _
    obtain ⟨k, hk, rfl, hgr⟩ := hrel
    by_cases hlt : k < xs.length
    · obtain ⟨b, o, rfl, c0, c1, c2, c3, c4, hI⟩ := (hv.gr hgr).op hlt
      obtain ⟨b', o', rfl, d0, d1, d2, d3, d4, _⟩ := (hu.gr hgr).op hlt
      have i1 : (0 : Int) ≤ (k : Int) := by omega
      have i2 : (k : Int) < (xs.length : Int) := by omega
      go_wp2_with fail
      go_quiet (fail)
      go_wp2_with fail
      go_roundw
      case rel => exact ⟨k + 1, by omega, by go_num, hgr.drewN _⟩
      case measure => simp [intOf]; omega
    · go_wp2_with fail
      go_ret
      exact ⟨rfl, hgr⟩
end Go.Proofs.Ytkpbhkfpkoiilaa
