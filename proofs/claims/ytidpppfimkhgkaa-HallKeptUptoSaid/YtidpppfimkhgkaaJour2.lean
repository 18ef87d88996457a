/- Contracts of journal.Write: the seven bytes of an operation whose numbers fit; nil and an error at any other. -/
import Derived.Test.YtidpppfimkhgkaaJour
namespace Go.Proofs.Ytidpppfimkhgkaa
open Go.RowKit Go.Tok
set_option linter.unusedVariables false

theorem byteTy : KTy Try.prog 158 5 byteK 1 (.int .u8 0) := ⟨Try.underlying158, by kernel_rfl, rfl, by decide⟩

set_option maxHeartbeats 2000000 in
theorem Write_bad (o : OpD) (w : World) (hI : opI o) (h : opOkB o = false) :
    Calls Try.prog 127 #[.agg #[.int .i64 o.kind, .int .i64 o.user, .int .i64 o.tran, .int .i64 o.item, .int .i64 o.to]] w fun e w' => e = .returned (.tuple #[.slice none 0 0, .int .i64 2]) ∧ Gr w w' := by
  obtain ⟨i1, i2, i3, i4, i5⟩ := hI
  rcases op_cases o with ⟨h', _⟩ | ⟨_, hh⟩
  · rw [h] at h'; cases h'
  · clear h
    rcases hh with h1 | ⟨h1, h2⟩ | ⟨h1, h2, h3⟩ | ⟨h1, h2, h3, h4⟩ | ⟨h1, h2, h3, h4, h5⟩ | ⟨h1, h2, h3, h4, h5, h6⟩
    all_goals
      go_enter Try.func127, Try.ntmps127
      go_wp2_with (go_at_call 159; refine (small_calls _ _ (by assumption)).mono ?_; rintro e w' ⟨rfl, rfl⟩)
      go_ret2
      exact ⟨rfl, by (repeat (first | exact Gr.refl _ | assumption | apply Gr.alloc | apply Gr.drew | apply Gr.drewN | refine Gr.trans ?_ (by assumption)))⟩

set_option maxHeartbeats 2000000 in
theorem Write_ok (o : OpD) (w : World) (hI : opI o) (h : opOkB o = true) :
    Calls Try.prog 127 #[.agg #[.int .i64 o.kind, .int .i64 o.user, .int .i64 o.tran, .int .i64 o.item, .int .i64 o.to]] w fun e w' => ∃ v, e = .returned (.tuple #[v, .int .i64 0]) ∧ OwnR byteK 5 w.heap.size All w' v (seven o) ∧ Gr w w' := by
  obtain ⟨i1, i2, i3, i4, i5⟩ := hI
  rcases op_cases o with ⟨_, h1, h2, h3, h4, h5, h6⟩ | ⟨h', hh⟩
  · go_enter Try.func127, Try.ntmps127
    go_wp2_with (go_at_call 159; refine (small_calls _ _ (by assumption)).mono ?_; rintro e w' ⟨rfl, rfl⟩)
    have o6 : OwnR byteK 5 w.heap.size All ((w.alloc (.cells #[.int .i64 o.kind, .int .i64 o.user, .int .i64 o.tran, .int .i64 o.item, .int .i64 o.to] 59)).alloc (.cells #[.int .u8 (o.kind % 256), .int .u8 (o.user % 256), .int .u8 (o.tran % 256), .int .u8 (o.to % 256), .int .u8 (o.item / 256), .int .u8 (o.item % 256)] 5)) (.slice (some ⟨w.heap.size + 1, 0, none⟩) 6 6) (six o) :=
      own_bytes (by simp) (by rw [six_len]) (by rw [six_len]) (six_cells h) (six_bytes h).mem (by rw [six_len]; omega) (by simp)
    have l6 := sumTo8_lt (six_bytes h) 6 (by omega)
    have hs : sumN (six o) < 256 := by rw [sumN_def, six_len]; exact l6
    refine (sum_calls _ (six o) _ o6.rd (by rw [six_len]; omega)).mono ?_
    rintro _ _ ⟨rfl, rfl⟩
    go_wp2_with (at_builtin; refine app_one byteTy _ _ w.heap.size All _ (six o) ⟨w.heap.size + 2, 0, none⟩ (sumN (six o)) [.int .u8 ((sumN (six o) : Nat) : Int)] rfl rfl (by rfl) (by rfl) (o6.alloc _) (one_cell (lit_cell (by simp))) (on_byte hs) (by rw [six_len]; omega) (by rw [six_len]; unfold maxLen; omega) (by simp; omega) ?_; intro v' w' ho' hg' _ _)
    go_ret2
    refine ⟨_, rfl, ?_, hg' w (Nat.le_refl _) (by (repeat (first | exact Gr.refl _ | assumption | apply Gr.alloc | apply Gr.drew | apply Gr.drewN | refine Gr.trans ?_ (by assumption))))⟩
    rw [seven_def]; exact ho'
  · rw [h] at h'; cases h'
end Go.Proofs.Ytidpppfimkhgkaa
