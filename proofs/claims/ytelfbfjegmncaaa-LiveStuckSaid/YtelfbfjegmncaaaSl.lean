/- Contracts of the library's slices functions at '[]int': Clone, Equal, Index, Contains. Condition of Clone: at most 17592186044416 elements. -/
import Derived.Test.YtelfbfjegmncaaaMark
import Derived.BigQuiet
import Derived.Deep.QuietTactic
namespace Go.Proofs.Ytelfbfjegmncaaa
open Go.RowKit Go.Tok
set_option linter.unusedVariables false

set_option maxHeartbeats 1000000 in
theorem Clone_calls (v : Value) (xs : List Int) (w : World) (hv : Ints w v xs) (hl : xs.length ≤ 17592186044416) :
    Calls Try.prog 77 #[v] w fun e w' => ∃ v', e = .returned v' ∧ OwnI 3 w.heap.size w' v' xs ∧ Gr w w' := by
  have T := intTy
  rcases hv.form with ⟨rfl, rfl⟩ | ⟨ad, cap, rfl, h1, h2⟩
  · have he := fun w n c => Lib.run_eql_slice_nil (P := Try.prog) w 32 3 none 0 0 n c Try.underlying32
    go_enter Try.func77, Try.ntmps77
    go_wp2
    go_ret
    exact ⟨_, rfl, OwnI.nil _ _ _, Gr.refl _⟩
  · have he := fun w n c n' c' => Lib.run_eql_slice_nil (P := Try.prog) w 32 3 (some ad) n c n' c' Try.underlying32
    go_enter Try.func77, Try.ntmps77
    go_wp2_with (at_builtin; refine app_ints T _ _ w.heap.size (.slice (some ⟨w.heap.size, 0, none⟩) 0 0) (.slice (some ad) xs.length cap) [] xs rfl rfl rfl rfl (OwnI.lit rfl rfl rfl rfl (by simp) (by simp) (Nat.le_refl _)) (hv.alloc _) (by simpa using hl) (by simp) ?_; intro v' w' ho hgr _ _)
    go_ret
    exact ⟨_, rfl, ho, hgr w (Nat.le_refl _) (by (repeat (first | exact Gr.refl _ | assumption | apply Gr.alloc | apply Gr.drew | apply Gr.drewN | refine Gr.trans ?_ (by assumption))))⟩

set_option maxHeartbeats 1000000 in
theorem Equal_calls (v u : Value) (xs ys : List Int) (w : World) (hv : Ints w v xs) (hu : Ints w u ys) :
    Calls Try.prog 19 #[v, u] w fun e w' => e = .returned (.bool (eqB xs ys)) ∧ Gr w w' := by
  obtain ⟨a, cap, rfl, hlc, hcap⟩ := hv.len
  obtain ⟨a', cap', rfl, hlc', hcap'⟩ := hu.len
  by_cases hl : xs.length = ys.length
  · have hl1 : ((xs.length : Int) != ys.length) = false := by simp [hl]
    have HL := Lib.hid hl
    clear hl
    go_enter Try.func19, Try.ntmps19
    go_wp2
    go_loopw [13] (fun i wr => ∃ k : Nat, k ≤ xs.length ∧ i = .int .i64 k ∧ eqUpto xs ys k ∧ Gr w wr) (fun i _ => xs.length - (intOf i).toNat)
    case atStart => exact ⟨0, Nat.zero_le _, rfl, eqUpto.zero _ _, Gr.refl _⟩
    case round =>
      rename_i wr _
      obtain ⟨k, hk, rfl, hall, hgr⟩ := hrel
      by_cases hlt : k < xs.length
      · obtain ⟨b, o, rfl, hcell⟩ := (hv.gr hgr).cell hlt
        have hlt' : k < ys.length := by rw [← HL.out]; exact hlt
        obtain ⟨b', o', rfl, hcell'⟩ := (hu.gr hgr).cell hlt'
        have i1 : (0 : Int) ≤ (k : Int) := by omega
        have i2 : (k : Int) < (xs.length : Int) := by omega
        have i3 : (k : Int) < (ys.length : Int) := by omega
        go_wp2
        go_quiet (fail)
        go_wp2
        · go_ret
          exact ⟨ret_bool (eqB_no (k := k) (by simpa using ‹(nth xs k != nth ys k) = true›)).symm, hgr.drewN _⟩
        · go_roundw
          case rel => exact ⟨k + 1, by omega, by go_num, hall.succ (by simpa using ‹(nth xs k != nth ys k) = false›), hgr.drewN _⟩
          case measure => simp [intOf]; omega
      · go_wp2
        go_ret
        exact ⟨ret_bool (eqB_yes (hall.all HL.out (by omega))).symm, hgr⟩
  · have hl1 : ((xs.length : Int) != ys.length) = true := by simp; omega
    go_enter Try.func19, Try.ntmps19
    go_wp2
    go_ret
    exact ⟨ret_bool (eqB_len hl).symm, Gr.refl _⟩

set_option maxHeartbeats 400000 in
theorem Index_calls (v : Value) (xs : List Int) (x : Int) (w : World) (hv : Ints w v xs) :
    Calls Try.prog 72 #[v, .int .i64 x] w fun e w' => e = .returned (.int .i64 (firstOf (fun y => decide (x = y)) xs)) ∧ w = w' := by
  obtain ⟨a, cap, rfl, hlc, hcap⟩ := hv.len
  go_enter Try.func72, Try.ntmps72
  go_wp2
  go_loop [8] (fun i => ∃ k : Nat, k ≤ xs.length ∧ i = .int .i64 k ∧ NoneUpto (fun y => decide (x = y)) xs k) (fun i => xs.length - (intOf i).toNat)
  case atStart => exact ⟨0, Nat.zero_le _, rfl, NoneUpto.zero _ _⟩
  case round =>
    obtain ⟨k, hk, rfl, hall⟩ := hrel
    by_cases hlt : k < xs.length
    · obtain ⟨b, o, rfl, hcell⟩ := hv.cell hlt
      have hr := hv.range k
      by_cases hp : x = nth xs k
      · have hb : (x == nth xs k) = true := by simpa using hp
        have HP := Lib.hid hp
        clear hp
        go_wp2
        go_ret
        exact ⟨ret_i64 (firstOf_hit hall hlt (decide_eq_true HP.out)).symm, rfl⟩
      · have hb : (x == nth xs k) = false := by simpa using hp
        have HP := Lib.hid hp
        clear hp
        go_wp2
        go_round
        case rel => exact ⟨k + 1, by omega, by go_num, hall.succ (decide_eq_false HP.out)⟩
        case measure => simp [intOf]; omega
    · obtain rfl : k = xs.length := by omega
      go_wp2
      go_ret
      exact ⟨ret_i64 (firstOf_miss hall).symm, rfl⟩

set_option maxHeartbeats 400000 in
theorem Contains_calls (v : Value) (xs : List Int) (x : Int) (w : World) (hv : Ints w v xs) :
    Calls Try.prog 25 #[v, .int .i64 x] w fun e w' => e = .returned (.bool (hasB xs x)) ∧ w = w' := by
  go_enter Try.func25, Try.ntmps25
  go_wp2_with (go_at_call 72; refine (Index_calls _ _ _ _ hv).mono ?_; rintro e w' ⟨rfl, rfl⟩)
  go_ret
  exact ⟨ret_bool ((firstOf_any _ xs).trans (hasB_def xs x).symm), rfl⟩
end Go.Proofs.Ytelfbfjegmncaaa
