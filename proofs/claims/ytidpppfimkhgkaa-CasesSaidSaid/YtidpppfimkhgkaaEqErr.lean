/- Contract of slices.Equal at error numbers. -/
import Derived.Test.YtidpppfimkhgkaaGM
namespace Go.Proofs.Ytidpppfimkhgkaa
open Go.RowKit Go.Tok
set_option linter.unusedVariables false
set_option maxHeartbeats 1000000 in
theorem EqualE_calls (v u : Value) (xs ys : List Int) (w : World) (hv : Ints w v xs) (hu : Ints w u ys) :
    Calls Try.prog 104 #[v, u] w fun e w' => e = .returned (.bool (eqB xs ys)) ∧ Gr w w' := by
  obtain ⟨a, cap, rfl, hlc, hcap⟩ := hv.len
  obtain ⟨a', cap', rfl, hlc', hcap'⟩ := hu.len
  by_cases hl : xs.length = ys.length
  · have hl1 : ((xs.length : Int) != ys.length) = false := by simp [hl]
    have HL := Lib.hid hl
    clear hl
    go_enter Try.func104, Try.ntmps104
    go_wp2
    go_loopw [13] (fun i wr => ∃ k : Nat, k ≤ xs.length ∧ i = .int .i64 k ∧ eqUpto xs ys k ∧ Gr w wr) (fun i _ => xs.length - (intOf i).toNat)
    case atStart => exact ⟨0, Nat.zero_le _, rfl, eqUpto.zero _ _, Gr.refl _⟩
    case round =>
      rename_i wr _
      obtain ⟨k, hk, rfl, hall, hgr⟩ := hrel
      by_cases hlt : k < xs.length
      · obtain ⟨b, o, rfl, hcell⟩ := (hv.gr hgr).cell hlt
        have hlt' : k < ys.length := by rw [← HL.out]; exact hlt
        obtain ⟨b', o', rfl, hcell'⟩ := (hu.gr hgr).cell hlt'
        have i1 : (0 : Int) ≤ (k : Int) := by omega
        have i2 : (k : Int) < (xs.length : Int) := by omega
        have i3 : (k : Int) < (ys.length : Int) := by omega
        go_wp2
        go_quiet (fail)
        go_wp2
        · go_ret
          exact ⟨ret_bool (eqB_no (k := k) (by simpa using ‹(nth xs k != nth ys k) = true›)).symm, hgr.drewN _⟩
        · go_roundw
          case rel => exact ⟨k + 1, by omega, by go_num, hall.succ (by simpa using ‹(nth xs k != nth ys k) = false›), hgr.drewN _⟩
          case measure => simp [intOf]; omega
      · go_wp2
        go_ret
        exact ⟨ret_bool (eqB_yes (hall.all HL.out (by omega))).symm, hgr⟩
  · have hl1 : ((xs.length : Int) != ys.length) = true := by simp; omega
    go_enter Try.func104, Try.ntmps104
    go_wp2
    go_ret
    exact ⟨ret_bool (eqB_len hl).symm, Gr.refl _⟩
end Go.Proofs.Ytidpppfimkhgkaa
