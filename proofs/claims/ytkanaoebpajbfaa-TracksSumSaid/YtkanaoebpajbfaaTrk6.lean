/- Contracts of the library's Index, Contains, Equal at pairs of ints. -/
import Derived.Test.YtkanaoebpajbfaaTrk3
import Derived.Test.YtkanaoebpajbfaaPA
import Derived.Test.YtkanaoebpajbfaaPairEq
namespace Go.Tok
open Go.RowKit
set_option linter.unusedVariables false
theorem Rd.pair {w : World} {a : Option Addr} {n cap : Nat} {xs : List (Int × Int)} (h : Rd pairK w (.slice a n cap) xs) {i : Nat} (hi : i < xs.length) :
    ∃ b o, a = some ⟨b, o, none⟩ ∧ w.cell? ⟨b, o + i * 2, none⟩ = some (.int .i64 (ix xs i).1) ∧ w.cell? ⟨b, o + i * 2 + 1, none⟩ = some (.int .i64 (ix xs i).2) ∧ pairI (ix xs i) := by
  obtain ⟨b, o, vs, ha, ⟨rfl, hr⟩, hc⟩ := h.at_ hi
  exact ⟨b, o, ha, hc 0 _ rfl, hc 1 _ rfl, hr⟩
theorem own_rdP {e base : Nat} {S : Nat → Prop} {w : World} {v : Value} {xs : List (Int × Int)} (h : OwnR pairK e base S w v xs) : Rd pairK w v xs := h.rd
end Go.Tok
namespace Go.Proofs.Ytkanaoebpajbfaa
open Go.RowKit Go.Tok
set_option linter.unusedVariables false
def samePB (p q : Int × Int) : Bool := (p.1 == q.1) && (p.2 == q.2)
theorem samePB_iff {p q : Int × Int} : samePB p q = true ↔ p = q := by
  unfold samePB
  rw [Bool.and_eq_true, beq_iff_eq, beq_iff_eq, Prod.ext_iff]
theorem firstI_pos {α : Type} [Inhabited α] (q : α → Bool) (xs : List α) : decide (0 ≤ firstI q xs) = xs.any q := firstI_any q xs
set_option maxRecDepth 100000 in
set_option maxHeartbeats 1000000 in
theorem EqualP_calls (v u : Value) (xs ys : List (Int × Int)) (w : World) (hv : Rd pairK w v xs) (hu : Rd pairK w u ys) :
    Calls Try.prog 36 #[v, u] w fun e w' => e = .returned (.bool (decide (xs = ys))) ∧ Gr w w' := by
  obtain ⟨a, cap, rfl, hlc, hcap⟩ := hv.len
  obtain ⟨a', cap', rfl, hlc', hcap'⟩ := hu.len
  by_cases hl : xs.length = ys.length
  · have hl1 : ((xs.length : Int) != ys.length) = false := by simp [hl]
    have HL := Lib.hid hl
    clear hl
    go_enter Try.func36, Try.ntmps36
    go_wp2_with fail
    go_loopw [13] (fun i wr => ∃ k : Nat, k ≤ xs.length ∧ i = .int .i64 k ∧ Hid (∀ j, j < k → ix xs j = ix ys j) ∧ Gr w wr) (fun i _ => xs.length - (intOf i).toNat)
    case atStart => exact ⟨0, Nat.zero_le _, rfl, Lib.hid fun j hj => by omega, Gr.refl _⟩
    case round =>
      rename_i wr _
      obtain ⟨k, hk, rfl, hall, hgr⟩ := hrel
      by_cases hlt : k < xs.length
      · have hlt' : k < ys.length := by rw [← HL.out]; exact hlt
        obtain ⟨b, o, rfl, c0, c1, hI⟩ := (hv.gr hgr).pair hlt
        obtain ⟨b', o', rfl, d0, d1, hJ⟩ := (hu.gr hgr).pair hlt'
        have i1 : (0 : Int) ≤ (k : Int) := by omega
        have i2 : (k : Int) < (xs.length : Int) := by omega
        have i3 : (k : Int) < (ys.length : Int) := by omega
        have hne : ix xs k ≠ ix ys k → decide (xs = ys) = false := fun h => decide_eq_false fun e => h (by rw [e])
        rcases h1 : (ix xs k).1 == (ix ys k).1 with _ | _
        · have HN := Lib.hid (hne fun e => by rw [e] at h1; simp at h1)
          have heq : ∀ w, (Op.equalIn 10000 71 (.agg #[.int .i64 (ix xs k).1, .int .i64 (ix xs k).2]) (.agg #[.int .i64 (ix ys k).1, .int .i64 (ix ys k).2])).run Try.prog w = .ok false w := fun w => by rw [run_eq_pair, h1]; rfl
          clear hne
          go_wp2_with fail
          go_quiet (fail)
          go_wp2_with fail
          go_ret
          exact ⟨ret_bool HN.out.symm, hgr.drewN _⟩
        · rcases h2 : (ix xs k).2 == (ix ys k).2 with _ | _
          · have HN := Lib.hid (hne fun e => by rw [e] at h2; simp at h2)
            have heq : ∀ w, (Op.equalIn 10000 71 (.agg #[.int .i64 (ix xs k).1, .int .i64 (ix xs k).2]) (.agg #[.int .i64 (ix ys k).1, .int .i64 (ix ys k).2])).run Try.prog w = .ok false w := fun w => by rw [run_eq_pair, h1, h2]; rfl
            clear hne
            go_wp2_with fail
            go_quiet (fail)
            go_wp2_with fail
            go_ret
            exact ⟨ret_bool HN.out.symm, hgr.drewN _⟩
          · have HN := Lib.hid (show ∀ j, j < k + 1 → ix xs j = ix ys j from fun j hj => by
              by_cases e : j = k
              · subst e; exact Prod.ext (by simpa using h1) (by simpa using h2)
              · exact hall.out j (by omega))
            have heq : ∀ w, (Op.equalIn 10000 71 (.agg #[.int .i64 (ix xs k).1, .int .i64 (ix xs k).2]) (.agg #[.int .i64 (ix ys k).1, .int .i64 (ix ys k).2])).run Try.prog w = .ok true w := fun w => by rw [run_eq_pair, h1, h2]; rfl
            clear hne
            go_wp2_with fail
            go_quiet (fail)
            go_wp2_with fail
            go_roundw
            case rel => exact ⟨k + 1, by omega, by go_num, HN, hgr.drewN _⟩
            case measure => simp [intOf]; omega
      · obtain rfl : k = xs.length := by omega
        have HN := Lib.hid (decide_eq_true (ext_ix HL.out hall.out))
        go_wp2_with fail
        go_ret
        exact ⟨ret_bool HN.out.symm, hgr⟩
  · have hl1 : ((xs.length : Int) != ys.length) = true := by simp; omega
    have HN := Lib.hid (show decide (xs = ys) = false from decide_eq_false fun e => hl (by rw [e]))
    go_enter Try.func36, Try.ntmps36
    go_wp2_with fail
    go_ret
    exact ⟨ret_bool HN.out.symm, Gr.refl _⟩
end Go.Proofs.Ytkanaoebpajbfaa
