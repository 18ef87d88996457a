/- Contract of tongue.hope: how few letters lead to the end from one of some marks. -/
import Derived.Test.YtkanaoebpajbfaaTong2
namespace Go.Tok
set_option linter.unusedVariables false
def hopeTo (far : List Int) (s : List Bool) : Nat → Int
  | 0 => -1
  | k + 1 => if ix s k = true ∧ 0 ≤ nth far k ∧ (hopeTo far s k < 0 ∨ nth far k < hopeTo far s k) then nth far k else hopeTo far s k
theorem hopeTo_zero (far : List Int) (s : List Bool) : hopeTo far s 0 = -1 := rfl
theorem hopeTo_yes {far : List Int} {s : List Bool} {k : Nat} (h1 : ix s k = true) (h2 : 0 ≤ nth far k) (h3 : hopeTo far s k < 0 ∨ nth far k < hopeTo far s k) : hopeTo far s (k + 1) = nth far k := by rw [hopeTo, if_pos ⟨h1, h2, h3⟩]
theorem hopeTo_no {far : List Int} {s : List Bool} {k : Nat} (h : ¬ (ix s k = true ∧ 0 ≤ nth far k ∧ (hopeTo far s k < 0 ∨ nth far k < hopeTo far s k))) : hopeTo far s (k + 1) = hopeTo far s k := by rw [hopeTo, if_neg h]
theorem hopeTo_ge (far : List Int) (s : List Bool) (k : Nat) : -1 ≤ hopeTo far s k := by
  induction k with
  | zero => rw [hopeTo_zero]; omega
  | succ k ih => rw [hopeTo]; split <;> omega
/-- what it is: the least there is; -1: there is none -/
theorem hopeTo_is (far : List Int) (s : List Bool) : ∀ k, (hopeTo far s k < 0 → ∀ j, j < k → ix s j = true → nth far j < 0) ∧ (0 ≤ hopeTo far s k → (∃ j, j < k ∧ ix s j = true ∧ nth far j = hopeTo far s k) ∧ ∀ j, j < k → ix s j = true → 0 ≤ nth far j → hopeTo far s k ≤ nth far j) := by
  intro k
  induction k with
  | zero => rw [hopeTo_zero]; exact ⟨fun _ j hj => by omega, fun h => by omega⟩
  | succ k ih =>
    by_cases hc : ix s k = true ∧ 0 ≤ nth far k ∧ (hopeTo far s k < 0 ∨ nth far k < hopeTo far s k)
    · obtain ⟨h1, h2, h3⟩ := hc
      rw [hopeTo_yes h1 h2 h3]
      refine ⟨fun h => by omega, fun _ => ⟨⟨k, by omega, h1, rfl⟩, fun j hj hs hf => ?_⟩⟩
      rcases Nat.lt_or_ge j k with hlt | hge
      · by_cases h0 : hopeTo far s k < 0
        · have := ih.1 h0 j hlt hs; omega
        · have := (ih.2 (by omega)).2 j hlt hs hf; omega
      · obtain rfl : j = k := by omega
        omega
    · rw [hopeTo_no hc]
      refine ⟨fun h j hj hs => ?_, fun h => ?_⟩
      · rcases Nat.lt_or_ge j k with hlt | hge
        · exact ih.1 h j hlt hs
        · obtain rfl : j = k := by omega
          apply Classical.byContradiction
          intro h'
          exact hc ⟨hs, by omega, .inl h⟩
      · obtain ⟨⟨j, h1, h2, h3⟩, h4⟩ := ih.2 h
        refine ⟨⟨j, by omega, h2, h3⟩, fun j hj hs hf => ?_⟩
        rcases Nat.lt_or_ge j k with hlt | hge
        · exact h4 j hlt hs hf
        · obtain rfl : j = k := by omega
          apply Classical.byContradiction
          intro h'
          exact hc ⟨hs, hf, .inr (by omega)⟩
end Go.Tok
namespace Go.Proofs.Ytkanaoebpajbfaa
open Go.RowKit Go.Tok
set_option linter.unusedVariables false
set_option maxHeartbeats 4000000 in
set_option maxRecDepth 100000 in
theorem hope_calls {w : World} {n cap fc : Nat} {sa fa : Option Addr} {far : List Int} {s : List Bool} (hf : Ints w (.slice fa n fc) far) (hfl : far.length = n) (hs : Rd boolK w (.slice sa n cap) s) (hsl : s.length = n) (hn : n ≤ 5864062014805) :
    Calls Try.prog 105 #[.slice fa n fc, .slice sa n cap] w fun e w' => e = .returned (.int .i64 (hopeTo far s n)) ∧ Gr w w' := by
  have hfr := hf.range
  go_enter Try.func105, Try.ntmps105
  go_wp2_with fail
  go_loopw [5, 10] (fun h i wr => ∃ k : Nat, i = .int .i64 k ∧ k ≤ n ∧ h = .int .i64 (hopeTo far s k) ∧ Gr w wr) (fun _ i _ => n - (intOf i).toNat)
  case atStart => exact ⟨0, rfl, Nat.zero_le _, rfl, Gr.refl _⟩
  case round =>
    rename World => wr
    obtain ⟨k, rfl, hk, rfl, hg⟩ := hrel
    by_cases hlt : k < n
    · have hkI : (k : Int) < (n : Int) := by omega
      obtain ⟨fb, fo, rfl, f0⟩ := (hf.gr hg).cell (i := k) (by omega)
      obtain ⟨sb, so, rfl, s0⟩ := (hs.gr hg).bool (i := k) (by omega)
      by_cases hc : ix s k = true ∧ 0 ≤ nth far k ∧ (hopeTo far s k < 0 ∨ nth far k < hopeTo far s k)
      · have hy := hopeTo_yes hc.1 hc.2.1 hc.2.2
        have HY := Lib.hid hy
        obtain ⟨h1, h2, h3⟩ := hc
        rw [h1] at s0
        have h2' : nth far k ≥ 0 := h2
        generalize hopeTo far s k = h at *
        clear hy
        by_cases h4 : h < 0
        · go_wp2_with fail
          go_roundw
          case rel => exact ⟨k + 1, by go_num, by omega, by rw [HY.out], hg⟩
          case measure => simp [intOf]; omega
        · have h5 : nth far k < h := by omega
          clear h3
          go_wp2_with fail
          go_roundw
          case rel => exact ⟨k + 1, by go_num, by omega, by rw [HY.out], hg⟩
          case measure => simp [intOf]; omega
      · have HN := Lib.hid (hopeTo_no hc)
        have HC := Lib.hid hc
        clear hc
        generalize hopeTo far s k = h at *
        cases hb : ix s k
        · rw [hb] at s0
          clear hb
          go_wp2_with fail
          go_roundw
          case rel => exact ⟨k + 1, by go_num, by omega, by rw [HN.out], hg⟩
          case measure => simp [intOf]; omega
        · rw [hb] at s0
          by_cases h2 : 0 ≤ nth far k
          · have h3 : ¬ h < 0 := fun h3 => HC.out ⟨hb, h2, .inl h3⟩
            have h4 : ¬ nth far k < h := fun h4 => HC.out ⟨hb, h2, .inr h4⟩
            clear hb
            go_wp2_with fail
            go_roundw
            case rel => exact ⟨k + 1, by go_num, by omega, by rw [HN.out], hg⟩
            case measure => simp [intOf]; omega
          · clear hb
            go_wp2_with fail
            go_roundw
            case rel => exact ⟨k + 1, by go_num, by omega, by rw [HN.out], hg⟩
            case measure => simp [intOf]; omega
    · obtain rfl : k = n := by omega
      go_wp2_with fail
      go_ret
      exact ⟨rfl, hg⟩
end Go.Proofs.Ytkanaoebpajbfaa
