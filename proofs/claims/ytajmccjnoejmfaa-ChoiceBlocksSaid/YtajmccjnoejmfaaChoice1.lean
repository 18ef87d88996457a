/- Contracts of choice.shares and of the closure of choice.Clusters. -/
import Derived.Test.YtajmccjnoejmfaaChoiceLaw
import Derived.Test.YtajmccjnoejmfaaFnAt
import Derived.Test.YtajmccjnoejmfaaGM
import Derived.Test.YtajmccjnoejmfaaPA
import Derived.BigQuiet
import Derived.Deep.QuietTactic
namespace Go.Tok
open Go.RowKit
def NoShare (a b : TranD) (k : Nat) : Prop := ∀ p, p < k → ¬ (0 < nth a.pre p ∧ 0 < nth b.pre p)
theorem NoShare.zero (a b : TranD) : NoShare a b 0 := fun p hp => by omega
theorem NoShare.succ {a b : TranD} {k : Nat} (h : NoShare a b k) (hk : ¬ (0 < nth a.pre k ∧ 0 < nth b.pre k)) : NoShare a b (k + 1) := fun p hp => by
  rcases Nat.lt_or_ge p k with h1 | h1
  · exact h p h1
  · obtain rfl : p = k := by omega
    exact hk
theorem NoShare.all {a b : TranD} (h : NoShare a b a.pre.length) : sharesB a b = false := by
  cases hs : sharesB a b
  · rfl
  · obtain ⟨p, hp, h1, h2⟩ := shares_iff.1 hs
    exact absurd ⟨h1, h2⟩ (h p hp)
end Go.Tok
namespace Go.Proofs.Ytajmccjnoejmfaa
open Go.RowKit Go.Tok
set_option linter.unusedVariables false
set_option maxHeartbeats 2000000 in
set_option maxRecDepth 100000 in
theorem shares_calls (vp vq up uq : Value) (a b : TranD) (w : World) (hap : Ints w vp a.pre) (haq : Ints w vq a.post) (hbp : Ints w up b.pre) (hbq : Ints w uq b.post) (hl : a.pre.length ≤ b.pre.length) :
    Calls Try.prog 63 #[.agg #[.int .i64 a.label, vp, vq], .agg #[.int .i64 b.label, up, uq]] w fun e w' => e = .returned (.bool (sharesB a b)) ∧ Gr w w' := by
  obtain ⟨pa, pc, rfl, pl, pl'⟩ := hap.len
  obtain ⟨ua, uc, rfl, ul, ul'⟩ := hbp.len
  go_enter Try.func63, Try.ntmps63
  go_wp2_with fail
  go_loopw [9] (fun i wr => ∃ k : Nat, k ≤ a.pre.length ∧ i = .int .i64 k ∧ NoShare a b k ∧ Gr ((w.alloc (.cells #[.int .i64 a.label, .slice pa a.pre.length pc, vq] 34)).alloc (.cells #[.int .i64 b.label, .slice ua b.pre.length uc, uq] 34)) wr) (fun i _ => a.pre.length - (intOf i).toNat)
  case atStart => exact ⟨0, Nat.zero_le _, rfl, NoShare.zero _ _, Gr.refl _⟩
  case round =>
    rename_i wr _
    obtain ⟨k, hk, rfl, hall, hgr⟩ := hrel
    have B1 : wr.cell? ⟨w.heap.size, 1, none⟩ = some (.slice pa a.pre.length pc) := cell_gr (box_cell ((Gr.refl _).alloc _) (i := 1) rfl) hgr
    have C1 : wr.cell? ⟨w.heap.size + 1, 1, none⟩ = some (.slice ua b.pre.length uc) := by
      have := box_cell hgr (i := 1) rfl
      simpa using this
    have G : Gr w wr := (((Gr.refl w).alloc _).alloc _).trans hgr
    by_cases hlt : k < a.pre.length
    · obtain ⟨b1, o1, rfl, c1⟩ := (hap.gr G).cell hlt
      obtain ⟨b2, o2, rfl, c2⟩ := (hbp.gr G).cell (show k < b.pre.length by omega)
      have hk1 : (k : Int) < (a.pre.length : Int) := by omega
      have hk2 : (k : Int) < (b.pre.length : Int) := by omega
      by_cases h1 : 0 < nth a.pre k
      · have d1 : decide (0 < nth a.pre k) = true := by simpa using h1
        by_cases h2 : 0 < nth b.pre k
        · have d2 : decide (0 < nth b.pre k) = true := by simpa using h2
          have HR := Lib.hid (show sharesB a b = true from shares_iff.2 ⟨k, hlt, h1, h2⟩)
          clear h1 h2
          go_wp2_with fail
          go_ret
          exact ⟨ret_bool HR.out.symm, by (repeat (first | exact Gr.refl _ | assumption | apply Gr.alloc | apply Gr.drew | apply Gr.drewN | refine Gr.trans ?_ (by assumption)))⟩
        · have d2 : decide (0 < nth b.pre k) = false := by simpa using h2
          have HR := Lib.hid (hall.succ (fun h => h2 h.2))
          clear h1 h2
          go_wp2_with fail
          go_roundw
          case rel => exact ⟨k + 1, by omega, by go_num, HR.out, hgr⟩
          case measure => simp [intOf]; omega
      · have d1 : decide (0 < nth a.pre k) = false := by simpa using h1
        have HR := Lib.hid (hall.succ (fun h => h1 h.1))
        clear h1
        go_wp2_with fail
        go_roundw
        case rel => exact ⟨k + 1, by omega, by go_num, HR.out, hgr⟩
        case measure => simp [intOf]; omega
    · obtain rfl : k = a.pre.length := by omega
      have HR := Lib.hid hall.all
      go_wp2_with fail
      go_ret
      exact ⟨ret_bool HR.out.symm, G⟩
end Go.Proofs.Ytajmccjnoejmfaa
