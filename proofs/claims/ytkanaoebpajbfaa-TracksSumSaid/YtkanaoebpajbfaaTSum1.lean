/- The order and the compaction of pairs, nil or not; how much small logs show. -/
import Derived.Test.YtkanaoebpajbfaaCompP
import Derived.Test.YtkanaoebpajbfaaUnion
import Derived.Test.YtkanaoebpajbfaaTSumLaw
import Derived.Test.YtkanaoebpajbfaaTrk4
namespace Go.Proofs.Ytkanaoebpajbfaa
open Go.RowKit Go.Tok Go.Lib
set_option linter.unusedVariables false
theorem of_small {log : List (List Int)} (h : (ofT log).2 = 0) : ((ofT log).1.labels.length ≤ 26 ∧ (ofT log).1.first.length ≤ 26 ∧ (ofT log).1.last.length ≤ 26) ∧ (ofT log).1.behind.length ≤ 676 := by
  have hw : wrongT log = 0 := by
    apply Classical.byContradiction
    intro hn
    unfold ofT at h
    rw [if_neg hn] at h
    exact hn h
  obtain ⟨n1, n2, n3, n4⟩ := onces_log log
  obtain ⟨l1, l2, l3, l4⟩ := labs_log hw
  unfold ofT
  rw [if_pos hw]
  refine ⟨⟨?_, ?_, ?_⟩, ?_⟩
  · show (sortI _).length ≤ 26; rw [(sortI_perm _).length_eq]; exact labs_short n1 l1
  · show (sortI _).length ≤ 26; rw [(sortI_perm _).length_eq]; exact labs_short n2 l2
  · show (sortI _).length ≤ 26; rw [(sortI_perm _).length_eq]; exact labs_short n3 l3
  · show (sortP _).length ≤ 676; rw [(sortP_perm _).length_eq]; exact pairs_short n4 l4
theorem sortPairs_calls (v : Value) (base : Nat) (xs : List (Int × Int)) (w0 w : World) (h : OwnR pairK 71 base NoS w v xs) (hl : xs.length ≤ 1000000) (h0 : Gr w0 w) (hb : w0.heap.size ≤ base) :
    Calls Try.prog 32 #[v, .func (.func 33) #[] #[]] w fun e w' => e = .returned (.tuple #[]) ∧ OwnR pairK 71 base NoS w' v (sortP xs) ∧ Gr w0 w' := by
  have hnil : xs.length = 0 → sortP xs = xs := fun e => by
    obtain rfl := List.eq_nil_of_length_eq_zero e
    exact sortP_is (List.Perm.refl _) .nil
  rcases h.form with ⟨rfl, rfl⟩ | ⟨g, cap, rfl, hg1, hg2, hg3, hg4⟩
  · refine (Try.slices_SortFunc_none_f32 (α := Int × Int) none 0 _ _).mono ?_
    rintro _ _ ⟨rfl, rfl⟩
    exact ⟨rfl, by rw [hnil rfl]; exact h, h0⟩
  · by_cases hp : 0 < xs.length
    · refine (SortFuncP_calls 33 (Go.Proofs.enters_of Try.func33 (by kernel_rfl) rfl) (fun a b ha hb w => sum1_calls a b ha hb w) g cap _ NoS xs _ h hp hl).mono ?_
      rintro _ w3 ⟨rfl, ho3, g3⟩
      exact ⟨rfl, ho3, h0.grown g3 fun k hk => by cases hk; omega⟩
    · have h00 : xs.length = 0 := by omega
      rw [hnil h00]
      rw [h00] at h ⊢
      refine (Try.slices_SortFunc_none_f32 (α := Int × Int) _ cap _ _).mono ?_
      rintro _ _ ⟨rfl, rfl⟩
      exact ⟨rfl, h, h0⟩
set_option maxHeartbeats 1000000 in
theorem compactPairs_calls (v : Value) (base : Nat) (xs : List (Int × Int)) (w0 w : World) (h : OwnR pairK 71 base NoS w v xs) (h0 : Gr w0 w) (hb : w0.heap.size ≤ base) :
    Calls Try.prog 37 #[v] w fun e w' => ∃ v', e = .returned v' ∧ Rd pairK w' v' (compactUpTo xs.toArray xs.length) ∧ Gr w0 w' := by
  rcases h.form with ⟨rfl, rfl⟩ | ⟨g, cap, rfl, hg1, hg2, hg3, hg4⟩
  · go_enter Try.func37, Try.ntmps37
    go_wp2_with fail
    go_ret
    exact ⟨_, rfl, Rd.nil _, h0⟩
  · exact CompactP_calls base NoS g cap xs w0 w h h0 hb
end Go.Proofs.Ytkanaoebpajbfaa
