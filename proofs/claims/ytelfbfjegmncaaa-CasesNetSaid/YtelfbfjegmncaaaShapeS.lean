/- Contracts of shape.one, shape.Start. -/
import Derived.Test.YtelfbfjegmncaaaNet
import Derived.Test.YtelfbfjegmncaaaSkip
import Derived.Test.YtelfbfjegmncaaaZip
import Derived.Test.YtelfbfjegmncaaaStep
import Derived.Test.YtelfbfjegmncaaaBackLaw
namespace Go.Tok
open Go.RowKit
/-- one token at a place -/
def oneN (n : Nat) (p : Int) : List Int := if 0 ≤ p ∧ p < n then (List.replicate n 0).set p.toNat 1 else List.replicate n 0
theorem oneN_in {n : Nat} {p : Int} (h : 0 ≤ p) (h' : p < n) : (List.replicate n 0).set p.toNat 1 = oneN n p := by unfold oneN; rw [if_pos ⟨h, h'⟩]
theorem oneN_out {n : Nat} {p : Int} (h : ¬ (0 ≤ p ∧ p < n)) : List.replicate n 0 = oneN n p := by unfold oneN; rw [if_neg h]
theorem oneN_len (n : Nat) (p : Int) : (oneN n p).length = n := by unfold oneN; split <;> simp
theorem nth_oneN (n i p : Nat) (hi : i < n) : nth (oneN n (i : Int)) p = if p = i then 1 else 0 := by
  rw [← oneN_in (by omega) (by omega)]
  simp only [Int.toNat_natCast]
  by_cases hp : p < n
  · rw [nth_set _ _ _ (by simpa using hp), nth_lt (by simpa using hp)]
    by_cases h : p = i
    · rw [if_pos h.symm, if_pos h]
    · rw [if_neg (fun e => h e.symm), if_neg h]; simp
  · rw [nth_ge (by simp; omega), if_neg (by omega)]
end Go.Tok
namespace Go.Proofs.Ytelfbfjegmncaaa
open Go.RowKit Go.Tok
set_option linter.unusedVariables false

theorem netOk_p16 {N : NetD} (h : netOkB N = true) : 0 ≤ N.places ∧ N.places ≤ 16 := by
  unfold netOkB at h
  simp only [Bool.and_eq_true, decide_eq_true_eq] at h
  exact ⟨h.1.1.1, h.1.1.2⟩
theorem netOk_n24 {N : NetD} (h : netOkB N = true) : N.trans.length ≤ 24 := by
  unfold netOkB at h
  simp only [Bool.and_eq_true, decide_eq_true_eq] at h
  exact h.1.2
set_option maxRecDepth 100000 in
theorem one_calls (n : Nat) (c p : Int) (w : World) (hc : max c 0 = (n : Int)) (hc1 : -9223372036854775808 ≤ c) (hn : n ≤ 16) (hp : I64 p) :
    Calls Try.prog 83 #[.int .i64 c, .int .i64 p] w fun e w' => ∃ v', e = .returned v' ∧ OwnI 3 w.heap.size w' v' (oneN n p) ∧ Gr w w' := by
  have T := intTy
  have p1 := hp.1
  have p2 := hp.2
  by_cases h0 : 0 ≤ p ∧ p < n
  · obtain ⟨h1, h2⟩ := h0
    have HE := Lib.hid (oneN_in h1 h2)
    obtain ⟨k, rfl⟩ := Int.eq_ofNat_of_zero_le h1
    go_enter Try.func83, Try.ntmps83
    go_wp2_with (at_make; refine mk_ints T _ _ w.heap.size n _ _ rfl rfl rfl rfl (by omega) (by omega) (by omega) (Nat.le_refl _) ?_; intro w1 hown hb hlt; have hc' := hown.cell (i := k) (by simp; omega); have hfz := hown.frozen k)
    all_goals go_ret
    all_goals exact ⟨_, rfl, by rw [← HE.out]; exact hown.set k 1 ⟨by omega, by omega⟩, hb.setCell (Nat.le_refl _) _⟩
  · have HE := Lib.hid (oneN_out h0)
    go_enter Try.func83, Try.ntmps83
    go_wp2_with (at_make; refine mk_ints T _ _ w.heap.size n _ _ rfl rfl rfl rfl (by omega) (by omega) (by omega) (Nat.le_refl _) ?_; intro w1 hown hb hlt)
    all_goals go_ret
    all_goals exact ⟨_, rfl, by rw [← HE.out]; exact hown, hb⟩

def startLen (N : NetD) : Nat := (max (min N.places 16) 0).toNat
theorem startLen_le (N : NetD) : startLen N ≤ 16 := by unfold startLen; omega
theorem startLen_ok {N : NetD} (h : netOkB N = true) : startLen N = N.places.toNat := by
  have := netOk_p16 h
  unfold startLen; omega

set_option maxRecDepth 100000 in
theorem Start_calls (v : Value) (N : NetD) (i : Int) (w : World) (hN : NetR w v N) (hi : I64 i) :
    Calls Try.prog 34 #[v, .int .i64 i] w fun e w' => ∃ v', e = .returned v' ∧ OwnI 3 w.heap.size w' v' (oneN (startLen N) i) ∧ Gr w w' := by
  obtain ⟨a, cap, rfl, hnl, hncap, hpl, hT⟩ := hN.open_
  have hpl1 := hpl.1
  have hpl2 := hpl.2
  have hm1 : max (min N.places 16) 0 = (startLen N : Int) := by unfold startLen; omega
  have hm2 := startLen_le N
  rcases (show N.places ≤ 16 ∨ 16 < N.places by omega) with hm3 | hm3
  · have hm4 : min N.places 16 = N.places := by omega
    rw [hm4] at hm1
    have HM := Lib.hid hm1
    clear hm1
    go_enter Try.func34, Try.ntmps34
    go_wp2_with (go_at_call 83; refine (one_calls (startLen N) _ i _ HM.out (by omega) hm2 hi).mono ?_; rintro e w1 ⟨v1, rfl, o1, g1⟩)
    all_goals go_ret
    all_goals exact ⟨_, rfl, o1.low (by rw [World.size_alloc]; omega), by (repeat (first | exact Gr.refl _ | assumption | apply Gr.alloc | apply Gr.drew | apply Gr.drewN | refine Gr.trans ?_ (by assumption)))⟩
  · have hm4 : min N.places 16 = 16 := by omega
    rw [hm4] at hm1
    have HM := Lib.hid hm1
    clear hm1
    go_enter Try.func34, Try.ntmps34
    go_wp2_with (go_at_call 83; refine (one_calls (startLen N) _ i _ HM.out (by omega) hm2 hi).mono ?_; rintro e w1 ⟨v1, rfl, o1, g1⟩)
    all_goals go_ret
    all_goals exact ⟨_, rfl, o1.low (by rw [World.size_alloc]; omega), by (repeat (first | exact Gr.refl _ | assumption | apply Gr.alloc | apply Gr.drew | apply Gr.drewN | refine Gr.trans ?_ (by assumption)))⟩
end Go.Proofs.Ytelfbfjegmncaaa
