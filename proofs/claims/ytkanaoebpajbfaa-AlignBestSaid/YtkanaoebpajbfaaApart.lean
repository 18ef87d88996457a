/- Contract of tokenhallkeep.apart: the distance of two words. -/
import Derived.Test.YtkanaoebpajbfaaAl8
import Derived.Test.YtkanaoebpajbfaaSlc
import Derived.BigQuiet
import Derived.Deep.RegionHeld3
namespace Go.Tok
open Go.RowKit Go.Proofs.Ytkanaoebpajbfaa
set_option linter.unusedVariables false
theorem Ints.tail {w : World} {ad : Addr} {n cap : Nat} {x : Int} {xs : List Int} (h : Ints w (.slice (some ad) n cap) (x :: xs)) {a' : Option Addr} (ha : xs ≠ [] → a' = some (ad.add 1)) (hn : a' = none → cap = 1) : Ints w (.slice a' xs.length (cap - 1)) xs := by
  have hc := fun i (hi : i < (x :: xs).length) => h.cell hi
  unfold Ints at h
  obtain ⟨a0, c0, h1, h2, h3, h4, h5, h6⟩ := h
  cases h1
  simp only [List.length_cons] at h2 hc
  refine Ints.intro (a := a') (cap := cap - 1) rfl (by omega) (by omega) (fun y hy => h4 y (List.mem_cons_of_mem _ hy)) (fun e => by have := hn e; omega) fun i hi => ?_
  obtain ⟨b, o, e, hcell⟩ := hc (i + 1) (by omega)
  cases e
  refine ⟨b, o + 1, ?_, ?_⟩
  · rw [ha (by intro e; subst e; simp at hi)]
    unfold Addr.add
    split <;> simp_all
  · have e1 : nth (x :: xs) (i + 1) = nth xs i := by unfold nth; simp
    rw [← e1, show o + 1 + i = o + (i + 1) by omega]
    exact hcell
end Go.Tok
namespace Go.Proofs.Ytkanaoebpajbfaa
open Go.RowKit Go.Tok
set_option linter.unusedVariables false
def RetAp (xs ys : List Int) (w : World) (e : Ending) (w' : World) : Prop := e = .returned (.int .i64 (apartF xs ys : Int)) ∧ Gr w w'
set_option maxHeartbeats 4000000 in
set_option maxRecDepth 100000 in
theorem apart_calls : ∀ (n : Nat) (xs ys : List Int) (u v : Value) (w : World), xs.length + ys.length ≤ n → n ≤ 1000000 → Ints w u xs → Ints w v ys → Calls Try.prog 41 #[u, v] w (RetAp xs ys w) := by
  intro n
  induction n with
  | zero =>
    intro xs ys u v w hn hn1 hu hv
    obtain rfl : xs = [] := List.eq_nil_of_length_eq_zero (by omega)
    obtain rfl : ys = [] := List.eq_nil_of_length_eq_zero (by simp at hn; simpa using hn)
    obtain ⟨ua, uc, rfl, _, _⟩ := hu.len
    obtain ⟨va, vc, rfl, _, _⟩ := hv.len
    unfold RetAp
    rw [apart_nil]
    go_enter Try.func41, Try.ntmps41
    go_wp2_with fail
    go_ret
    exact ⟨rfl, by (repeat (first | exact Gr.refl _ | assumption | apply Gr.alloc | apply Gr.drew | apply Gr.drewN | refine Gr.trans ?_ (by assumption)))⟩
  | succ n ih =>
    intro xs ys u v w hn hn1 hu hv
    have IH := Lib.hid ih
    clear ih
    by_cases hy : ys = []
    · subst hy
      obtain ⟨ua, uc, rfl, _, _⟩ := hu.len
      obtain ⟨va, vc, rfl, _, _⟩ := hv.len
      unfold RetAp
      rw [apart_nil']
      have hb : (xs.length : Int) ≤ 1000000 := by simp only [List.length_nil] at hn; omega
      by_cases hx : xs = []
      · subst hx
        go_enter Try.func41, Try.ntmps41
        go_wp2_with fail
        go_ret
        exact ⟨rfl, by (repeat (first | exact Gr.refl _ | assumption | apply Gr.alloc | apply Gr.drew | apply Gr.drewN | refine Gr.trans ?_ (by assumption)))⟩
      · have hp : 0 < xs.length := List.length_pos_iff.2 hx
        have q : ((xs.length : Int) == 0) = false := by rw [Bool.eq_false_iff]; intro h; rw [beq_iff_eq] at h; omega
        go_enter Try.func41, Try.ntmps41
        go_wp2_with fail
        go_ret
        exact ⟨rfl, by (repeat (first | exact Gr.refl _ | assumption | apply Gr.alloc | apply Gr.drew | apply Gr.drewN | refine Gr.trans ?_ (by assumption)))⟩
    by_cases hx : xs = []
    · subst hx
      obtain ⟨ua, uc, rfl, _, _⟩ := hu.len
      obtain ⟨va, vc, rfl, _, _⟩ := hv.len
      unfold RetAp
      rw [apart_nil]
      go_enter Try.func41, Try.ntmps41
      go_wp2_with fail
      go_ret
      exact ⟨rfl, by (repeat (first | exact Gr.refl _ | assumption | apply Gr.alloc | apply Gr.drew | apply Gr.drewN | refine Gr.trans ?_ (by assumption)))⟩
    obtain ⟨x, xs, rfl⟩ := List.exists_cons_of_ne_nil hx
    obtain ⟨y, ys, rfl⟩ := List.exists_cons_of_ne_nil hy
    obtain ⟨ua, uc, rfl, u1, u2⟩ := hu.len
    obtain ⟨va, vc, rfl, v1, v2⟩ := hv.len
    obtain ⟨ub, uo, rfl, c0⟩ := hu.cell (i := 0) (by simp)
    obtain ⟨vb, vo, rfl, d0⟩ := hv.cell (i := 0) (by simp)
    simp only [List.length_cons] at u1 v1 hn
    have e0 : nth (x :: xs) 0 = x := by unfold nth; simp
    have e1 : nth (y :: ys) 0 = y := by unfold nth; simp
    rw [e0, Nat.add_zero] at c0
    rw [e1, Nat.add_zero] at d0
    clear hx hy e0 e1
    have q1 : (((xs.length : Int) + 1) == 0) = false := by rw [Bool.eq_false_iff]; intro h; rw [beq_iff_eq] at h; omega
    have q2 : (((ys.length : Int) + 1) == 0) = false := by rw [Bool.eq_false_iff]; intro h; rw [beq_iff_eq] at h; omega
    obtain ⟨A, hA⟩ : ∃ A : Addr, A = if uc = 1 then ⟨ub, uo, none⟩ else ⟨ub, uo + 1, none⟩ := ⟨_, rfl⟩
    obtain ⟨B, hB⟩ : ∃ B : Addr, B = if vc = 1 then ⟨vb, vo, none⟩ else ⟨vb, vo + 1, none⟩ := ⟨_, rfl⟩
    have S1 := fun w => run_slice1 (b := ub) (o := uo) u1 u2 w
    have S2 := fun w => run_slice1 (b := vb) (o := vo) v1 v2 w
    rw [← hA] at S1
    rw [← hB] at S2
    have HTU : Hid (Ints w (.slice (some A) xs.length (uc - 1)) xs) := Lib.hid (hu.tail (fun hne => by
      rw [hA, if_neg (fun h => hne (List.eq_nil_of_length_eq_zero (by omega)))]; rfl) (fun h => by cases h))
    have HTV : Hid (Ints w (.slice (some B) ys.length (vc - 1)) ys) := Lib.hid (hv.tail (fun hne => by
      rw [hB, if_neg (fun h => hne (List.eq_nil_of_length_eq_zero (by omega)))]; rfl) (fun h => by cases h))
    clear hA hB
    have HU : Hid (Ints w (.slice (some ⟨ub, uo, none⟩) (xs.length + 1) uc) (x :: xs)) := Lib.hid hu
    have HV : Hid (Ints w (.slice (some ⟨vb, vo, none⟩) (ys.length + 1) vc) (y :: ys)) := Lib.hid hv
    have P1 : xs.length + ys.length ≤ n := by omega
    have P2 : n ≤ 1000000 := by omega
    have P3 : xs.length + (ys.length + 1) ≤ n := by omega
    have P4 : (xs.length + 1) + ys.length ≤ n := by omega
    clear hu hv
    by_cases hxy : x = y
    · subst hxy
      rw [show RetAp (x :: xs) (x :: ys) w = RetAp xs ys w by unfold RetAp; rw [apart_eq]]
      go_enter Try.func41, Try.ntmps41
      go_wp2_with fail
      go_quiet (fail)
      go_wp2_with fail
      go_region_held3 (fun _ => True) (first | go_keep | trivial) (first | (go_at_call 41; (with_reducible refine (IH.out xs ys _ _ _ P1 P2 (HTU.out.gr ?_) (HTV.out.gr ?_)).mono ?_); ((focus ((repeat (first | exact Gr.refl _ | assumption | apply Gr.alloc | apply Gr.drew | apply Gr.drewN | refine Gr.trans ?_ (by assumption))); done))); ((focus ((repeat (first | exact Gr.refl _ | assumption | apply Gr.alloc | apply Gr.drew | apply Gr.drewN | refine Gr.trans ?_ (by assumption))); done))); rintro _ w2 ⟨rfl, g2⟩))
      go_wp2_with fail
      go_ret
      exact ⟨rfl, by (repeat (first | exact Gr.refl _ | assumption | apply Gr.alloc | apply Gr.drew | apply Gr.drewN | refine Gr.trans ?_ (by assumption)))⟩
    · have q : (x == y) = false := by simpa using hxy
      have hL1 := apart_le _ xs (y :: ys) (Nat.le_refl _)
      have hL2 := apart_le _ (x :: xs) ys (Nat.le_refl _)
      simp only [List.length_cons] at hL1 hL2
      obtain ⟨d1, hd1⟩ : ∃ d, d = apartF xs (y :: ys) := ⟨_, rfl⟩
      obtain ⟨d2, hd2⟩ : ∃ d, d = apartF (x :: xs) ys := ⟨_, rfl⟩
      have R1 : RetAp xs (y :: ys) = fun w e w' => e = .returned (.int .i64 (d1 : Int)) ∧ Gr w w' := by unfold RetAp; rw [hd1]
      have R2 : RetAp (x :: xs) ys = fun w e w' => e = .returned (.int .i64 (d2 : Int)) ∧ Gr w w' := by unfold RetAp; rw [hd2]
      have R3 : RetAp (x :: xs) (y :: ys) = fun w e w' => e = .returned (.int .i64 (1 + (min d1 d2 : Nat) : Int)) ∧ Gr w w' := by unfold RetAp; rw [apart_ne hxy, ← hd1, ← hd2]; simp
      rw [← hd1] at hL1
      rw [← hd2] at hL2
      have I1 := IH.out xs (y :: ys)
      have I2 := IH.out (x :: xs) ys
      rw [R1] at I1
      rw [R2] at I2
      rw [R3]
      simp only [List.length_cons] at I1 I2
      have J1 := Lib.hid I1
      have J2 := Lib.hid I2
      clear hd1 hd2 R1 R2 R3 I1 I2 IH
      have hb1 : d1 ≤ 1000000 := by omega
      have hb2 : d2 ≤ 1000000 := by omega
      clear hL1 hL2
      obtain ⟨m, hm, hlt⟩ : ∃ m : Nat, m = min d1 d2 ∧ (((d2 : Int) < d1 ∧ m = d2) ∨ ((d1 : Int) ≤ d2 ∧ m = d1)) := ⟨_, rfl, by omega⟩
      rw [← hm]
      clear hm
      rcases hlt with ⟨hlt, rfl⟩ | ⟨hlt, rfl⟩
      · skip
        go_enter Try.func41, Try.ntmps41
        go_wp2_with fail
        go_quiet (fail)
        go_wp2_with fail
        go_region_held3 (fun _ => True) (first | go_keep | trivial) (first | (go_at_call 41; (with_reducible refine (J1.out _ _ _ P3 P2 (HTU.out.gr ?_) (HV.out.gr ?_)).mono ?_); ((focus ((repeat (first | exact Gr.refl _ | assumption | apply Gr.alloc | apply Gr.drew | apply Gr.drewN | refine Gr.trans ?_ (by assumption))); done))); ((focus ((repeat (first | exact Gr.refl _ | assumption | apply Gr.alloc | apply Gr.drew | apply Gr.drewN | refine Gr.trans ?_ (by assumption))); done))); rintro _ w2 ⟨rfl, g2⟩) | (go_at_call 41; (with_reducible refine (J2.out _ _ _ P4 P2 (HU.out.gr ?_) (HTV.out.gr ?_)).mono ?_); ((focus ((repeat (first | exact Gr.refl _ | assumption | apply Gr.alloc | apply Gr.drew | apply Gr.drewN | refine Gr.trans ?_ (by assumption))); done))); ((focus ((repeat (first | exact Gr.refl _ | assumption | apply Gr.alloc | apply Gr.drew | apply Gr.drewN | refine Gr.trans ?_ (by assumption))); done))); rintro _ w3 ⟨rfl, g3⟩))
        go_wp2_with fail
        go_ret
        refine ⟨?_, by (repeat (first | exact Gr.refl _ | assumption | apply Gr.alloc | apply Gr.drew | apply Gr.drewN | refine Gr.trans ?_ (by assumption)))⟩
        simp
        rw [Go.IntWalk.i64_in _ (by omega)]; omega
      · skip
        go_enter Try.func41, Try.ntmps41
        go_wp2_with fail
        go_quiet (fail)
        go_wp2_with fail
        go_region_held3 (fun _ => True) (first | go_keep | trivial) (first | (go_at_call 41; (with_reducible refine (J1.out _ _ _ P3 P2 (HTU.out.gr ?_) (HV.out.gr ?_)).mono ?_); ((focus ((repeat (first | exact Gr.refl _ | assumption | apply Gr.alloc | apply Gr.drew | apply Gr.drewN | refine Gr.trans ?_ (by assumption))); done))); ((focus ((repeat (first | exact Gr.refl _ | assumption | apply Gr.alloc | apply Gr.drew | apply Gr.drewN | refine Gr.trans ?_ (by assumption))); done))); rintro _ w2 ⟨rfl, g2⟩) | (go_at_call 41; (with_reducible refine (J2.out _ _ _ P4 P2 (HU.out.gr ?_) (HTV.out.gr ?_)).mono ?_); ((focus ((repeat (first | exact Gr.refl _ | assumption | apply Gr.alloc | apply Gr.drew | apply Gr.drewN | refine Gr.trans ?_ (by assumption))); done))); ((focus ((repeat (first | exact Gr.refl _ | assumption | apply Gr.alloc | apply Gr.drew | apply Gr.drewN | refine Gr.trans ?_ (by assumption))); done))); rintro _ w3 ⟨rfl, g3⟩))
        go_wp2_with fail
        go_ret
        refine ⟨?_, by (repeat (first | exact Gr.refl _ | assumption | apply Gr.alloc | apply Gr.drew | apply Gr.drewN | refine Gr.trans ?_ (by assumption)))⟩
        simp
        rw [Go.IntWalk.i64_in _ (by omega)]; omega
end Go.Proofs.Ytkanaoebpajbfaa
