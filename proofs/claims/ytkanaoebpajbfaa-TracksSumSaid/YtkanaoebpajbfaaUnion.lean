/- Contracts of tokenhallkeep.union and of the order that TracksSum sorts by. -/
import Derived.Test.YtkanaoebpajbfaaCompI
import Derived.Test.YtkanaoebpajbfaaSortNil
import Derived.Test.YtkanaoebpajbfaaGM
import Derived.Test.YtkanaoebpajbfaaTrk6
namespace Go.Proofs.Ytkanaoebpajbfaa
open Go.RowKit Go.Tok Go.Sort
set_option linter.unusedVariables false
set_option maxHeartbeats 1000000 in
theorem sum1_calls (a b : Int × Int) (ha : I64 a.1 ∧ I64 a.2) (hb : I64 b.1 ∧ I64 b.2) (w : World) :
    Calls Try.prog 33 #[.agg #[.int .i64 a.1, .int .i64 a.2], .agg #[.int .i64 b.1, .int .i64 b.2]] w fun e w' => e = .returned (.int .i64 (lexC [a.1, a.2] [b.1, b.2])) ∧ ∃ q, w' = ((w.alloc (.cells #[.int .i64 a.1, .int .i64 a.2] 71)).alloc (.cells #[.int .i64 b.1, .int .i64 b.2] 71)).drewN q := by
  have hlit : ∀ (u : World) (H : Nat) (p : Int × Int), I64 p.1 ∧ I64 p.2 → u.heap.size = H → Ints (u.alloc (.cells #[.int .i64 p.1, .int .i64 p.2] 71)) (.slice (some ⟨H, 0, none⟩) 2 2) [p.1, p.2] := fun u H p hp hH => by
    refine Ints.lit hH rfl rfl rfl ?_ (by simp)
    intro x hx
    simp at hx
    rcases hx with rfl | rfl
    · exact hp.1
    · exact hp.2
  have i1 := (hlit w _ a ha rfl).alloc (.cells #[.int .i64 b.1, .int .i64 b.2] 71)
  have i2 := hlit (w.alloc (.cells #[.int .i64 a.1, .int .i64 a.2] 71)) (w.heap.size + 1) b hb (by simp)
  go_enter Try.func33, Try.ntmps33
  go_wp2_with fail
  go_quiet ((go_at_call 34; exact Calls.quiet_of_same (same_quiet (SCompare_calls _ _ [a.1, a.2] [b.1, b.2] _ (i1.gr ((Gr.refl _).drewN _)) (i2.gr ((Gr.refl _).drewN _))))))
  go_wp2_with fail
  go_ret
  exact ⟨rfl, _, rfl⟩
set_option maxHeartbeats 1000000 in
theorem union_calls (u v : Value) (xs ys : List Int) (w : World) (hu : Ints w u xs) (hv : Ints w v ys) (hl : xs.length + ys.length ≤ 1000000) :
    Calls Try.prog 35 #[u, v] w fun e w' => ∃ v', e = .returned v' ∧ Ints w' v' (Go.Lib.compact (sortI (xs ++ ys))) ∧ Gr w w' := by
  have hfl : [xs, ys].flatten.length ≤ 17592186044416 := by simp; omega
  have hfe : [xs, ys].flatten = xs ++ ys := by simp
  obtain ⟨ua, uc, rfl, _, _⟩ := hu.len
  obtain ⟨va, vc, rfl, _, _⟩ := hv.len
  have M := fun H (hH : w.heap.size = H) => Mat.lit2 (t := 25) hH hu hv
  obtain ⟨L, hL⟩ : ∃ L, L = xs ++ ys := ⟨_, rfl⟩
  have hll : L.length ≤ 1000000 := by rw [hL, List.length_append]; exact hl
  rw [← hL]
  rw [← hL] at hfe
  clear hL
  go_enter Try.func35, Try.ntmps35
  go_wp2_with fail
  refine (Concat_calls _ [xs, ys] _ (M _ rfl) hfl).mono ?_
  rintro _ w1 ⟨v1, rfl, o1, g1⟩
  rw [hfe] at o1
  rw [World.size_alloc] at o1
  have G1 : Gr w w1 := ((Gr.refl _).alloc _).trans g1
  clear M g1 hu hv
  rcases o1.form with ⟨rfl, h0⟩ | ⟨g, cap, rfl, hb, hg, hc1, hc2⟩
  · subst h0
    go_wp2_with fail
    refine (Sort_nil (.slice none 0 0) _).mono ?_
    rintro _ w2 ⟨rfl, rfl⟩
    go_wp2_with fail
    refine (Try.slices_Compact_int_empty none 0 _).mono ?_
    rintro _ w3 ⟨rfl, rfl⟩
    go_wp2_with fail
    go_ret
    have e0 : Go.Lib.compact (sortI ([] : List Int)) = [] := List.eq_nil_of_length_eq_zero (by have h1 := compact_len (sortI ([] : List Int)); have h2 := (sortI_perm ([] : List Int)).length_eq; simp only [List.length_nil] at h2; omega)
    exact ⟨_, rfl, by rw [e0]; exact Ints.nil _, G1⟩
  · clear hfe
    have hs : (sortI L).length = L.length := (sortI_perm L).length_eq
    go_wp2_with fail
    refine (Sort_calls g cap _ L _ o1 (by omega)).mono ?_
    rintro _ w2 ⟨rfl, o2, g2⟩
    have G2 := G1.grown g2 (fun k hk => by cases hk; omega)
    go_wp2_with fail
    have CC := Compact_calls (.slice (some ⟨g, 0, none⟩) L.length cap) _ (sortI L) w2 o2 (by omega)
    refine CC.mono ?_
    rintro _ w3 ⟨v3, rfl, o3, _, g3⟩
    go_wp2_with fail
    go_ret
    exact ⟨_, rfl, o3.ints, G2.grown g3 (fun k hk => by have := own_eq hk; omega)⟩
end Go.Proofs.Ytkanaoebpajbfaa
