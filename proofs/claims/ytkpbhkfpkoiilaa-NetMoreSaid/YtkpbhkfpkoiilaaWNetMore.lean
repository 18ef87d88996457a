/- The call NetMore answers true at any net, markings and sequence that read as data (lists of at most 17592186043904 elements each); nothing that lay there turns. -/
import Derived.Test.YtkpbhkfpkoiilaaAlive2
import Derived.Test.YtkpbhkfpkoiilaaNetLaw
namespace Go.Proofs.Ytkpbhkfpkoiilaa
open Go.RowKit Go.Tok
set_option linter.unusedVariables false

def MoreUpto (m more : List Int) (k : Nat) : Prop := ∀ p, p < k → nth m p ≤ 400000 ∧ nth more p ≤ 400000 ∧ 0 ≤ nth more p
theorem MoreUpto.zero (m more : List Int) : MoreUpto m more 0 := fun p hp => by omega
theorem MoreUpto.succ {m more : List Int} {k : Nat} (h : MoreUpto m more k) (h1 : nth m k ≤ 400000) (h2 : nth more k ≤ 400000) (h3 : 0 ≤ nth more k) : MoreUpto m more (k + 1) := fun p hp => by
  rcases Nat.lt_or_ge p k with h4 | h4
  · exact h p h4
  · obtain rfl : p = k := by omega
    exact ⟨h1, h2, h3⟩
theorem MoreUpto.all {m more : List Int} {k : Nat} (h : MoreUpto m more k) (hk : m.length ≤ k) : ∀ p, p < m.length → nth m p ≤ 400000 ∧ nth more p ≤ 400000 ∧ 0 ≤ nth more p := fun p hp => h p (by omega)
attribute [irreducible] MoreUpto

set_option maxHeartbeats 4000000 in
set_option maxRecDepth 100000 in
theorem NetMore_calls (v u z s : Value) (N : NetD) (m more seq : List Int) (w : World) (hN : NetR w v N) (hu : Ints w u m) (hz : Ints w z more) (hs : Ints w s seq) (lm : m.length ≤ 17592186043904) (lz : more.length ≤ 17592186043904) :
    Calls Try.prog 9 #[v, u, z, s] w fun e w' => e = .returned (.bool true) ∧ Gr w w' := by
  have hN' := hN
  obtain ⟨a, cap, rfl, hnl, hncap, hpl, hT⟩ := hN.open_
  have hpl1 := hpl.1
  have hpl2 := hpl.2
  obtain ⟨ua, uc, rfl, ul, ul'⟩ := hu.len
  obtain ⟨za, zc, rfl, zl, zl'⟩ := hz.len
  obtain ⟨sa, sc, rfl, sl, sl'⟩ := hs.len
  by_cases h1 : more.length = m.length
  case neg =>
    have q1 : ((more.length : Int) != m.length) = true := by simp; omega
    go_enter Try.func9, Try.ntmps9
    go_wp2_with fail
    refine (alive2_calls _).mono ?_
    rintro _ w1 ⟨rfl, g1⟩
    go_wp2_with fail
    go_ret
    exact ⟨rfl, by (repeat (first | exact Gr.refl _ | assumption | apply Gr.alloc | apply Gr.drew | apply Gr.drewN | refine Gr.trans ?_ (by assumption)))⟩
  have q1 : ((more.length : Int) != m.length) = false := by simp; omega
  have H1 := Lib.hid h1
  clear h1
  by_cases h2 : 1000 < seq.length
  case pos =>
    go_enter Try.func9, Try.ntmps9
    go_wp2_with fail
    refine (alive2_calls _).mono ?_
    rintro _ w1 ⟨rfl, g1⟩
    go_wp2_with fail
    go_ret
    exact ⟨rfl, by (repeat (first | exact Gr.refl _ | assumption | apply Gr.alloc | apply Gr.drew | apply Gr.drewN | refine Gr.trans ?_ (by assumption)))⟩
  have h2 : seq.length ≤ 1000 := by omega
  go_enter Try.func9, Try.ntmps9
  go_wp2_with fail
  refine (alive2_calls _).mono ?_
  rintro _ w1 ⟨rfl, g1⟩
  go_wp2_with fail
  have g1' := box_gr g1
  have j1 : Ints w1 (.slice ua m.length uc) m := by (repeat (first | assumption | exact Ints.nil _ | (refine Ints.lit ?_ rfl rfl rfl ?_ ?_; ((focus (simp; done))); all_goals decide) | apply Ints.alloc | apply Ints.drew | refine Ints.gr ?_ (show Gr _ _ from by assumption)))
  have j2 : Ints w1 (.slice za more.length zc) more := by (repeat (first | assumption | exact Ints.nil _ | (refine Ints.lit ?_ rfl rfl rfl ?_ ?_; ((focus (simp; done))); all_goals decide) | apply Ints.alloc | apply Ints.drew | refine Ints.gr ?_ (show Gr _ _ from by assumption)))
  go_loop [32] (fun i => ∃ k : Nat, k ≤ m.length ∧ i = .int .i64 k ∧ MoreUpto m more k) (fun i => m.length - (intOf i).toNat)
  case atStart => exact ⟨0, Nat.zero_le _, rfl, MoreUpto.zero _ _⟩
  case round =>
    obtain ⟨k, hk, rfl, hall⟩ := hrel
    by_cases hlt : k < m.length
    · have hlt2 : k < more.length := by rw [H1.out]; exact hlt
      obtain ⟨b, o, rfl, c1⟩ := j1.cell hlt
      obtain ⟨b', o', rfl, c2⟩ := j2.cell hlt2
      by_cases t1 : 400000 < nth m k
      · go_wp2_with fail
        go_ret
        exact ⟨rfl, by (repeat (first | exact Gr.refl _ | assumption | apply Gr.alloc | apply Gr.drew | apply Gr.drewN | refine Gr.trans ?_ (by assumption)))⟩
      by_cases t2 : 400000 < nth more k
      · have t1' : nth m k ≤ 400000 := by omega
        go_wp2_with fail
        go_ret
        exact ⟨rfl, by (repeat (first | exact Gr.refl _ | assumption | apply Gr.alloc | apply Gr.drew | apply Gr.drewN | refine Gr.trans ?_ (by assumption)))⟩
      by_cases t3 : nth more k < 0
      · have t1' : nth m k ≤ 400000 := by omega
        have t2' : nth more k ≤ 400000 := by omega
        go_wp2_with fail
        go_ret
        exact ⟨rfl, by (repeat (first | exact Gr.refl _ | assumption | apply Gr.alloc | apply Gr.drew | apply Gr.drewN | refine Gr.trans ?_ (by assumption)))⟩
      have t1' : nth m k ≤ 400000 := by omega
      have t2' : nth more k ≤ 400000 := by omega
      have t3' : 0 ≤ nth more k := by omega
      clear t1 t2 t3
      go_wp2_with fail
      go_round
      case rel => exact ⟨k + 1, by omega, by go_num, hall.succ t1' t2' t3'⟩
      case measure => simp [intOf]; omega
    · have B0 := box_cell g1 (i := 0) rfl
      have B1 := box_cell g1 (i := 1) rfl
      rcases hr : runF N m seq with ⟨x, e⟩
      have HR := Lib.hid hr
      by_cases he : e = 0
      · subst he
        obtain ⟨big, y, m1, m2, m3⟩ := net_more hr H1.out h2 (hall.all (by omega))
        have lx : x.length ≤ 17592186043904 := by
          obtain ⟨f1, f2⟩ := runF_of hr
          have := (fits_sizes (f2.fits f1)).2.2.2.1
          omega
        have M1 := Lib.hid m1
        have M2 := Lib.hid m2
        have M3 := Lib.hid m3
        have e1 := eqB_yes (rfl : y = y)
        clear hr m1 m2 m3
        go_wp2_with fail
        refine (Run_calls _ _ _ N m seq _ (by (repeat (first | assumption | refine NetR.gr ?_ (show Gr _ _ from by assumption) | apply NetR.alloc | apply NetR.drew))) (by (repeat (first | assumption | exact Ints.nil _ | (refine Ints.lit ?_ rfl rfl rfl ?_ ?_; ((focus (simp; done))); all_goals decide) | apply Ints.alloc | apply Ints.drew | refine Ints.gr ?_ (show Gr _ _ from by assumption)))) (by (repeat (first | assumption | exact Ints.nil _ | (refine Ints.lit ?_ rfl rfl rfl ?_ ?_; ((focus (simp; done))); all_goals decide) | apply Ints.alloc | apply Ints.drew | refine Ints.gr ?_ (show Gr _ _ from by assumption))))).mono ?_
        rw [HR.out]; rintro _ w2 ⟨v2, rfl, i2, g2⟩
        replace B0 : w2.cell? ⟨w.heap.size, 0, none⟩ = some (.int .i64 N.places) := by (repeat (first | (refine lit_at ?_ rfl; (focus (simp; done))) | assumption | refine cell_gr ?_ (show Gr _ _ from by assumption) | refine cell_gr ?_ ((Gr.refl _).alloc _)))
        replace B1 : w2.cell? ⟨w.heap.size, 1, none⟩ = some (.slice a N.trans.length cap) := by (repeat (first | (refine lit_at ?_ rfl; (focus (simp; done))) | assumption | refine cell_gr ?_ (show Gr _ _ from by assumption) | refine cell_gr ?_ ((Gr.refl _).alloc _)))
        go_wp2_with fail
        refine (Plus_calls _ _ m more _ (by (repeat (first | assumption | exact Ints.nil _ | (refine Ints.lit ?_ rfl rfl rfl ?_ ?_; ((focus (simp; done))); all_goals decide) | apply Ints.alloc | apply Ints.drew | refine Ints.gr ?_ (show Gr _ _ from by assumption)))) (by (repeat (first | assumption | exact Ints.nil _ | (refine Ints.lit ?_ rfl rfl rfl ?_ ?_; ((focus (simp; done))); all_goals decide) | apply Ints.alloc | apply Ints.drew | refine Ints.gr ?_ (show Gr _ _ from by assumption)))) (by omega) (by omega)).mono ?_
        rw [M1.out]; rintro _ w3 ⟨v3, rfl, i3, g3⟩
        replace B0 : w3.cell? ⟨w.heap.size, 0, none⟩ = some (.int .i64 N.places) := by (repeat (first | (refine lit_at ?_ rfl; (focus (simp; done))) | assumption | refine cell_gr ?_ (show Gr _ _ from by assumption) | refine cell_gr ?_ ((Gr.refl _).alloc _)))
        replace B1 : w3.cell? ⟨w.heap.size, 1, none⟩ = some (.slice a N.trans.length cap) := by (repeat (first | (refine lit_at ?_ rfl; (focus (simp; done))) | assumption | refine cell_gr ?_ (show Gr _ _ from by assumption) | refine cell_gr ?_ ((Gr.refl _).alloc _)))
        go_wp2_with fail
        refine (Run_calls _ _ _ N big seq _ (by (repeat (first | assumption | refine NetR.gr ?_ (show Gr _ _ from by assumption) | apply NetR.alloc | apply NetR.drew))) (by (repeat (first | assumption | exact Ints.nil _ | (refine Ints.lit ?_ rfl rfl rfl ?_ ?_; ((focus (simp; done))); all_goals decide) | apply Ints.alloc | apply Ints.drew | refine Ints.gr ?_ (show Gr _ _ from by assumption)))) (by (repeat (first | assumption | exact Ints.nil _ | (refine Ints.lit ?_ rfl rfl rfl ?_ ?_; ((focus (simp; done))); all_goals decide) | apply Ints.alloc | apply Ints.drew | refine Ints.gr ?_ (show Gr _ _ from by assumption))))).mono ?_
        rw [M2.out]; rintro _ w4 ⟨v4, rfl, i4, g4⟩
        go_wp2_with fail
        refine (Plus_calls _ _ x more _ (by (repeat (first | assumption | exact Ints.nil _ | (refine Ints.lit ?_ rfl rfl rfl ?_ ?_; ((focus (simp; done))); all_goals decide) | apply Ints.alloc | apply Ints.drew | refine Ints.gr ?_ (show Gr _ _ from by assumption)))) (by (repeat (first | assumption | exact Ints.nil _ | (refine Ints.lit ?_ rfl rfl rfl ?_ ?_; ((focus (simp; done))); all_goals decide) | apply Ints.alloc | apply Ints.drew | refine Ints.gr ?_ (show Gr _ _ from by assumption)))) (by omega) (by omega)).mono ?_
        rw [M3.out]; rintro _ w5 ⟨v5, rfl, i5, g5⟩
        go_wp2_with fail
        refine (Equal_calls _ _ y y _ (by (repeat (first | assumption | exact Ints.nil _ | (refine Ints.lit ?_ rfl rfl rfl ?_ ?_; ((focus (simp; done))); all_goals decide) | apply Ints.alloc | apply Ints.drew | refine Ints.gr ?_ (show Gr _ _ from by assumption)))) (by (repeat (first | assumption | exact Ints.nil _ | (refine Ints.lit ?_ rfl rfl rfl ?_ ?_; ((focus (simp; done))); all_goals decide) | apply Ints.alloc | apply Ints.drew | refine Ints.gr ?_ (show Gr _ _ from by assumption))))).mono ?_
        rw [e1]; rintro _ w6 ⟨rfl, g6⟩
        go_wp2_with fail
        go_ret
        exact ⟨rfl, by (repeat (first | exact Gr.refl _ | assumption | apply Gr.alloc | apply Gr.drew | apply Gr.drewN | refine Gr.trans ?_ (by assumption)))⟩
      · obtain ⟨rfl, _⟩ := runF_bad hr he
        have q2 : (e != 0) = true := by simpa using he
        clear hr he
        go_wp2_with fail
        refine (Run_calls _ _ _ N m seq _ (by (repeat (first | assumption | refine NetR.gr ?_ (show Gr _ _ from by assumption) | apply NetR.alloc | apply NetR.drew))) (by (repeat (first | assumption | exact Ints.nil _ | (refine Ints.lit ?_ rfl rfl rfl ?_ ?_; ((focus (simp; done))); all_goals decide) | apply Ints.alloc | apply Ints.drew | refine Ints.gr ?_ (show Gr _ _ from by assumption)))) (by (repeat (first | assumption | exact Ints.nil _ | (refine Ints.lit ?_ rfl rfl rfl ?_ ?_; ((focus (simp; done))); all_goals decide) | apply Ints.alloc | apply Ints.drew | refine Ints.gr ?_ (show Gr _ _ from by assumption))))).mono ?_
        rw [HR.out]; rintro _ w2 ⟨v2, rfl, i2, g2⟩
        obtain ⟨a2, c2, rfl, q2, q2'⟩ := i2.len
        go_wp2_with fail
        go_ret
        exact ⟨rfl, by (repeat (first | exact Gr.refl _ | assumption | apply Gr.alloc | apply Gr.drew | apply Gr.drewN | refine Gr.trans ?_ (by assumption)))⟩

theorem NetMore_walk {v u z s : Value} {N : NetD} {m more seq : List Int} (w : World) (h0 : NetR w v N) (h1 : Ints w u m ∧ m.length ≤ 17592186043904) (h2 : Ints w z more ∧ more.length ≤ 17592186043904) (h3 : Ints w s seq ∧ seq.length ≤ 17592186043904) :
    Calls Try.prog 9 #[v, u, z, s] w fun e w' => e = .returned (.bool true) ∧ Gr w w' := NetMore_calls v u z s N m more seq w h0 h1.1 h2.1 h3.1 h1.2 h2.2
end Go.Proofs.Ytkpbhkfpkoiilaa
