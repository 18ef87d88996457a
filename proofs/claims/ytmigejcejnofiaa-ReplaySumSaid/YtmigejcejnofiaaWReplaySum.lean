/- The call ReplaySum answers true at any net and trace that read as data (lists of at most 17592186043904 elements); nothing that lay there turns. -/
import Derived.Test.YtmigejcejnofiaaAlive20
import Derived.Test.YtmigejcejnofiaaReplLaw2
namespace Go.Proofs.Ytmigejcejnofiaa
open Go.RowKit Go.Tok
set_option linter.unusedVariables false

set_option maxHeartbeats 4000000 in
set_option maxRecDepth 100000 in
theorem ReplaySum_walk {v s : Value} {N : NetD} {i o : Int} {seq : List Int} (w : World) (hN : NetR w v N) (hi : I64 i) (ho : I64 o) (h2 : Ints w s seq ∧ seq.length ≤ 17592186043904) :
    Calls Try.prog 4 #[v, .int .i64 i, .int .i64 o, s] w fun e w' => e = .returned (.bool true) ∧ Gr w w' := by
  obtain ⟨hs, ls⟩ := h2
  have hN' := hN
  obtain ⟨a, cap, rfl, hnl, hncap, hpl, hT⟩ := hN.open_
  have hpl1 := hpl.1
  have hpl2 := hpl.2
  obtain ⟨sa, sc, rfl, sl, sl'⟩ := hs.len
  rcases hr : replF N i o seq with ⟨r, e⟩
  have HR := Lib.hid hr
  by_cases he : e = 0
  · subst he
    have hO := repl_ok hr
    obtain ⟨P, T, L, F⟩ := r
    have h1 := hO.put.1
    have h2 := hO.put.2
    have h3 := hO.taken.1
    have h4 := hO.taken.2
    have h5 := hO.lacked.1
    have h6 := hO.lacked.2
    have h7 := hO.left.1
    have h8 := hO.left.2
    have h9 := hO.sum
    simp only [] at h1 h2 h3 h4 h5 h6 h7 h8 h9
    have q1 : (P + L == T + F) = true := by simpa using h9
    obtain ⟨m, hm0, hmin⟩ : ∃ m : Int, 0 ≤ m ∧ ∀ w, (Builtin.min_ #[3, 3, 3, 3] 3 #[.int .i64 P, .int .i64 T, .int .i64 L, .int .i64 F]).run Try.prog w = .ok (.int .i64 m) w := by
      refine ⟨_, ?_, fun w => by simp [Builtin.min_, Builtin.min2]; rfl⟩
      split <;> (try split) <;> (try split) <;> omega
    have q3 : 0 < P := by omega
    have q4 : 0 < T := by omega
    clear hO hr h9
    go_enter Try.func4, Try.ntmps4
    go_wp2_with fail
    refine (alive20_calls _).mono ?_
    rintro _ w1 ⟨rfl, g1⟩
    have B0 := box_cell g1 (i := 0) rfl
    have B1 := box_cell g1 (i := 1) rfl
    go_wp2_with fail
    refine (Replay_calls _ _ N i o seq _ (by (repeat (first | assumption | refine NetR.gr ?_ (show Gr _ _ from by assumption) | apply NetR.alloc | apply NetR.drew))) hi ho (by (repeat (first | assumption | exact Ints.nil _ | (refine Ints.lit ?_ rfl rfl rfl ?_ ?_; ((focus (simp; done))); all_goals decide) | apply Ints.alloc | apply Ints.drew | refine Ints.gr ?_ (show Gr _ _ from by assumption)))) (by omega)).mono ?_
    rw [HR.out]; rintro _ w2 ⟨rfl, g2⟩
    go_wp2_with fail
    go_ret
    exact ⟨rfl, by (repeat (first | exact Gr.refl _ | assumption | apply Gr.alloc | apply Gr.drew | apply Gr.drewN | refine Gr.trans ?_ (by assumption)))⟩
  · have hz : r = zeroP := by
      rcases repl_cases N i o seq with ⟨e', h1, _⟩ | ⟨_, _, _, _, _, _, _, _, _, h1⟩
      · rw [hr] at h1; cases h1; rfl
      · rw [hr] at h1; cases h1; exact absurd rfl he
    subst hz
    have q1 : (e != 0) = true := by simpa using he
    clear hr he
    go_enter Try.func4, Try.ntmps4
    go_wp2_with fail
    refine (alive20_calls _).mono ?_
    rintro _ w1 ⟨rfl, g1⟩
    have B0 := box_cell g1 (i := 0) rfl
    have B1 := box_cell g1 (i := 1) rfl
    go_wp2_with fail
    refine (Replay_calls _ _ N i o seq _ (by (repeat (first | assumption | refine NetR.gr ?_ (show Gr _ _ from by assumption) | apply NetR.alloc | apply NetR.drew))) hi ho (by (repeat (first | assumption | exact Ints.nil _ | (refine Ints.lit ?_ rfl rfl rfl ?_ ?_; ((focus (simp; done))); all_goals decide) | apply Ints.alloc | apply Ints.drew | refine Ints.gr ?_ (show Gr _ _ from by assumption)))) (by omega)).mono ?_
    rw [HR.out]; rintro _ w2 ⟨rfl, g2⟩
    go_wp2_with fail
    go_ret
    exact ⟨rfl, by (repeat (first | exact Gr.refl _ | assumption | apply Gr.alloc | apply Gr.drew | apply Gr.drewN | refine Gr.trans ?_ (by assumption)))⟩
end Go.Proofs.Ytmigejcejnofiaa
