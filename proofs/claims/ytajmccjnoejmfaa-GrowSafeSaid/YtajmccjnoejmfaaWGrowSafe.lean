/- The walk of GrowSafe: at every block and every sequence it answers true. -/
import Derived.Test.YtajmccjnoejmfaaWGrowFree
import Derived.Test.YtajmccjnoejmfaaGN
import Derived.Test.YtajmccjnoejmfaaGS
import Derived.Deep.RegionHeld3
namespace Go.Proofs.Ytajmccjnoejmfaa
open Go.RowKit Go.Tok
set_option linter.unusedVariables false
def over1 (x : Int) : Bool := decide (x > 1)
set_option maxRecDepth 100000 in
theorem GrowSafe1_answers : Answers Try.prog 18 #[] over1 := by
  intro W x hx
  by_cases h : x > 1
  · have HO := Lib.hid (show over1 x = true from decide_eq_true h)
    go_enter Try.func18, Try.ntmps18
    go_wp2
    go_ret
    exact ⟨ret_bool HO.out.symm, rfl⟩
  · have HO := Lib.hid (show over1 x = false from decide_eq_false h)
    go_enter Try.func18, Try.ntmps18
    go_wp2
    go_ret
    exact ⟨ret_bool HO.out.symm, rfl⟩
theorem growN_safe {n : Nat} {b : BlockD} {w : World} {v : Value} {N : NetD} {seq y : List Int} (hr : BlockR n w v b) (h : growN (n + 1) b = (N, 0)) (hy : runF N (oneN (startLen N) 0) seq = (y, 0)) : y.any over1 = false := by
  obtain ⟨s, h1, h2, rfl⟩ := growN_ok hr h
  have ok := grow_ok h1 h2
  have hlo := ok.lo
  have hok := grown_net ok
  have e1 : (netOf s).places = s.places := rfl
  rw [startLen_ok hok, e1] at hy
  have hz : ∀ p, nth (oneN s.places.toNat 0) p = if p = 0 then 1 else 0 := fun p => nth_oneN s.places.toNat 0 p (by omega)
  have := net_safe h1 h2 (m := oneN s.places.toNat 0) (by rw [oneN_len]; omega) (by rw [hz]; rfl) (fun p hp => by rw [hz, if_neg (by omega)]) hy
  rw [List.any_eq_false]
  intro k hk
  have := this k hk
  unfold over1
  simp; omega
set_option maxHeartbeats 8000000 in
set_option maxRecDepth 100000 in
theorem GrowSafe_walk {v z : Value} {x : Nat × BlockD} {seq : List Int} (w : World) (h : BlockR x.1 w v x.2) (h2 : Ints w z seq ∧ seq.length ≤ 17592186043904) : Calls Try.prog 4 #[v, z] w fun e w' => e = .returned (.bool true) ∧ Gr w w' := by
  have hs := h2.1
  obtain ⟨sa, sc, rfl, sl, sl'⟩ := hs.len
  have eg : ∀ args w, (callFunc 18 args).run Try.prog w = .ok (.enter 18 args) w := (Go.Proofs.enters_of Try.func18 (by kernel_rfl) rfl)
  obtain ⟨_, _, ba, bc, rfl, _, _, hK⟩ := h.open_
  have h0 := h
  have b0 : Blk (w.alloc (.cells #[.int .i64 x.2.kind, .int .i64 x.2.label, .slice ba x.2.kids.length bc] 24)) w.heap.size 24 #[.int .i64 x.2.kind, .int .i64 x.2.label, .slice ba x.2.kids.length bc] := Blk.new rfl
  have GA : Gr w (w.alloc (.cells #[.int .i64 x.2.kind, .int .i64 x.2.label, .slice ba x.2.kids.length bc] 24)) := (Gr.refl _).alloc _
  rcases hg : growN (x.1 + 1) x.2 with ⟨N, e⟩
  have HGN := Lib.hid hg
  clear hg
  go_enter Try.func4, Try.ntmps4
  go_wp2_with fail
  refine (alive11_calls _).mono ?_
  rintro _ w1 ⟨rfl, g1⟩
  replace b0 := b0.gr g1
  have GB := GA.trans g1
  have c0 := b0.cell (i := 0) (v := .int .i64 x.2.kind) rfl
  have c1 := b0.cell (i := 1) (v := .int .i64 x.2.label) rfl
  have c2 := b0.cell (i := 2) (v := .slice ba x.2.kids.length bc) rfl
  go_wp2_with fail
  refine (Grow_calls x.1 _ x.2 _ (h.gr GB)).mono ?_
  rintro _ w2 hr
  obtain ⟨v2, rfl, hN, g2⟩ := hr.out
  rw [HGN.out] at hN ⊢
  simp only [] at hN ⊢
  obtain ⟨na, nc, rfl, hnl, hncap, hpl, hT⟩ := hN.open_
  have GC := GB.trans g2
  have nx : Blk (w2.alloc (.cells #[.int .i64 N.places, .slice na N.trans.length nc] 28)) w2.heap.size 28 #[.int .i64 N.places, .slice na N.trans.length nc] := Blk.new rfl
  have gx : Gr w2 (w2.alloc (.cells #[.int .i64 N.places, .slice na N.trans.length nc] 28)) := (Gr.refl _).alloc _
  have x0 := nx.cell (i := 0) (v := .int .i64 N.places) rfl
  have x1 := nx.cell (i := 1) (v := .slice na N.trans.length nc) rfl
  clear c0 c1 c2 b0 hr GA g1 g2
  have GN : Gr w (w2.alloc (.cells #[.int .i64 N.places, .slice na N.trans.length nc] 28)) := GC.trans gx
  have K4 := hN.gr gx
  have K2 := hs.gr GN
  rcases hR : runF N (oneN (startLen N) 0) seq with ⟨y, f⟩
  have HR := Lib.hid hR
  clear hR h2
  go_wp2_with fail
  go_region_held3 (fun w' => w'.cell? ⟨w2.heap.size, 0, none⟩ = some (.int .i64 N.places) ∧ w'.cell? ⟨w2.heap.size, 1, none⟩ = some (.slice na N.trans.length nc)) (first | go_keep | ((refine ⟨cell_gr x0 ?_, cell_gr x1 ?_⟩); ((focus ((repeat (first | exact Gr.refl _ | assumption | apply Gr.alloc | apply Gr.drew | apply Gr.drewN | refine Gr.trans ?_ (by assumption))); done))); ((focus ((repeat (first | exact Gr.refl _ | assumption | apply Gr.alloc | apply Gr.drew | apply Gr.drewN | refine Gr.trans ?_ (by assumption))); done))))) (first | (go_at_call 16; (with_reducible refine (Start_calls _ N _ _ (K4.gr ?_) (show I64 0 by decide)).mono ?_); ((focus ((repeat (first | exact Gr.refl _ | assumption | apply Gr.alloc | apply Gr.drew | apply Gr.drewN | refine Gr.trans ?_ (by assumption))); done))); rintro _ w3 ⟨v3, rfl, o3, g3⟩) | (go_at_call 15; (with_reducible refine (Run_calls _ _ _ N _ seq _ (K4.gr ?_) (o3.ints.gr ?_) (K2.gr ?_)).mono ?_); ((focus ((repeat (first | exact Gr.refl _ | assumption | apply Gr.alloc | apply Gr.drew | apply Gr.drewN | refine Gr.trans ?_ (by assumption))); done))); ((focus ((repeat (first | exact Gr.refl _ | assumption | apply Gr.alloc | apply Gr.drew | apply Gr.drewN | refine Gr.trans ?_ (by assumption))); done))); ((focus ((repeat (first | exact Gr.refl _ | assumption | apply Gr.alloc | apply Gr.drew | apply Gr.drewN | refine Gr.trans ?_ (by assumption))); done))); rw [HR.out]; rintro _ w4 ⟨v4, rfl, i4, g4⟩))
  obtain ⟨ya, yc, rfl, _, _⟩ := i4.len
  have GF : Gr w w4 := by (repeat (first | exact Gr.refl _ | assumption | apply Gr.alloc | apply Gr.drew | apply Gr.drewN | refine Gr.trans ?_ (by assumption)))
  by_cases he : e = 0
  case neg =>
    have he1 : (e != 0) = true := by simpa using he
    have he2 : (e == 0) = false := by simpa using he
    clear he
    go_wp2_with fail
    go_ret
    exact ⟨rfl, GF⟩
  subst he
  by_cases hf : f = 0
  case neg =>
    have hf1 : (f != 0) = true := by simpa using hf
    have hf2 : (f == 0) = false := by simpa using hf
    clear hf
    go_wp2_with fail
    go_ret
    exact ⟨rfl, GF⟩
  subst hf
  have hA := growN_safe h0 HGN.out HR.out
  go_wp2_with fail
  refine (ContainsFunc_calls _ y _ _ over1 _ eg i4 GrowSafe1_answers).mono ?_
  rintro _ w5 ⟨rfl, rfl⟩
  rw [hA]
  go_wp2_with fail
  go_ret
  exact ⟨rfl, GF⟩
end Go.Proofs.Ytajmccjnoejmfaa
