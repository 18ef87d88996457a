/- The walk of ChoiceBlocks: at every block it answers true. -/
import Derived.Test.YtajmccjnoejmfaaWGrowFree
import Derived.Test.YtajmccjnoejmfaaAlive14
namespace Go.Proofs.Ytajmccjnoejmfaa
open Go.RowKit Go.Tok
set_option linter.unusedVariables false
theorem growN_freeN {n : Nat} {b : BlockD} {w : World} {v : Value} {N : NetD} (hr : BlockR n w v b) (h : growN (n + 1) b = (N, 0)) : freeN N = true := by
  obtain ⟨hok, hf⟩ := growN_free hr h
  unfold freeN freeB
  rw [hok, Bool.true_and, List.all_eq_true]
  intro i hi
  rw [List.all_eq_true]
  intro j hj
  have hi' : i < N.trans.length := List.mem_range.1 hi
  have hj' : j < i := List.mem_range.1 hj
  cases hs : sharesB (N.tr i) (N.tr j)
  · rfl
  · obtain ⟨p, _, h1, h2⟩ := shares_iff.1 hs
    simp [hf i j p hi' (by omega) h1 h2]
set_option maxHeartbeats 8000000 in
set_option maxRecDepth 100000 in
theorem ChoiceBlocks_walk {v : Value} {x : Nat × BlockD} (w : World) (h : BlockR x.1 w v x.2) : Calls Try.prog 9 #[v] w fun e w' => e = .returned (.bool true) ∧ Gr w w' := by
  obtain ⟨_, _, ba, bc, rfl, _, _, hK⟩ := h.open_
  have h0 := h
  have b0 : Blk (w.alloc (.cells #[.int .i64 x.2.kind, .int .i64 x.2.label, .slice ba x.2.kids.length bc] 24)) w.heap.size 24 #[.int .i64 x.2.kind, .int .i64 x.2.label, .slice ba x.2.kids.length bc] := Blk.new rfl
  have GA : Gr w (w.alloc (.cells #[.int .i64 x.2.kind, .int .i64 x.2.label, .slice ba x.2.kids.length bc] 24)) := (Gr.refl _).alloc _
  rcases hg : growN (x.1 + 1) x.2 with ⟨N, e⟩
  have HGN := Lib.hid hg
  clear hg
  go_enter Try.func9, Try.ntmps9
  go_wp2_with fail
  refine (alive14_calls _).mono ?_
  rintro _ w1 ⟨rfl, g1⟩
  replace b0 := b0.gr g1
  have GB := GA.trans g1
  have c0 := b0.cell (i := 0) (v := .int .i64 x.2.kind) rfl
  have c1 := b0.cell (i := 1) (v := .int .i64 x.2.label) rfl
  have c2 := b0.cell (i := 2) (v := .slice ba x.2.kids.length bc) rfl
  go_wp2_with fail
  refine (Grow_calls x.1 _ x.2 _ (h.gr GB)).mono ?_
  rintro _ w2 hr
  obtain ⟨v2, rfl, hN, g2⟩ := hr.out
  rw [HGN.out] at hN ⊢
  simp only [] at hN ⊢
  obtain ⟨na, nc, rfl, hnl, hncap, hpl, hT⟩ := hN.open_
  have GC := GB.trans g2
  have nx : Blk (w2.alloc (.cells #[.int .i64 N.places, .slice na N.trans.length nc] 28)) w2.heap.size 28 #[.int .i64 N.places, .slice na N.trans.length nc] := Blk.new rfl
  have gx : Gr w2 (w2.alloc (.cells #[.int .i64 N.places, .slice na N.trans.length nc] 28)) := (Gr.refl _).alloc _
  have x0 := nx.cell (i := 0) (v := .int .i64 N.places) rfl
  have x1 := nx.cell (i := 1) (v := .slice na N.trans.length nc) rfl
  clear c0 c1 c2 b0 hr GA g1 g2
  have GN := GC.trans gx
  by_cases he : e = 0
  case neg =>
    have he1 : (e != 0) = true := by simpa using he
    have he2 : (e == 0) = false := by simpa using he
    clear he
    go_wp2_with fail
    go_ret
    exact ⟨rfl, GN⟩
  subst he
  have hF := growN_freeN h0 HGN.out
  go_wp2_with fail
  refine (Free_calls _ N _ (hN.gr gx)).mono ?_
  rintro _ w3 ⟨rfl, g3⟩
  rw [hF]
  go_wp2_with fail
  go_ret
  exact ⟨rfl, GN.trans g3⟩
end Go.Proofs.Ytajmccjnoejmfaa
