/- The walk of ReduceBlocks: at every block it answers true. -/
import Derived.Test.YtjpapgbdhflgnaaWGrowFree
import Derived.Test.YtjpapgbdhflgnaaPlainW
import Derived.Test.YtjpapgbdhflgnaaAlive13
namespace Go.Proofs.Ytjpapgbdhflgnaa
open Go.RowKit Go.Tok
set_option linter.unusedVariables false
theorem growN_shape {n : Nat} {b : BlockD} {w : World} {v : Value} {N : NetD} (hr : BlockR n w v b) (h : growN (n + 1) b = (N, 0)) : shapeC N 0 1 = 0 ∧ (plainF (n + 1) b = true → (reduceF ⟨N, 0, 1⟩).1.i = 0 ∧ (reduceF ⟨N, 0, 1⟩).1.o = 1 ∧ (reduceF ⟨N, 0, 1⟩).1.net.places = 2 ∧ (reduceF ⟨N, 0, 1⟩).1.net.trans.length = 1) := by
  obtain ⟨s, h1, h2, rfl⟩ := growN_ok hr h
  have ok := grow_ok h1 h2
  obtain ⟨A, hA⟩ := grown_sound h1 h2
  exact ⟨grown_shape ok hA, fun hp => reduce_plain (grown_spn ok h1 (plainB_of hp) h2)⟩
set_option maxHeartbeats 8000000 in
set_option maxRecDepth 100000 in
theorem ReduceBlocks_walk {v : Value} {x : Nat × BlockD} (w : World) (h : BlockR x.1 w v x.2) : Calls Try.prog 3 #[v] w fun e w' => e = .returned (.bool true) ∧ Gr w w' := by
  obtain ⟨_, _, ba, bc, rfl, _, _, hK⟩ := h.open_
  have h0 := h
  have b0 : Blk (w.alloc (.cells #[.int .i64 x.2.kind, .int .i64 x.2.label, .slice ba x.2.kids.length bc] 24)) w.heap.size 24 #[.int .i64 x.2.kind, .int .i64 x.2.label, .slice ba x.2.kids.length bc] := Blk.new rfl
  have GA : Gr w (w.alloc (.cells #[.int .i64 x.2.kind, .int .i64 x.2.label, .slice ba x.2.kids.length bc] 24)) := (Gr.refl _).alloc _
  rcases hg : growN (x.1 + 1) x.2 with ⟨N, e⟩
  have HGN := Lib.hid hg
  clear hg
  go_enter Try.func3, Try.ntmps3
  go_wp2_with fail
  refine (alive13_calls _).mono ?_
  rintro _ w1 ⟨rfl, g1⟩
  replace b0 := b0.gr g1
  have GB := GA.trans g1
  have c0 := b0.cell (i := 0) (v := .int .i64 x.2.kind) rfl
  have c1 := b0.cell (i := 1) (v := .int .i64 x.2.label) rfl
  have c2 := b0.cell (i := 2) (v := .slice ba x.2.kids.length bc) rfl
  go_wp2_with fail
  refine (Grow_calls x.1 _ x.2 _ (h.gr GB)).mono ?_
  rintro _ w2 hr
  obtain ⟨v2, rfl, hN, g2⟩ := hr.out
  rw [HGN.out] at hN ⊢
  simp only [] at hN ⊢
  obtain ⟨na, nc, rfl, hnl, hncap, hpl, hT⟩ := hN.open_
  have nx : Blk (w2.alloc (.cells #[.int .i64 N.places, .slice na N.trans.length nc] 28)) w2.heap.size 28 #[.int .i64 N.places, .slice na N.trans.length nc] := Blk.new rfl
  have gx : Gr w2 (w2.alloc (.cells #[.int .i64 N.places, .slice na N.trans.length nc] 28)) := (Gr.refl _).alloc _
  have x0 := nx.cell (i := 0) (v := .int .i64 N.places) rfl
  have x1 := nx.cell (i := 1) (v := .slice na N.trans.length nc) rfl
  replace c0 := cell_gr (cell_gr c0 g2) gx
  replace c1 := cell_gr (cell_gr c1 g2) gx
  replace c2 := cell_gr (cell_gr c2 g2) gx
  have GN := (GB.trans g2).trans gx
  replace hN := hN.gr gx
  clear b0 hr GA GB g1 g2 nx hnl hncap hT
  by_cases he : e = 0
  case neg =>
    have he1 : (e != 0) = true := by simpa using he
    clear he
    go_wp2_with fail
    go_ret
    exact ⟨rfl, GN⟩
  subst he
  obtain ⟨hsh, hpl2⟩ := growN_shape h0 HGN.out
  have HSh := Lib.hid hsh
  have HPl := Lib.hid hpl2
  clear hsh hpl2
  go_wp2_with fail
  refine (plain_calls x.1 _ x.2 _ (h.gr GN)).mono ?_
  rintro _ w3 ⟨rfl, g3⟩
  replace x0 := cell_gr x0 g3
  replace x1 := cell_gr x1 g3
  replace hN := hN.gr g3
  replace GN := GN.trans g3
  clear g3 gx
  cases hp : plainF (x.1 + 1) x.2
  · go_wp2_with fail
    go_ret
    exact ⟨rfl, GN⟩
  have HP := Lib.hid (HPl.out hp)
  go_wp2_with fail
  refine (Reduce_calls _ N 0 1 _ hN (by decide) (by decide)).mono ?_
  rintro _ w4 hr
  obtain ⟨v4, y1, y2, y3, y4, rfl, g4, hc⟩ := hr.out
  obtain ⟨rfl, hM, e1, e2, _⟩ : y4 = 0 ∧ NetR w4 v4 (reduceF ⟨N, 0, 1⟩).1.net ∧ y1 = (reduceF ⟨N, 0, 1⟩).1.i ∧ y2 = (reduceF ⟨N, 0, 1⟩).1.o ∧ y3 = ((reduceF ⟨N, 0, 1⟩).2 : Nat) := by
    rcases hc with ⟨h1, _, h2, h3, h4, h5⟩ | ⟨_, h1, _⟩
    · exact ⟨h1, h2, h3, h4, h5⟩
    · exact absurd HSh.out h1
  obtain ⟨p1, p2, p3, p4⟩ := HP.out
  obtain rfl : y1 = 0 := e1.trans p1
  obtain rfl : y2 = 1 := e2.trans p2
  obtain ⟨ma, mc, rfl, hm1, hm2, _, _⟩ := hM.open_
  rw [p3, p4]
  clear hr hc hM e1 e2 p1 p2 p3 p4 hm1 hm2 HP
  have GZ := GN.trans g4
  clear g4 GN
  go_wp2_with fail
  go_ret
  exact ⟨rfl, (GZ.alloc _).alloc _⟩
end Go.Proofs.Ytjpapgbdhflgnaa
