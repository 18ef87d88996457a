/- The walk of GrowSound: at every block it answers true. -/
import Derived.Test.YtajmccjnoejmfaaWGrowFree
import Derived.Test.YtajmccjnoejmfaaGrowLaw6
import Derived.Test.YtajmccjnoejmfaaGU
namespace Go.Proofs.Ytajmccjnoejmfaa
open Go.RowKit Go.Tok
set_option linter.unusedVariables false
theorem growN_err {n : Nat} {b : BlockD} {N : NetD} {e : Int} (h : growN (n + 1) b = (N, e)) (he : e ≠ 0) : wrongB (n + 1) b = e ∨ e = 4 := by
  unfold growN at h
  split at h
  · cases hf : growF (n + 1) b 0 1 ⟨2, []⟩ with
    | none => rw [hf] at h; exact .inr (Prod.mk.inj h).2.symm
    | some s => rw [hf] at h; exact absurd (Prod.mk.inj h).2.symm he
  · exact .inl (Prod.mk.inj h).2
theorem growN_sound {n : Nat} {b : BlockD} {w : World} {v : Value} {N : NetD} {d : VerdD} {f : Int} (hr : BlockR n w v b) (h : growN (n + 1) b = (N, 0)) (hj : judgeF N 0 1 300 = (d, f)) : shapeC N 0 1 = 0 ∧ (f = 4 ∨ f = 0 ∧ d.kind = 1) := by
  obtain ⟨s, h1, h2, rfl⟩ := growN_ok hr h
  have ok := grow_ok h1 h2
  obtain ⟨A, hA⟩ := grown_sound h1 h2
  exact ⟨grown_shape ok hA, grown_judge ok hA hj⟩
set_option maxHeartbeats 8000000 in
set_option maxRecDepth 100000 in
theorem GrowSound_walk {v : Value} {x : Nat × BlockD} (w : World) (h : BlockR x.1 w v x.2) : Calls Try.prog 7 #[v] w fun e w' => e = .returned (.bool true) ∧ Gr w w' := by
  obtain ⟨_, _, ba, bc, rfl, _, _, hK⟩ := h.open_
  have h0 := h
  have b0 : Blk (w.alloc (.cells #[.int .i64 x.2.kind, .int .i64 x.2.label, .slice ba x.2.kids.length bc] 24)) w.heap.size 24 #[.int .i64 x.2.kind, .int .i64 x.2.label, .slice ba x.2.kids.length bc] := Blk.new rfl
  have GA : Gr w (w.alloc (.cells #[.int .i64 x.2.kind, .int .i64 x.2.label, .slice ba x.2.kids.length bc] 24)) := (Gr.refl _).alloc _
  rcases hg : growN (x.1 + 1) x.2 with ⟨N, e⟩
  have HGN := Lib.hid hg
  clear hg
  go_enter Try.func7, Try.ntmps7
  go_wp2_with fail
  refine (alive11_calls _).mono ?_
  rintro _ w1 ⟨rfl, g1⟩
  replace b0 := b0.gr g1
  have GB := GA.trans g1
  have c0 := b0.cell (i := 0) (v := .int .i64 x.2.kind) rfl
  have c1 := b0.cell (i := 1) (v := .int .i64 x.2.label) rfl
  have c2 := b0.cell (i := 2) (v := .slice ba x.2.kids.length bc) rfl
  go_wp2_with fail
  refine (Grow_calls x.1 _ x.2 _ (h.gr GB)).mono ?_
  rintro _ w2 hr
  obtain ⟨v2, rfl, hN, g2⟩ := hr.out
  rw [HGN.out] at hN ⊢
  simp only [] at hN ⊢
  obtain ⟨na, nc, rfl, hnl, hncap, hpl, hT⟩ := hN.open_
  have GC := GB.trans g2
  have nx : Blk (w2.alloc (.cells #[.int .i64 N.places, .slice na N.trans.length nc] 28)) w2.heap.size 28 #[.int .i64 N.places, .slice na N.trans.length nc] := Blk.new rfl
  have gx : Gr w2 (w2.alloc (.cells #[.int .i64 N.places, .slice na N.trans.length nc] 28)) := (Gr.refl _).alloc _
  have x0 := nx.cell (i := 0) (v := .int .i64 N.places) rfl
  have x1 := nx.cell (i := 1) (v := .slice na N.trans.length nc) rfl
  replace c0 := cell_gr (cell_gr c0 g2) gx
  replace c1 := cell_gr (cell_gr c1 g2) gx
  replace c2 := cell_gr (cell_gr c2 g2) gx
  clear b0 hr GA g1 g2
  have GN : Gr w (w2.alloc (.cells #[.int .i64 N.places, .slice na N.trans.length nc] 28)) := GC.trans gx
  by_cases he : e = 0
  case neg =>
    have he1 : (e != 0) = true := by simpa using he
    have he2 : (e == 0) = false := by simpa using he
    have hor := growN_err HGN.out he
    clear he
    go_wp2_with fail
    refine (BlocksWrong_calls x.1 _ x.2 _ (h.gr GN)).mono ?_
    rintro _ w3 ⟨rfl, g3⟩
    by_cases hq : e = wrongB (x.1 + 1) x.2
    · have hq1 : (e == wrongB (x.1 + 1) x.2) = true := beq_iff_eq.2 hq
      have hq2 : (e != wrongB (x.1 + 1) x.2) = false := by simp [hq]
      clear hq hor
      go_wp2_with fail
      go_ret
      exact ⟨rfl, GN.trans g3⟩
    · have hq1 : (e == wrongB (x.1 + 1) x.2) = false := beq_eq_false_iff_ne.2 hq
      obtain rfl : e = 4 := by
        rcases hor with h1 | h1
        · exact absurd h1.symm hq
        · exact h1
      clear hq hor
      go_wp2_with fail
      go_ret
      exact ⟨rfl, GN.trans g3⟩
  subst he
  rcases hj : judgeF N 0 1 300 with ⟨d, f⟩
  have hlaw := growN_sound h0 HGN.out hj
  obtain ⟨hsh, hv⟩ := hlaw
  have HJ := Lib.hid hj
  have HSh := Lib.hid hsh
  have HV := Lib.hid hv
  clear hj hsh hv
  go_wp2_with fail
  refine (Judge_calls _ N 0 1 300 _ (hN.gr gx) (by decide) (by decide) (by decide)).mono ?_
  rintro _ w3 hr
  rw [HJ.out] at hr
  obtain ⟨u, rfl, hu, g3⟩ := hr
  simp only [] at hu
  obtain ⟨ua, uc, rfl, _, _⟩ := hu.len
  have vx : Blk (w3.alloc (.cells #[.int .i64 d.kind, .slice ua d.at_.length uc, .int .i64 d.tran] 51)) w3.heap.size 51 #[.int .i64 d.kind, .slice ua d.at_.length uc, .int .i64 d.tran] := Blk.new rfl
  have gv : Gr w3 (w3.alloc (.cells #[.int .i64 d.kind, .slice ua d.at_.length uc, .int .i64 d.tran] 51)) := (Gr.refl _).alloc _
  replace x0 := cell_gr (cell_gr x0 g3) gv
  replace x1 := cell_gr (cell_gr x1 g3) gv
  go_wp2_with fail
  refine (ShapeWrong_calls _ N 0 1 _ (((hN.gr gx).gr g3).gr gv) (by decide) (by decide)).mono ?_
  rintro _ w4 ⟨rfl, g4⟩
  rw [HSh.out]
  have V0 := (vx.gr g4).cell (i := 0) (v := .int .i64 d.kind) rfl
  have GZ := ((GN.trans g3).trans gv).trans g4
  rcases HV.out with hf | ⟨hf, hd⟩
  · subst hf
    go_wp2_with fail
    go_ret
    exact ⟨rfl, GZ⟩
  · subst hf
    rw [hd] at V0
    go_wp2_with fail
    go_ret
    exact ⟨rfl, GZ⟩
end Go.Proofs.Ytajmccjnoejmfaa
