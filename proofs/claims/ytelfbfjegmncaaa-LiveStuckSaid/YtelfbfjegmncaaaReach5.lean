/- Contracts of the search itself and of reach.Graph. -/
import Derived.Test.YtelfbfjegmncaaaReach4
namespace Go.Tok
open Go.RowKit
set_option linter.unusedVariables false
/-- v reads as the space S -/
def SpaceR (w : World) (v : Value) (S : SpaceD) : Prop := ∃ vm va, v = .agg #[vm, va] ∧ Rd rowK w vm S.marks ∧ Rd arcK w va S.arcs
theorem SpaceR.gr {w w' : World} {v : Value} {S : SpaceD} (h : SpaceR w v S) (g : Gr w w') : SpaceR w' v S := by
  obtain ⟨vm, va, h1, h2, h3⟩ := h
  exact ⟨vm, va, h1, h2.gr g, h3.gr g⟩
theorem SpaceR.open_ {w : World} {v : Value} {S : SpaceD} (h : SpaceR w v S) : ∃ a n a' n', v = .agg #[.slice a S.marks.length n, .slice a' S.arcs.length n'] ∧ S.marks.length ≤ n ∧ n ≤ 9223372036854775807 ∧ S.arcs.length ≤ n' ∧ n' ≤ 9223372036854775807 ∧ Rd rowK w (.slice a S.marks.length n) S.marks ∧ Rd arcK w (.slice a' S.arcs.length n') S.arcs := by
  obtain ⟨vm, va, h1, h2, h3⟩ := h
  obtain ⟨a, n, rfl, h4, h5⟩ := h2.len
  obtain ⟨a', n', rfl, h6, h7⟩ := h3.len
  exact ⟨a, n, a', n', h1, h4, h5, h6, h7, h2, h3⟩
theorem SpaceR.open0 {w : World} {v : Value} (h : SpaceR w v zeroS) : ∃ a n a' n', v = .agg #[.slice a 0 n, .slice a' 0 n'] := by
  obtain ⟨a, n, a', n', h1, _⟩ := h.open_
  exact ⟨a, n, a', n', h1⟩
theorem SpaceR.mk_ {w : World} {vm va : Value} {S : SpaceD} (h1 : Rd rowK w vm S.marks) (h2 : Rd arcK w va S.arcs) : SpaceR w (.agg #[vm, va]) S := ⟨vm, va, rfl, h1, h2⟩
theorem SpaceR.zero (w : World) : SpaceR w (.agg #[.slice none 0 0, .slice none 0 0]) zeroS := ⟨_, _, rfl, Rd.nil _, Rd.nil _⟩
end Go.Tok
namespace Go.Proofs.Ytelfbfjegmncaaa
open Go.RowKit Go.Tok
set_option linter.unusedVariables false
/-- what the search hands back: an error, or where its state lies -/
def RetSe (N : NetD) (w : World) (r : FinD × Int) (e : Ending) (w' : World) : Prop :=
  Gr w w' ∧ ((r.2 ≠ 0 ∧ e = .returned (.tuple #[.pointer none, .int .i64 r.2])) ∨
    (r.2 = 0 ∧ ∃ fb vn most vmap vm va vf, e = .returned (.tuple #[.pointer (some ⟨fb, 0, none⟩), .int .i64 0]) ∧ Blk w' fb 135 #[.int .i64 N.places, vn, .int .i64 most, vmap, vm, va, vf] ∧ w.heap.size ≤ fb ∧ On (fun b => w.heap.size ≤ b) (fun w => Rd rowK w vm r.1.marks) w' ∧ On (fun b => w.heap.size ≤ b) (fun w => Rd arcK w va r.1.arcs) w' ∧ On (fun b => w.heap.size ≤ b) (fun w => Ints w vf r.1.first) w'))
theorem RetSe.bad {N : NetD} {w w' : World} {r : FinD × Int} {s : FinD} {x : Int} (hr : r = (s, x)) (hx : x ≠ 0) (g : Gr w w') : RetSe N w r (.returned (.tuple #[.pointer none, .int .i64 x])) w' := by
  subst hr; exact ⟨g, .inl ⟨hx, rfl⟩⟩
theorem RetSe.good {N : NetD} {w w' : World} {r : FinD × Int} {s : FinD} {fb : Nat} {vn vmap vm va vf : Value} {most : Int} (hr : r = (s, 0)) (g : Gr w w') (h : Blk w' fb 135 #[.int .i64 N.places, vn, .int .i64 most, vmap, vm, va, vf]) (hb : w.heap.size ≤ fb) (h1 : On (fun b => w.heap.size ≤ b) (fun w => Rd rowK w vm s.marks) w') (h2 : On (fun b => w.heap.size ≤ b) (fun w => Rd arcK w va s.arcs) w') (h3 : On (fun b => w.heap.size ≤ b) (fun w => Ints w vf s.first) w') :
    RetSe N w r (.returned (.tuple #[.pointer (some ⟨fb, 0, none⟩), .int .i64 0])) w' := by
  subst hr; exact ⟨g, .inr ⟨rfl, fb, vn, most, vmap, vm, va, vf, rfl, h, hb, h1, h2, h3⟩⟩
theorem search_range {N : NetD} {m : List Int} {most : Int} (h : most < 1 ∨ 300 < most) : searchF N m most = (⟨[], [], []⟩, 2) := by unfold searchF; rw [if_pos h]
theorem search_unfit {N : NetD} {m : List Int} {most : Int} (h1 : 1 ≤ most) (h2 : most ≤ 300) (h : fitsB N m = false) : searchF N m most = (⟨[], [], []⟩, 2) := by unfold searchF; rw [if_neg (by omega), if_pos h]
theorem search_fit {N : NetD} {m : List Int} {most : Int} (h1 : 1 ≤ most) (h2 : most ≤ 300) (h : fitsB N m = true) : searchF N m most = explF N most.toNat 301 0 (fin0 m) := by unfold searchF; rw [if_neg (by omega), if_neg (by rw [h]; decide)]
set_option maxHeartbeats 8000000 in
set_option maxRecDepth 100000 in
theorem search_calls (v u : Value) (N : NetD) (m : List Int) (most : Int) (w : World) (hN : NetR w v N) (hu : Ints w u m) (hmo : I64 most) :
    Calls Try.prog 73 #[v, u, .int .i64 most] w (RetSe N w (searchF N m most)) := by
  have hN' := hN
  obtain ⟨a, cap, rfl, hnl, hncap, hpl, hT⟩ := hN.open_
  have hpl1 := hpl.1
  have hpl2 := hpl.2
  have hm1 := hmo.1
  have hm2 := hmo.2
  by_cases h1 : most < 1
  · have HC := Lib.hid (search_range (N := N) (m := m) (.inl h1))
    go_enter Try.func73, Try.ntmps73
    go_wp2_with fail
    go_ret2
    exact RetSe.bad HC.out (by decide) (by (repeat (first | exact Gr.refl _ | assumption | apply Gr.alloc | apply Gr.drew | apply Gr.drewN | refine Gr.trans ?_ (by assumption))))
  by_cases h2 : 300 < most
  · have HC := Lib.hid (search_range (N := N) (m := m) (.inr h2))
    have h1' : 1 ≤ most := by omega
    go_enter Try.func73, Try.ntmps73
    go_wp2_with fail
    go_ret2
    exact RetSe.bad HC.out (by decide) (by (repeat (first | exact Gr.refl _ | assumption | apply Gr.alloc | apply Gr.drew | apply Gr.drewN | refine Gr.trans ?_ (by assumption))))
  have h1' : 1 ≤ most := by omega
  have h2' : most ≤ 300 := by omega
  clear h1 h2
  cases hf : fitsB N m
  · have HC := Lib.hid (search_unfit h1' h2' hf)
    have HE := Lib.hid (enabledF_unfit hf)
    clear hf
    go_enter Try.func73, Try.ntmps73
    go_wp2_with fail
    refine (Enabled_calls _ _ N m _ (hN'.gr (by (repeat (first | exact Gr.refl _ | assumption | apply Gr.alloc | apply Gr.drew | apply Gr.drewN | refine Gr.trans ?_ (by assumption))))) (hu.gr (by (repeat (first | exact Gr.refl _ | assumption | apply Gr.alloc | apply Gr.drew | apply Gr.drewN | refine Gr.trans ?_ (by assumption)))))).mono ?_
    rw [HE.out]; rintro _ w1 ⟨v1, rfl, i1, g1⟩
    go_wp2_with fail
    go_ret2
    exact RetSe.bad HC.out (by decide) (by (repeat (first | exact Gr.refl _ | assumption | apply Gr.alloc | apply Gr.drew | apply Gr.drewN | refine Gr.trans ?_ (by assumption))))
  · have HC := Lib.hid (search_fit h1' h2' hf)
    have HE := Lib.hid (enabledF_fit hf)
    have HF := Lib.hid hf
    have hmm := @run_makeMap Try.prog
    obtain ⟨mo, rfl⟩ := Int.eq_ofNat_of_zero_le (show 0 ≤ most by omega)
    have hm16 := (fits_sizes hf).2.2.2.1
    clear hf
    go_enter Try.func73, Try.ntmps73
    go_wp2_with fail
    refine (Enabled_calls _ _ N m _ (hN'.gr (by (repeat (first | exact Gr.refl _ | assumption | apply Gr.alloc | apply Gr.drew | apply Gr.drewN | refine Gr.trans ?_ (by assumption))))) (hu.gr (by (repeat (first | exact Gr.refl _ | assumption | apply Gr.alloc | apply Gr.drew | apply Gr.drewN | refine Gr.trans ?_ (by assumption)))))).mono ?_
    rw [HE.out]; rintro _ w1 ⟨v1, rfl, i1, g1⟩
    have B0 := box_cell g1 (i := 0) rfl
    have B1 := box_cell g1 (i := 1) rfl
    have gw : Gr w w1 := ((Gr.refl w).alloc _).trans g1
    clear g1
    have GA : Gr w1 ((w1.alloc (.map #[] 0)).alloc (.cells #[.int .i64 N.places, .slice a N.trans.length cap, .int .i64 (mo : Int), .map (some w1.heap.size), .slice none 0 0, .slice none 0 0, .slice none 0 0] 135)) := ((Gr.refl _).alloc _).alloc _
    have hO : FinO N a cap (mo : Int) (w1.heap.size + 1) w1.heap.size (.slice none 0 0) (.slice none 0 0) (.slice none 0 0) w1 ((w1.alloc (.map #[] 0)).alloc (.cells #[.int .i64 N.places, .slice a N.trans.length cap, .int .i64 (mo : Int), .map (some w1.heap.size), .slice none 0 0, .slice none 0 0, .slice none 0 0] 135)) [] (keyedM []) [] [] :=
      ⟨Blk.new (by simp), by rw [keyedM_nil]; exact (MAt.new w1).gr ((Gr.refl _).alloc _), OwnR.nil _ _ _ _, OwnR.nil _ _ _ _, OwnI.nil _ _ _, GA, by omega, Nat.le_refl _, ⟨by omega, by simp [Value.ownBlock], by simp [Value.ownBlock], by simp [Value.ownBlock], by simp [Value.ownBlock], by simp [Value.ownBlock], by simp [Value.ownBlock], by simp [Value.ownBlock], by simp [Value.ownBlock], by simp [Value.ownBlock]⟩⟩
    go_wp2_with fail
    generalize ((w1.alloc (.map #[] 0)).alloc (.cells #[.int .i64 N.places, .slice a N.trans.length cap, .int .i64 (mo : Int), .map (some w1.heap.size), .slice none 0 0, .slice none 0 0, .slice none 0 0] 135)) = wA at GA hO ⊢
    obtain ⟨fb, hfb⟩ : ∃ fb, fb = w1.heap.size + 1 := ⟨_, rfl⟩
    rw [← hfb] at hO ⊢
    have hfbase : w.heap.size ≤ fb := by have := gw.le; omega
    have hgl := gw.le
    clear hfb
    refine (Clone_calls _ m _ (hu.gr (by (repeat (first | exact Gr.refl _ | assumption | apply Gr.alloc | apply Gr.drew | apply Gr.drewN | refine Gr.trans ?_ (by assumption))))) (by omega)).mono ?_
    rintro _ w2 ⟨v2, rfl, o2, g2⟩
    have hW : FinW N a cap (mo : Int) fb w1 (FinB w1.heap.size fb w1.heap.size (.slice none 0 0) (.slice none 0 0) (.slice none 0 0)) wA ⟨[], [], []⟩ := ⟨_, _, _, _, rfl, hO⟩
    have hOm : On (fun b => ¬ FinB w1.heap.size fb w1.heap.size (.slice none 0 0) (.slice none 0 0) (.slice none 0 0) b) (fun w => Ints w v2 m) w2 := On.own o2 (fun b hb => hO.lt hb)
    replace hW := hW.gr g2
    obtain ⟨xa, xc, rfl, _, _⟩ := o2.ints.len
    have hfd : findF mo ⟨[], [], []⟩ m (-1) = some (0, fin0 m) := by unfold findF; simp [fin0]; omega
    have HFD := Lib.hid hfd
    have hmr := (fits_sizes HF.out).2.2.2.2.2.1
    have hN1 := hN'.gr gw
    clear o2 g2 hO GA B0 B1 i1 hmm hfd
    go_wp2_with fail
    refine (find_some hW hOm hmr (by omega) (fun y hy => by simp at hy) (by decide) (by simp) (by simp) HFD.out).mono ?_
    rintro _ w3 ⟨R3, rfl, hW3, _⟩
    clear hW hOm
    go_wp2_with fail
    refine (explore_calls hN1 hW3 (fin0_found (by omega) HF.out) rfl (by omega)).mono ?_
    have HC2 := HC.out
    rw [Int.toNat_natCast] at HC2
    rw [← HC2]
    rcases hsr : searchF N m (mo : Int) with ⟨s, x⟩
    have HSR := Lib.hid hsr
    clear hsr HC2
    rintro _ w4 ⟨rfl, g4, h4⟩
    have gw4 := gw.trans g4
    by_cases hx : x = 0
    · subst hx
      obtain ⟨R4, mb, vm, va, vf, _, hO4⟩ := h4 rfl
      clear h4
      go_wp2_with fail
      go_ret2
      exact RetSe.good HSR.out gw4 hO4.blk hfbase ((hO4.ms.fresh (fun b _ hb => hb.1)).mono (fun b _ hb => Nat.le_trans hgl hb)) ((hO4.ar.fresh (fun b _ hb => hb.elim)).mono (fun b _ hb => Nat.le_trans hgl hb)) ((Ints.on_fresh hO4.fi).mono (fun b _ hb => Nat.le_trans hgl hb))
    · have q1 : (x != 0) = true := by simpa using hx
      clear h4
      go_wp2_with fail
      go_ret2
      exact RetSe.bad HSR.out hx gw4
/-- what Graph hands back -/
def RetSp (w : World) (r : SpaceD × Int) (e : Ending) (w' : World) : Prop := ∃ v, e = .returned (.tuple #[v, .int .i64 r.2]) ∧ SpaceR w' v r.1 ∧ Gr w w'
theorem RetSp.mk {w w' : World} {v : Value} {x : Int} {r : SpaceD × Int} {S : SpaceD} (hr : r = (S, x)) (hv : SpaceR w' v S) (hb : Gr w w') : RetSp w r (.returned (.tuple #[v, .int .i64 x])) w' := by subst hr; exact ⟨v, rfl, hv, hb⟩
theorem graph_ok {N : NetD} {m : List Int} {most : Int} {s : FinD} (h : searchF N m most = (s, 0)) : graphF N m most = (⟨s.marks, s.arcs⟩, 0) := by unfold graphF; rw [h]; rfl
theorem graph_bad {N : NetD} {m : List Int} {most : Int} {s : FinD} {x : Int} (h : searchF N m most = (s, x)) (hx : x ≠ 0) : graphF N m most = (zeroS, x) := by unfold graphF; rw [h, if_neg hx]
set_option maxHeartbeats 8000000 in
set_option maxRecDepth 100000 in
theorem Graph_calls (v u : Value) (N : NetD) (m : List Int) (most : Int) (w : World) (hN : NetR w v N) (hu : Ints w u m) (hmo : I64 most) :
    Calls Try.prog 27 #[v, u, .int .i64 most] w (RetSp w (graphF N m most)) := by
  have hN' := hN
  obtain ⟨a, cap, rfl, hnl, hncap, hpl, hT⟩ := hN.open_
  have hpl1 := hpl.1
  have hpl2 := hpl.2
  rcases hsr : searchF N m most with ⟨s, x⟩
  have HSR := Lib.hid hsr
  go_enter Try.func27, Try.ntmps27
  go_wp2_with fail
  refine (search_calls _ _ N m most _ (hN'.gr (by (repeat (first | exact Gr.refl _ | assumption | apply Gr.alloc | apply Gr.drew | apply Gr.drewN | refine Gr.trans ?_ (by assumption))))) (hu.gr (by (repeat (first | exact Gr.refl _ | assumption | apply Gr.alloc | apply Gr.drew | apply Gr.drewN | refine Gr.trans ?_ (by assumption))))) hmo).mono ?_
  rw [hsr]; rintro _ w1 ⟨g1, h1⟩
  clear hsr
  have b0 : Blk w1 w.heap.size 28 #[.int .i64 N.places, .slice a N.trans.length cap] := ((Blk.new rfl).gr ((Gr.refl _).alloc _)).gr g1
  have b3 : Blk w1 (w.heap.size + 1) 40 #[.slice none 0 0, .slice none 0 0] := (Blk.new (by simp)).gr g1
  have gw : Gr w w1 := (((Gr.refl w).alloc _).alloc _).trans g1
  by_cases hx : x = 0
  · subst hx
    rcases h1 with ⟨h1, _⟩ | ⟨_, fb, vn, mo, vmap, vm, va, vf, rfl, hb, hfb, hm, ha, hf⟩
    · exact absurd rfl h1
    obtain ⟨ma, mc, rfl, _, _⟩ := hm.now.len
    obtain ⟨aa, ac, rfl, _, _⟩ := ha.now.len
    have HC := Lib.hid (graph_ok HSR.out)
    have c4 := hb.cell (i := 4) rfl
    have c5 := hb.cell (i := 5) rfl
    have F0 := b3.frozen 0
    have hb2 := b3.set 0 (.slice ma s.marks.length mc)
    have F1 := hb2.frozen 1
    have hb3 := hb2.set 1 (.slice aa s.arcs.length ac)
    have E0 := hb3.cell (i := 0) rfl
    have E1 := hb3.cell (i := 1) rfl
    have D0 := b3.cell (i := 0) rfl
    have D1 := b3.cell (i := 1) rfl
    have D2 := hb2.cell (i := 1) rfl
    simp at hfb
    have hne : w.heap.size + 1 ≠ fb := by omega
    go_wp2_with fail
    refine bodyPost_ret (v := .tuple #[.agg #[.slice ma s.marks.length mc, .slice aa s.arcs.length ac], .int .i64 0]) (by simp [results, Try.results27, go_sem, E0, E1]) rfl ?_
    refine RetSp.mk HC.out (SpaceR.mk_ (S := ⟨s.marks, s.arcs⟩) ?_ ?_) ((gw.setCell (by simp) _).setCell (by simp) _)
    · exact (hm.kp (Kp.trans (set_kp (by simp) _) (set_kp (by simp) _))).now
    · exact (ha.kp (Kp.trans (set_kp (by simp) _) (set_kp (by simp) _))).now
  · rcases h1 with ⟨_, rfl⟩ | ⟨h1, _⟩
    rotate_left
    · exact absurd h1 hx
    have HC := Lib.hid (graph_bad HSR.out hx)
    have q1 : (x != 0) = true := by simpa using hx
    have F0 := b3.frozen 0
    have hb2 := b3.set 0 (.slice none 0 0)
    have F1 := hb2.frozen 1
    have hb3 := hb2.set 1 (.slice none 0 0)
    have E0 := hb3.cell (i := 0) rfl
    have E1 := hb3.cell (i := 1) rfl
    have D0 := b3.cell (i := 0) rfl
    have D1 := b3.cell (i := 1) rfl
    have D2 := hb2.cell (i := 1) rfl
    go_wp2_with fail
    refine bodyPost_ret (v := .tuple #[.agg #[.slice none 0 0, .slice none 0 0], .int .i64 x]) (by simp [results, Try.results27, go_sem, E0, E1]) rfl ?_
    exact RetSp.mk HC.out (SpaceR.zero _) ((gw.setCell (by simp) _).setCell (by simp) _)
end Go.Proofs.Ytelfbfjegmncaaa
