/- The call LiveRuns answers true at any net, mark, sequence and number that read as data; nothing that lay there turns. -/
import Derived.Test.YtbopachnkbjmfaaWLiveDead
import Derived.Test.YtbopachnkbjmfaaGM
namespace Go.Proofs.Ytbopachnkbjmfaa
open Go.RowKit Go.Tok
set_option linter.unusedVariables false
set_option maxHeartbeats 1000000 in
set_option maxRecDepth 100000 in
theorem LiveRuns11_answers (w0 : World) (tb : Nat) (t : Int) (xs : List ArcD) (hc : w0.cell? ⟨tb, 0, none⟩ = some (.int .i64 t)) :
    AnswersArc Try.prog 47 #[.pointer (some ⟨tb, 0, none⟩)] xs (fun a => decide (a.tran = t)) w0 := by
  intro W x hx g hI
  have GA : Gr W (W.alloc (.cells #[.int .i64 x.src, .int .i64 x.tran, .int .i64 x.dst] 90)) := (Gr.refl _).alloc _
  have c := cell_gr (cell_gr hc g) GA
  have A1 : (W.alloc (.cells #[.int .i64 x.src, .int .i64 x.tran, .int .i64 x.dst] 90)).cell? ⟨W.heap.size, 1, none⟩ = some (.int .i64 x.tran) := box_cell (Gr.refl _) (i := 1) rfl
  go_enter Try.func47, Try.ntmps47
  go_wp2_with fail
  go_ret
  exact ⟨ret_bool (by rw [Bool.eq_iff_iff]; simp), GA⟩
set_option maxHeartbeats 2000000 in
set_option maxRecDepth 100000 in
theorem LiveRuns1_calls (u : Value) (N : NetD) (a : Option Addr) (cap nb tb : Nat) (m : List Int) (t : Int) (w : World) (hN : NetR w (.agg #[.int .i64 N.places, .slice a N.trans.length cap]) N) (hu : Ints w u m)
    (B0 : w.cell? ⟨nb, 0, none⟩ = some (.int .i64 N.places)) (B1 : w.cell? ⟨nb, 1, none⟩ = some (.slice a N.trans.length cap)) (T0 : w.cell? ⟨tb, 0, none⟩ = some (.int .i64 t)) :
    Calls Try.prog 45 #[u, .pointer (some ⟨nb, 0, none⟩), .pointer (some ⟨tb, 0, none⟩)] w fun e w' => e = .returned (.bool (ableB N m t)) ∧ Gr w w' := by
  have eg : ∀ args w, (callFunc 47 args).run Try.prog w = .ok (.enter 47 args) w := (Go.Proofs.enters_of Try.func47 (by kernel_rfl) rfl)
  rcases ha : graphF N m 300 with ⟨A, e⟩
  have HA := Lib.hid ha
  by_cases he : e = 0
  · subst he
    have HC := Lib.hid (show ableB N m t = A.arcs.any (fun a => decide (a.tran = t)) by unfold ableB; rw [ha]; rfl)
    clear ha
    go_enter Try.func45, Try.ntmps45
    go_wp2_with fail
    refine (Graph_calls _ _ N m 300 _ hN hu (by decide)).mono ?_
    rw [HA.out]; rintro _ w2 ⟨v2, rfl, i2, g2⟩
    obtain ⟨ma, mc, aa, ac, rfl, hc1, hc2, hc3, hc4, hM, hA⟩ := i2.open_
    have GS : Gr w2 (w2.alloc (.cells #[.slice ma A.marks.length mc, .slice aa A.arcs.length ac] 76)) := (Gr.refl _).alloc _
    have S1 : (w2.alloc (.cells #[.slice ma A.marks.length mc, .slice aa A.arcs.length ac] 76)).cell? ⟨w2.heap.size, 1, none⟩ = some (.slice aa A.arcs.length ac) := box_cell (Gr.refl _) (i := 1) rfl
    have T1 := cell_gr (cell_gr T0 g2) GS
    clear B0 B1 T0
    go_wp2_with fail
    refine (ContainsFuncArc_calls _ A.arcs 47 _ (fun a => decide (a.tran = t)) _ eg (hA.gr GS) (LiveRuns11_answers _ _ _ _ T1)).mono ?_
    rintro _ w3 ⟨rfl, g3⟩
    go_wp2_with fail
    all_goals go_ret
    all_goals exact ⟨ret_bool (by first | (rw [HC.out]; done) | (simp [HC.out, *]; done)), (g2.trans GS).trans g3⟩
  · have q1 : (e == 0) = false := by simpa using he
    have HC := Lib.hid (show ableB N m t = false by unfold ableB; rw [ha]; simp [he])
    clear ha he
    go_enter Try.func45, Try.ntmps45
    go_wp2_with fail
    refine (Graph_calls _ _ N m 300 _ hN hu (by decide)).mono ?_
    rw [HA.out]; rintro _ w2 ⟨v2, rfl, i2, g2⟩
    obtain ⟨ma, mc, aa, ac, rfl, hc1, hc2, hc3, hc4, hM, hA⟩ := i2.open_
    clear B0 B1 T0
    go_wp2_with fail
    go_ret
    exact ⟨ret_bool HC.out.symm, g2.alloc _⟩
set_option maxHeartbeats 2000000 in
set_option maxRecDepth 100000 in
theorem LiveRuns2_answers (w0 : World) (N : NetD) (a : Option Addr) (cap nb tb fb : Nat) (t : Int) (xs : List (List Int)) (hN : NetR w0 (.agg #[.int .i64 N.places, .slice a N.trans.length cap]) N)
    (B0 : w0.cell? ⟨nb, 0, none⟩ = some (.int .i64 N.places)) (B1 : w0.cell? ⟨nb, 1, none⟩ = some (.slice a N.trans.length cap)) (T0 : w0.cell? ⟨tb, 0, none⟩ = some (.int .i64 t))
    (F0 : w0.cell? ⟨fb, 0, none⟩ = some (.func (.func 45) #[] #[.pointer (some ⟨nb, 0, none⟩), .pointer (some ⟨tb, 0, none⟩)])) :
    AnswersRow Try.prog 49 #[.pointer (some ⟨fb, 0, none⟩)] xs (fun y => !ableB N y t) w0 := by
  intro W u x hx g hI
  have eg : ∀ args w, (callFunc 45 args).run Try.prog w = .ok (.enter 45 args) w := (Go.Proofs.enters_of Try.func45 (by kernel_rfl) rfl)
  have c := cell_gr F0 g
  have hcall := LiveRuns1_calls u N a cap nb tb x t W (hN.gr g) hI (cell_gr B0 g) (cell_gr B1 g) (cell_gr T0 g)
  obtain ⟨ua, uc, rfl, _, _⟩ := hI.len
  clear F0 B0 B1 T0
  cases hb : ableB N x t
  · rw [hb] at hcall
    go_enter Try.func49, Try.ntmps49
    go_wp2_with (go_at_fn 45; refine hcall.mono ?_; rintro e w' ⟨rfl, g2⟩)
    go_ret
    exact ⟨ret_bool (by rw [hb]; rfl), g2⟩
  · rw [hb] at hcall
    go_enter Try.func49, Try.ntmps49
    go_wp2_with (go_at_fn 45; refine hcall.mono ?_; rintro e w' ⟨rfl, g2⟩)
    go_ret
    exact ⟨ret_bool (by rw [hb]; rfl), g2⟩
set_option maxHeartbeats 8000000 in
set_option maxRecDepth 100000 in
theorem LiveRuns_walk {v u z : Value} {N : NetD} {m seq : List Int} {t : Int} (w : World) (hN : NetR w v N) (hm0 : Ints w u m ∧ m.length ≤ 17592186043904) (hs0 : Ints w z seq ∧ seq.length ≤ 17592186043904) (ht : I64 t) :
    Calls Try.prog 12 #[v, u, z, .int .i64 t] w fun e w' => e = .returned (.bool true) ∧ Gr w w' := by
  obtain ⟨hm, _⟩ := hm0
  obtain ⟨hs, _⟩ := hs0
  have hN' := hN
  have hlim : I64 60 := by decide
  obtain ⟨a, cap, rfl, hnl, hncap, hpl, hT⟩ := hN.open_
  have hpl1 := hpl.1
  have hpl2 := hpl.2
  rcases ha : graphF N m 60 with ⟨A, e⟩
  have HA := Lib.hid ha
  rcases hr : runF N m seq with ⟨x, f⟩
  have HR := Lib.hid hr
  by_cases he : e = 0
  case neg =>
    have q1 : (e != 0) = true := by simpa using he
    clear he
    clear ha hr
    go_enter Try.func12, Try.ntmps12
    go_wp2_with fail
    refine (alive7_calls _).mono ?_
    rintro _ w1 ⟨rfl, g1⟩
    have g1' : Gr (w.alloc (.cells #[.int .i64 N.places, .slice a N.trans.length cap] 24)) w1 := ((Gr.refl _).alloc _).trans g1
    have B0 := box_cell g1' (i := 0) rfl
    have B1 := box_cell g1' (i := 1) rfl
    have T0 : w1.cell? ⟨w.heap.size + 1, 0, none⟩ = some (.int .i64 t) := by have h := box_cell g1 (i := 0) rfl; simpa using h
    have GW : Gr w w1 := ((Gr.refl w).alloc _).trans g1'
    go_wp2_with fail
    refine (Graph_calls _ _ N m 60 _ (hN'.gr GW) (hm.gr GW) hlim).mono ?_
    rw [HA.out]; rintro _ w2 ⟨v2, rfl, i2, g2⟩
    obtain ⟨ma, mc, aa, ac, rfl, hc1, hc2, hc3, hc4, _, _⟩ := i2.open_
    have GS : Gr w2 (w2.alloc (.cells #[.slice ma A.marks.length mc, .slice aa A.arcs.length ac] 76)) := (Gr.refl _).alloc _
    have S0 : (w2.alloc (.cells #[.slice ma A.marks.length mc, .slice aa A.arcs.length ac] 76)).cell? ⟨w2.heap.size, 0, none⟩ = some (.slice ma A.marks.length mc) := box_cell (Gr.refl _) (i := 0) rfl
    have S1 : (w2.alloc (.cells #[.slice ma A.marks.length mc, .slice aa A.arcs.length ac] 76)).cell? ⟨w2.heap.size, 1, none⟩ = some (.slice aa A.arcs.length ac) := box_cell (Gr.refl _) (i := 1) rfl
    replace B0 := cell_gr (cell_gr B0 g2) GS
    replace B1 := cell_gr (cell_gr B1 g2) GS
    replace T0 := cell_gr (cell_gr T0 g2) GS
    replace GW := (GW.trans g2).trans GS
    have hS := i2.gr GS
    clear g1 g1' g2 GS i2
    go_wp2_with fail
    generalize w2.alloc (.cells #[.slice ma A.marks.length mc, .slice aa A.arcs.length ac] 76) = w3 at S0 S1 B0 B1 T0 GW hS ⊢
    generalize w2.heap.size = sb at S0 S1 ⊢
    refine (Run_own _ _ _ N m seq _ (hN'.gr GW) (hm.gr GW) (hs.gr GW)).mono ?_
    rw [HR.out]; rintro _ w4 ⟨v4, rfl, o4, g4⟩
    have i4 := o4.ints
    replace S0 := cell_gr S0 g4
    replace S1 := cell_gr S1 g4
    replace B0 := cell_gr B0 g4
    replace B1 := cell_gr B1 g4
    replace T0 := cell_gr T0 g4
    replace GW := GW.trans g4
    replace hS := hS.gr g4
    clear g4 o4
    go_wp2_with fail
    go_ret
    exact ⟨rfl, GW⟩
  case pos =>
  subst he
  by_cases hf : f = 0
  case neg =>
    have q1 : (f != 0) = true := by simpa using hf
    clear hf
    clear ha hr
    go_enter Try.func12, Try.ntmps12
    go_wp2_with fail
    refine (alive7_calls _).mono ?_
    rintro _ w1 ⟨rfl, g1⟩
    have g1' : Gr (w.alloc (.cells #[.int .i64 N.places, .slice a N.trans.length cap] 24)) w1 := ((Gr.refl _).alloc _).trans g1
    have B0 := box_cell g1' (i := 0) rfl
    have B1 := box_cell g1' (i := 1) rfl
    have T0 : w1.cell? ⟨w.heap.size + 1, 0, none⟩ = some (.int .i64 t) := by have h := box_cell g1 (i := 0) rfl; simpa using h
    have GW : Gr w w1 := ((Gr.refl w).alloc _).trans g1'
    go_wp2_with fail
    refine (Graph_calls _ _ N m 60 _ (hN'.gr GW) (hm.gr GW) hlim).mono ?_
    rw [HA.out]; rintro _ w2 ⟨v2, rfl, i2, g2⟩
    obtain ⟨ma, mc, aa, ac, rfl, hc1, hc2, hc3, hc4, _, _⟩ := i2.open_
    have GS : Gr w2 (w2.alloc (.cells #[.slice ma A.marks.length mc, .slice aa A.arcs.length ac] 76)) := (Gr.refl _).alloc _
    have S0 : (w2.alloc (.cells #[.slice ma A.marks.length mc, .slice aa A.arcs.length ac] 76)).cell? ⟨w2.heap.size, 0, none⟩ = some (.slice ma A.marks.length mc) := box_cell (Gr.refl _) (i := 0) rfl
    have S1 : (w2.alloc (.cells #[.slice ma A.marks.length mc, .slice aa A.arcs.length ac] 76)).cell? ⟨w2.heap.size, 1, none⟩ = some (.slice aa A.arcs.length ac) := box_cell (Gr.refl _) (i := 1) rfl
    replace B0 := cell_gr (cell_gr B0 g2) GS
    replace B1 := cell_gr (cell_gr B1 g2) GS
    replace T0 := cell_gr (cell_gr T0 g2) GS
    replace GW := (GW.trans g2).trans GS
    have hS := i2.gr GS
    clear g1 g1' g2 GS i2
    go_wp2_with fail
    generalize w2.alloc (.cells #[.slice ma A.marks.length mc, .slice aa A.arcs.length ac] 76) = w3 at S0 S1 B0 B1 T0 GW hS ⊢
    generalize w2.heap.size = sb at S0 S1 ⊢
    refine (Run_own _ _ _ N m seq _ (hN'.gr GW) (hm.gr GW) (hs.gr GW)).mono ?_
    rw [HR.out]; rintro _ w4 ⟨v4, rfl, o4, g4⟩
    have i4 := o4.ints
    replace S0 := cell_gr S0 g4
    replace S1 := cell_gr S1 g4
    replace B0 := cell_gr B0 g4
    replace B1 := cell_gr B1 g4
    replace T0 := cell_gr T0 g4
    replace GW := GW.trans g4
    replace hS := hS.gr g4
    clear g4 o4
    go_wp2_with fail
    go_ret
    exact ⟨rfl, GW⟩
  case pos =>
  subst hf
  by_cases h0 : t < 0
  · skip
    clear ha hr
    go_enter Try.func12, Try.ntmps12
    go_wp2_with fail
    refine (alive7_calls _).mono ?_
    rintro _ w1 ⟨rfl, g1⟩
    have g1' : Gr (w.alloc (.cells #[.int .i64 N.places, .slice a N.trans.length cap] 24)) w1 := ((Gr.refl _).alloc _).trans g1
    have B0 := box_cell g1' (i := 0) rfl
    have B1 := box_cell g1' (i := 1) rfl
    have T0 : w1.cell? ⟨w.heap.size + 1, 0, none⟩ = some (.int .i64 t) := by have h := box_cell g1 (i := 0) rfl; simpa using h
    have GW : Gr w w1 := ((Gr.refl w).alloc _).trans g1'
    go_wp2_with fail
    refine (Graph_calls _ _ N m 60 _ (hN'.gr GW) (hm.gr GW) hlim).mono ?_
    rw [HA.out]; rintro _ w2 ⟨v2, rfl, i2, g2⟩
    obtain ⟨ma, mc, aa, ac, rfl, hc1, hc2, hc3, hc4, _, _⟩ := i2.open_
    have GS : Gr w2 (w2.alloc (.cells #[.slice ma A.marks.length mc, .slice aa A.arcs.length ac] 76)) := (Gr.refl _).alloc _
    have S0 : (w2.alloc (.cells #[.slice ma A.marks.length mc, .slice aa A.arcs.length ac] 76)).cell? ⟨w2.heap.size, 0, none⟩ = some (.slice ma A.marks.length mc) := box_cell (Gr.refl _) (i := 0) rfl
    have S1 : (w2.alloc (.cells #[.slice ma A.marks.length mc, .slice aa A.arcs.length ac] 76)).cell? ⟨w2.heap.size, 1, none⟩ = some (.slice aa A.arcs.length ac) := box_cell (Gr.refl _) (i := 1) rfl
    replace B0 := cell_gr (cell_gr B0 g2) GS
    replace B1 := cell_gr (cell_gr B1 g2) GS
    replace T0 := cell_gr (cell_gr T0 g2) GS
    replace GW := (GW.trans g2).trans GS
    have hS := i2.gr GS
    clear g1 g1' g2 GS i2
    go_wp2_with fail
    generalize w2.alloc (.cells #[.slice ma A.marks.length mc, .slice aa A.arcs.length ac] 76) = w3 at S0 S1 B0 B1 T0 GW hS ⊢
    generalize w2.heap.size = sb at S0 S1 ⊢
    refine (Run_own _ _ _ N m seq _ (hN'.gr GW) (hm.gr GW) (hs.gr GW)).mono ?_
    rw [HR.out]; rintro _ w4 ⟨v4, rfl, o4, g4⟩
    have i4 := o4.ints
    replace S0 := cell_gr S0 g4
    replace S1 := cell_gr S1 g4
    replace B0 := cell_gr B0 g4
    replace B1 := cell_gr B1 g4
    replace T0 := cell_gr T0 g4
    replace GW := GW.trans g4
    replace hS := hS.gr g4
    clear g4 o4
    go_wp2_with fail
    go_ret
    exact ⟨rfl, GW⟩
  by_cases h1 : (N.trans.length : Int) ≤ t
  · skip
    clear ha hr
    go_enter Try.func12, Try.ntmps12
    go_wp2_with fail
    refine (alive7_calls _).mono ?_
    rintro _ w1 ⟨rfl, g1⟩
    have g1' : Gr (w.alloc (.cells #[.int .i64 N.places, .slice a N.trans.length cap] 24)) w1 := ((Gr.refl _).alloc _).trans g1
    have B0 := box_cell g1' (i := 0) rfl
    have B1 := box_cell g1' (i := 1) rfl
    have T0 : w1.cell? ⟨w.heap.size + 1, 0, none⟩ = some (.int .i64 t) := by have h := box_cell g1 (i := 0) rfl; simpa using h
    have GW : Gr w w1 := ((Gr.refl w).alloc _).trans g1'
    go_wp2_with fail
    refine (Graph_calls _ _ N m 60 _ (hN'.gr GW) (hm.gr GW) hlim).mono ?_
    rw [HA.out]; rintro _ w2 ⟨v2, rfl, i2, g2⟩
    obtain ⟨ma, mc, aa, ac, rfl, hc1, hc2, hc3, hc4, _, _⟩ := i2.open_
    have GS : Gr w2 (w2.alloc (.cells #[.slice ma A.marks.length mc, .slice aa A.arcs.length ac] 76)) := (Gr.refl _).alloc _
    have S0 : (w2.alloc (.cells #[.slice ma A.marks.length mc, .slice aa A.arcs.length ac] 76)).cell? ⟨w2.heap.size, 0, none⟩ = some (.slice ma A.marks.length mc) := box_cell (Gr.refl _) (i := 0) rfl
    have S1 : (w2.alloc (.cells #[.slice ma A.marks.length mc, .slice aa A.arcs.length ac] 76)).cell? ⟨w2.heap.size, 1, none⟩ = some (.slice aa A.arcs.length ac) := box_cell (Gr.refl _) (i := 1) rfl
    replace B0 := cell_gr (cell_gr B0 g2) GS
    replace B1 := cell_gr (cell_gr B1 g2) GS
    replace T0 := cell_gr (cell_gr T0 g2) GS
    replace GW := (GW.trans g2).trans GS
    have hS := i2.gr GS
    clear g1 g1' g2 GS i2
    go_wp2_with fail
    generalize w2.alloc (.cells #[.slice ma A.marks.length mc, .slice aa A.arcs.length ac] 76) = w3 at S0 S1 B0 B1 T0 GW hS ⊢
    generalize w2.heap.size = sb at S0 S1 ⊢
    refine (Run_own _ _ _ N m seq _ (hN'.gr GW) (hm.gr GW) (hs.gr GW)).mono ?_
    rw [HR.out]; rintro _ w4 ⟨v4, rfl, o4, g4⟩
    have i4 := o4.ints
    replace S0 := cell_gr S0 g4
    replace S1 := cell_gr S1 g4
    replace B0 := cell_gr B0 g4
    replace B1 := cell_gr B1 g4
    replace T0 := cell_gr T0 g4
    replace GW := GW.trans g4
    replace hS := hS.gr g4
    clear g4 o4
    go_wp2_with fail
    go_ret
    exact ⟨rfl, GW⟩
  obtain ⟨s, hs1, rfl, hW1, hW2, hfit, hW⟩ := search_of_graph ha
  obtain ⟨hmx, hax, hC64⟩ : s.marks.length ≤ 5864062014805 ∧ s.arcs.length ≤ 5864062014805 ∧ I64 (N.trans.length : Int) := by
    have h5 := (fits_sizes hfit).1
    exact ⟨by have := hW.le; omega, by have := search_arcs hs1; omega, i64_nat (by omega)⟩
  obtain ⟨A, hA⟩ : ∃ A, A = (⟨s.marks, s.arcs⟩ : SpaceD) := ⟨_, rfl⟩
  have hml : A.marks.length ≤ 5864062014805 := by rw [hA]; exact hmx
  have hal : A.arcs.length ≤ 5864062014805 := by rw [hA]; exact hax
  rw [← hA] at HA
  clear hmx hax
  have eg2 : ∀ args w, (callFunc 49 args).run Try.prog w = .ok (.enter 49 args) w := (Go.Proofs.enters_of Try.func49 (by kernel_rfl) rfl)
  cases hlt : hasB (liveF A (N.trans.length : Int)) t
  · have hun := live_unable (t := t) hs1 (by omega) (by omega) (by rw [← hA, ← hasB_iff, hlt]; decide)
    have hun2 : A.marks.any (fun y => !ableB N y t) = true := by rw [hA]; exact hun
    clear ha hr hs1 hW hfit hun hA
    go_enter Try.func12, Try.ntmps12
    go_wp2_with fail
    refine (alive7_calls _).mono ?_
    rintro _ w1 ⟨rfl, g1⟩
    have g1' : Gr (w.alloc (.cells #[.int .i64 N.places, .slice a N.trans.length cap] 24)) w1 := ((Gr.refl _).alloc _).trans g1
    have B0 := box_cell g1' (i := 0) rfl
    have B1 := box_cell g1' (i := 1) rfl
    have T0 : w1.cell? ⟨w.heap.size + 1, 0, none⟩ = some (.int .i64 t) := by have h := box_cell g1 (i := 0) rfl; simpa using h
    have GW : Gr w w1 := ((Gr.refl w).alloc _).trans g1'
    go_wp2_with fail
    refine (Graph_calls _ _ N m 60 _ (hN'.gr GW) (hm.gr GW) hlim).mono ?_
    rw [HA.out]; rintro _ w2 ⟨v2, rfl, i2, g2⟩
    obtain ⟨ma, mc, aa, ac, rfl, hc1, hc2, hc3, hc4, _, _⟩ := i2.open_
    have GS : Gr w2 (w2.alloc (.cells #[.slice ma A.marks.length mc, .slice aa A.arcs.length ac] 76)) := (Gr.refl _).alloc _
    have S0 : (w2.alloc (.cells #[.slice ma A.marks.length mc, .slice aa A.arcs.length ac] 76)).cell? ⟨w2.heap.size, 0, none⟩ = some (.slice ma A.marks.length mc) := box_cell (Gr.refl _) (i := 0) rfl
    have S1 : (w2.alloc (.cells #[.slice ma A.marks.length mc, .slice aa A.arcs.length ac] 76)).cell? ⟨w2.heap.size, 1, none⟩ = some (.slice aa A.arcs.length ac) := box_cell (Gr.refl _) (i := 1) rfl
    replace B0 := cell_gr (cell_gr B0 g2) GS
    replace B1 := cell_gr (cell_gr B1 g2) GS
    replace T0 := cell_gr (cell_gr T0 g2) GS
    replace GW := (GW.trans g2).trans GS
    have hS := i2.gr GS
    clear g1 g1' g2 GS i2
    go_wp2_with fail
    generalize w2.alloc (.cells #[.slice ma A.marks.length mc, .slice aa A.arcs.length ac] 76) = w3 at S0 S1 B0 B1 T0 GW hS ⊢
    generalize w2.heap.size = sb at S0 S1 ⊢
    refine (Run_own _ _ _ N m seq _ (hN'.gr GW) (hm.gr GW) (hs.gr GW)).mono ?_
    rw [HR.out]; rintro _ w4 ⟨v4, rfl, o4, g4⟩
    have i4 := o4.ints
    replace S0 := cell_gr S0 g4
    replace S1 := cell_gr S1 g4
    replace B0 := cell_gr B0 g4
    replace B1 := cell_gr B1 g4
    replace T0 := cell_gr T0 g4
    replace GW := GW.trans g4
    replace hS := hS.gr g4
    clear g4 o4
    go_wp2_with fail
    obtain ⟨xa, xc, rfl, _, _⟩ := i4.len
    have GF : Gr w4 (w4.alloc (.cells #[.func (.func 45) #[] #[.pointer (some ⟨w.heap.size, 0, none⟩), .pointer (some ⟨w.heap.size + 1, 0, none⟩)]] 82)) := (Gr.refl _).alloc _
    have F0 : (w4.alloc (.cells #[.func (.func 45) #[] #[.pointer (some ⟨w.heap.size, 0, none⟩), .pointer (some ⟨w.heap.size + 1, 0, none⟩)]] 82)).cell? ⟨w4.heap.size, 0, none⟩ = some (.func (.func 45) #[] #[.pointer (some ⟨w.heap.size, 0, none⟩), .pointer (some ⟨w.heap.size + 1, 0, none⟩)]) := box_cell (Gr.refl _) (i := 0) rfl
    replace S0 := cell_gr S0 GF
    replace S1 := cell_gr S1 GF
    replace B0 := cell_gr B0 GF
    replace B1 := cell_gr B1 GF
    replace T0 := cell_gr T0 GF
    replace GW := GW.trans GF
    replace hS := hS.gr GF
    replace i4 := i4.gr GF
    clear GF
    go_wp2_with fail
    generalize w4.alloc (.cells #[.func (.func 45) #[] #[.pointer (some ⟨w.heap.size, 0, none⟩), .pointer (some ⟨w.heap.size + 1, 0, none⟩)]] 82) = w5 at F0 S0 S1 B0 B1 T0 GW hS i4 ⊢
    generalize w4.heap.size = fb at F0 ⊢
    go_region_held3 (fun w' => w'.cell? ⟨w.heap.size, 1, none⟩ = some (.slice a N.trans.length cap) ∧ w'.cell? ⟨w.heap.size + 1, 0, none⟩ = some (.int .i64 t) ∧ w'.cell? ⟨sb, 0, none⟩ = some (.slice ma A.marks.length mc) ∧ w'.cell? ⟨sb, 1, none⟩ = some (.slice aa A.arcs.length ac)) (first | go_keep | ((refine ⟨cell_gr B1 ?_, cell_gr T0 ?_, cell_gr S0 ?_, cell_gr S1 ?_⟩); (all_goals (focus ((repeat (first | exact Gr.refl _ | assumption | apply Gr.alloc | apply Gr.drew | apply Gr.drewN | refine Gr.trans ?_ (by assumption))); done))))) (first | (go_at_call 48; (with_reducible refine (Live_calls _ A (N.trans.length : Int) _ (hS.gr ?_) hC64 hml hal).mono ?_); ((focus ((repeat (first | exact Gr.refl _ | assumption | apply Gr.alloc | apply Gr.drew | apply Gr.drewN | refine Gr.trans ?_ (by assumption))); done))); rintro _ w6 ⟨v6, rfl, o6, g6⟩) | (go_at_call 26; (with_reducible refine (Contains_calls _ (liveF A (N.trans.length : Int)) t _ (o6.ints.gr ?_)).mono ?_); ((focus ((repeat (first | exact Gr.refl _ | assumption | apply Gr.alloc | apply Gr.drew | apply Gr.drewN | refine Gr.trans ?_ (by assumption))); done))); rw [hlt]; rintro _ _ ⟨rfl, rfl⟩))
    all_goals
      have GX : Gr w5 w6 := by (repeat (first | exact Gr.refl _ | assumption | apply Gr.alloc | apply Gr.drew | apply Gr.drewN | refine Gr.trans ?_ (by assumption)))
      replace S0 := cell_gr S0 GX
      replace S1 := cell_gr S1 GX
      replace B0 := cell_gr B0 GX
      replace B1 := cell_gr B1 GX
      replace T0 := cell_gr T0 GX
      replace F0 := cell_gr F0 GX
      replace GW := GW.trans GX
      replace hS := hS.gr GX
      obtain ⟨_, _, hms, hSM, _⟩ := hS
      cases hms
      clear o6 g6 GX hlt i4
      go_wp2_with fail
      refine (ContainsFuncRow_calls _ A.marks 49 _ (fun y => !ableB N y t) _ eg2 hSM (LiveRuns2_answers _ N a cap _ _ _ t _ (hN'.gr GW) B0 B1 T0 F0)).mono ?_
      rw [hun2]; rintro _ w8 ⟨rfl, g8⟩
      go_wp2_with fail
      go_ret
      exact ⟨rfl, GW.trans g8⟩
  · have hab := live_able hs1 hr (by rw [← hA]; exact (hasB_iff _ _).1 hlt)
    clear ha hr hs1 hW hfit hA
    have egf : ∀ args w, (callFunc 45 args).run Try.prog w = .ok (.enter 45 args) w := (Go.Proofs.enters_of Try.func45 (by kernel_rfl) rfl)
    go_enter Try.func12, Try.ntmps12
    go_wp2_with fail
    refine (alive7_calls _).mono ?_
    rintro _ w1 ⟨rfl, g1⟩
    have g1' : Gr (w.alloc (.cells #[.int .i64 N.places, .slice a N.trans.length cap] 24)) w1 := ((Gr.refl _).alloc _).trans g1
    have B0 := box_cell g1' (i := 0) rfl
    have B1 := box_cell g1' (i := 1) rfl
    have T0 : w1.cell? ⟨w.heap.size + 1, 0, none⟩ = some (.int .i64 t) := by have h := box_cell g1 (i := 0) rfl; simpa using h
    have GW : Gr w w1 := ((Gr.refl w).alloc _).trans g1'
    go_wp2_with fail
    refine (Graph_calls _ _ N m 60 _ (hN'.gr GW) (hm.gr GW) hlim).mono ?_
    rw [HA.out]; rintro _ w2 ⟨v2, rfl, i2, g2⟩
    obtain ⟨ma, mc, aa, ac, rfl, hc1, hc2, hc3, hc4, _, _⟩ := i2.open_
    have GS : Gr w2 (w2.alloc (.cells #[.slice ma A.marks.length mc, .slice aa A.arcs.length ac] 76)) := (Gr.refl _).alloc _
    have S0 : (w2.alloc (.cells #[.slice ma A.marks.length mc, .slice aa A.arcs.length ac] 76)).cell? ⟨w2.heap.size, 0, none⟩ = some (.slice ma A.marks.length mc) := box_cell (Gr.refl _) (i := 0) rfl
    have S1 : (w2.alloc (.cells #[.slice ma A.marks.length mc, .slice aa A.arcs.length ac] 76)).cell? ⟨w2.heap.size, 1, none⟩ = some (.slice aa A.arcs.length ac) := box_cell (Gr.refl _) (i := 1) rfl
    replace B0 := cell_gr (cell_gr B0 g2) GS
    replace B1 := cell_gr (cell_gr B1 g2) GS
    replace T0 := cell_gr (cell_gr T0 g2) GS
    replace GW := (GW.trans g2).trans GS
    have hS := i2.gr GS
    clear g1 g1' g2 GS i2
    go_wp2_with fail
    generalize w2.alloc (.cells #[.slice ma A.marks.length mc, .slice aa A.arcs.length ac] 76) = w3 at S0 S1 B0 B1 T0 GW hS ⊢
    generalize w2.heap.size = sb at S0 S1 ⊢
    refine (Run_own _ _ _ N m seq _ (hN'.gr GW) (hm.gr GW) (hs.gr GW)).mono ?_
    rw [HR.out]; rintro _ w4 ⟨v4, rfl, o4, g4⟩
    have i4 := o4.ints
    replace S0 := cell_gr S0 g4
    replace S1 := cell_gr S1 g4
    replace B0 := cell_gr B0 g4
    replace B1 := cell_gr B1 g4
    replace T0 := cell_gr T0 g4
    replace GW := GW.trans g4
    replace hS := hS.gr g4
    clear g4 o4
    go_wp2_with fail
    obtain ⟨xa, xc, rfl, _, _⟩ := i4.len
    have GF : Gr w4 (w4.alloc (.cells #[.func (.func 45) #[] #[.pointer (some ⟨w.heap.size, 0, none⟩), .pointer (some ⟨w.heap.size + 1, 0, none⟩)]] 82)) := (Gr.refl _).alloc _
    have F0 : (w4.alloc (.cells #[.func (.func 45) #[] #[.pointer (some ⟨w.heap.size, 0, none⟩), .pointer (some ⟨w.heap.size + 1, 0, none⟩)]] 82)).cell? ⟨w4.heap.size, 0, none⟩ = some (.func (.func 45) #[] #[.pointer (some ⟨w.heap.size, 0, none⟩), .pointer (some ⟨w.heap.size + 1, 0, none⟩)]) := box_cell (Gr.refl _) (i := 0) rfl
    replace S0 := cell_gr S0 GF
    replace S1 := cell_gr S1 GF
    replace B0 := cell_gr B0 GF
    replace B1 := cell_gr B1 GF
    replace T0 := cell_gr T0 GF
    replace GW := GW.trans GF
    replace hS := hS.gr GF
    replace i4 := i4.gr GF
    clear GF
    go_wp2_with fail
    generalize w4.alloc (.cells #[.func (.func 45) #[] #[.pointer (some ⟨w.heap.size, 0, none⟩), .pointer (some ⟨w.heap.size + 1, 0, none⟩)]] 82) = w5 at F0 S0 S1 B0 B1 T0 GW hS i4 ⊢
    generalize w4.heap.size = fb at F0 ⊢
    go_region_held3 (fun w' => w'.cell? ⟨w.heap.size, 1, none⟩ = some (.slice a N.trans.length cap) ∧ w'.cell? ⟨w.heap.size + 1, 0, none⟩ = some (.int .i64 t) ∧ w'.cell? ⟨sb, 0, none⟩ = some (.slice ma A.marks.length mc) ∧ w'.cell? ⟨sb, 1, none⟩ = some (.slice aa A.arcs.length ac)) (first | go_keep | ((refine ⟨cell_gr B1 ?_, cell_gr T0 ?_, cell_gr S0 ?_, cell_gr S1 ?_⟩); (all_goals (focus ((repeat (first | exact Gr.refl _ | assumption | apply Gr.alloc | apply Gr.drew | apply Gr.drewN | refine Gr.trans ?_ (by assumption))); done))))) (first | (go_at_call 48; (with_reducible refine (Live_calls _ A (N.trans.length : Int) _ (hS.gr ?_) hC64 hml hal).mono ?_); ((focus ((repeat (first | exact Gr.refl _ | assumption | apply Gr.alloc | apply Gr.drew | apply Gr.drewN | refine Gr.trans ?_ (by assumption))); done))); rintro _ w6 ⟨v6, rfl, o6, g6⟩) | (go_at_call 26; (with_reducible refine (Contains_calls _ (liveF A (N.trans.length : Int)) t _ (o6.ints.gr ?_)).mono ?_); ((focus ((repeat (first | exact Gr.refl _ | assumption | apply Gr.alloc | apply Gr.drew | apply Gr.drewN | refine Gr.trans ?_ (by assumption))); done))); rw [hlt]; rintro _ _ ⟨rfl, rfl⟩))
    all_goals
      have GX : Gr w5 w6 := by (repeat (first | exact Gr.refl _ | assumption | apply Gr.alloc | apply Gr.drew | apply Gr.drewN | refine Gr.trans ?_ (by assumption)))
      replace B0 := cell_gr B0 GX
      replace B1 := cell_gr B1 GX
      replace T0 := cell_gr T0 GX
      replace F0 := cell_gr F0 GX
      replace GW := GW.trans GX
      have hcall := LiveRuns1_calls _ N a cap _ _ x t w6 (hN'.gr GW) (i4.gr GX) B0 B1 T0
      rw [hab] at hcall
      clear o6 g6 GX hlt i4 S0 S1
      go_wp2_with (go_at_fn 45; refine hcall.mono ?_; rintro e w' ⟨rfl, g8⟩)
      go_ret
      exact ⟨rfl, GW.trans g8⟩
end Go.Proofs.Ytbopachnkbjmfaa
